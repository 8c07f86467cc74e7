/-
  Draws of a history and orders.
-/
import Derived.Test.YtdgfipoibnjhaaaDoorOrdD
import Derived.Test.YtdgfipoibnjhaaaDoorOwnC
namespace Go.Proofs.YtdgfipoibnjhaaaDoor
set_option linter.unusedSimpArgs false
set_option linter.unusedVariables false
set_option maxRecDepth 100000
open Go.RowKit

/-- a drawn history and drawn orders -/
def DrewO (w : World) (e : Ending) (w' : World) : Prop := ∃ (h : List TxnT) (A : Option Addr) (c : Nat) (R : List (List Int)) (B : Option Addr) (d : Nat), e = .returned (.tuple #[.slice A h.length c, .slice B R.length d]) ∧ h.length ≤ c ∧ Txns (fun b => w.heap.size ≤ b) w' A h ∧ Caps w' A h.length ∧ SmallH h ∧ R.length ≤ d ∧ Rows2 (fun b => w.heap.size ≤ b) w' B R ∧ SmallO R ∧ Ext w w'
set_option maxHeartbeats 2000000 in
theorem DrawOrdersValid_c (xs : List Int) (A : Option Addr) (c : Nat) (w : World) (h : Byts Any w A xs) (hv : ∀ x ∈ xs, 0 ≤ x ∧ x ≤ 255) (hc : xs.length ≤ c) :
    Calls Tryd.prog 14 #[.slice A xs.length c] w (DrewO w) := by
  go_enter Tryd.func14, Tryd.ntmps14
  go_wp2_with (fail)
  go_at_call 35
  refine (l20Open_c xs A c _ (h.ext (by (repeat' (first | (with_reducible exact Below.refl _ _) | (with_reducible refine Below.mono (by assumption) ?_) | (with_reducible refine Below.trans ?_ (Below.mono (by assumption) ?_)) | (with_reducible refine Below.alloc ?_ ?_ _) | (with_reducible refine Below.drew ?_) | (with_reducible refine below_drewN ?_ _) | (with_reducible refine Below.setCell ?_ ?_ _) | (simp only [World.size_alloc, World.size_setCell, World.size_drew, size_drewN]; omega) | omega)))) hv hc).mono ?_
  rintro e w1 ⟨r, rfl, hr, hR, hb⟩
  obtain ⟨hc, hf, hz, hs⟩ := bcell hb
  (try simp only [World.size_alloc, World.size_setCell, World.size_drew, size_drewN] at hs); (first | have l0 := Nat.lt_of_lt_of_le l0 (show _ ≤ w1.heap.size by omega) | have l0 : w.heap.size < w1.heap.size := (by omega) | skip); (try have l0e := Nat.le_of_lt l0); (try have l0f := Nat.le_add_right_of_le (k := 1) l0e); (try have l1 := Nat.lt_of_lt_of_le l1 (show _ ≤ w1.heap.size by omega)); (try have l1e := Nat.le_of_lt l1); (try have l1f := Nat.le_add_right_of_le (k := 1) l1e); (try have l2 := Nat.lt_of_lt_of_le l2 (show _ ≤ w1.heap.size by omega)); (try have l2e := Nat.le_of_lt l2); (try have l2f := Nat.le_add_right_of_le (k := 1) l2e); (try have l3 := Nat.lt_of_lt_of_le l3 (show _ ≤ w1.heap.size by omega)); (try have l3e := Nat.le_of_lt l3); (try have l3f := Nat.le_add_right_of_le (k := 1) l3e)
  have hb_1 := hb
  go_wp2_with (fail)
  go_at_call 34
  refine (l20History_c r 0 5 9 _ hR (by omega) (by omega) (by omega) (by omega)).mono ?_
  rintro e w2 ⟨ps, lim, vo, rfl, hT, hl, hps, hR2, hG⟩
  obtain ⟨hc, hf, hz, hs⟩ := gcell hG
  (try simp only [World.size_alloc, World.size_setCell, World.size_drew, size_drewN] at hs); (first | have l0 := Nat.lt_of_lt_of_le l0 (show _ ≤ w2.heap.size by omega) | have l0 : w.heap.size < w2.heap.size := (by omega) | skip); (try have l0e := Nat.le_of_lt l0); (try have l0f := Nat.le_add_right_of_le (k := 1) l0e); (try have l1 := Nat.lt_of_lt_of_le l1 (show _ ≤ w2.heap.size by omega)); (try have l1e := Nat.le_of_lt l1); (try have l1f := Nat.le_add_right_of_le (k := 1) l1e); (try have l2 := Nat.lt_of_lt_of_le l2 (show _ ≤ w2.heap.size by omega)); (try have l2e := Nat.le_of_lt l2); (try have l2f := Nat.le_add_right_of_le (k := 1) l2e); (try have l3 := Nat.lt_of_lt_of_le l3 (show _ ≤ w2.heap.size by omega)); (try have l3e := Nat.le_of_lt l3); (try have l3f := Nat.le_add_right_of_le (k := 1) l3e)
  obtain ⟨A2, c2, rfl, hc2, hx2⟩ := hT.read
  have hsm := small_map hl hps
  have hcp := hT.capN
  have hcc := hT.caps
  rw [show ps.length = (ps.map PT.txn).length by simp] at hcp hcc
  clear hT
  generalize ps.map PT.txn = H at hx2 hsm hc2 hcp hcc ⊢
  have hr1 := hR.lt
  have hr2 := hR2.lt
  have HG := Lib.hid hG
  have HX2 := Lib.hid hx2
  have HCP := Lib.hid hcp
  have HCC := Lib.hid hcc
  have HR2 := Lib.hid hR2
  have HB1 := Lib.hid hb_1
  have hz12 := hb_1.size
  have hz23 := hG.size
  clear hG hx2 hR2 hb_1 hb hR hc hf hz hcp hcc
  go_wp2_with (fail)
  go_at_call 40
  refine (l20Orders_c H _ A2 c2 r _ 2 _ HX2.out HCP.out hsm.small HR2.out (by omega) (by omega)).mono ?_
  rintro e w3 ⟨R, B, d, rfl, hd, hrw, hso, hR3, hG3⟩
  have HG3 := Lib.hid hG3
  have HRW := Lib.hid hrw
  have HX3 := Lib.hid (txns_pick HX2.out hG3 hr1)
  have HC3 := Lib.hid (caps_pick HX2.out HCC.out hG3 hr1)
  clear hG3 hrw
  go_wp2
  go_ret2
  exact ⟨H, A2, c2, R, B, d, rfl, hc2, txns_low HX3.out (by omega), HC3.out, hsm, hd, SlAt.mono HRW.out (fun b hb _ => by omega) (mono_row (fun b hb _ => by omega)), hso, grown_new HB1.out hr (grown_trans HG.out HG3.out)⟩
end Go.Proofs.YtdgfipoibnjhaaaDoor
