/-
  The draw of a history, orders and a level.
-/
import Derived.Test.YtmbdacfgmiielaaGreatDoorDrawHi
import Derived.Test.YtmbdacfgmiielaaGreatDoorGDrawH14
import Derived.Test.YtmbdacfgmiielaaGreatDoorOrdD
import Derived.Deep.RegionHeld3
import Derived.Deep.CutRange
/-
  A history of the call's own has room for its operations.
-/
namespace Go.Proofs.YtmbdacfgmiielaaGreatDoor
set_option linter.unusedSimpArgs false
set_option linter.unusedVariables false
set_option maxRecDepth 100000
open Go.RowKit

/-- a history of the call's own has room for its operations -/
theorem OwnT.caps {w : World} {B lim : Nat} {A : Option Addr} {n c : Nat} {ps : List PT} (h : OwnT w B lim (.slice A n c) ps) : Caps w A ps.length := fun b off e => by
  obtain ⟨h1, h2⟩ := h
  subst e
  rcases h1.2 with ⟨hv, _⟩ | ⟨g, cap, cur, hv, hb, hg, hle, hm, hs, ht⟩
  · cases hv
  · cases hv
    refine ⟨(Array.getElem?_eq_some_iff.1 hg).1, fun i hi A' n' c' hc => ?_⟩
    obtain ⟨p, hp⟩ : ∃ p, ps[i]? = some p := ⟨_, List.getElem?_eq_getElem hi⟩
    have hcell := cell_of_row w b (i * 3 + 1) cur 37 (0, 0) hg
    rw [Nat.zero_add, hcell] at hc
    have hfl : (flatP ps)[i * 3 + 1]? = some (.slice p.A p.ops.length p.c) := flatP_at ps i p hp 1 _ rfl
    have hlt : i * 3 + 1 < ps.length * 3 := by omega
    have h3 : cur[i * 3 + 1]? = some (.slice p.A p.ops.length p.c) := by
      rw [← hfl, ← ht, List.getElem?_take, if_pos hlt]
      simp
    rw [h3] at hc
    cases hc
    exact (h2 p (List.mem_of_getElem? hp)).1.slCap
theorem caps_pick {B r : Nat} {W W' : World} {A : Option Addr} {h : List TxnT} (hx : Txns (fun b => B ≤ b) W A h) (hc : Caps W A h.length) (hG : W.grownBy W' (some r)) (hr : r < B) : Caps W' A h.length := fun b off e => by
  obtain ⟨h1, h2⟩ := hc b off e
  refine ⟨Nat.lt_of_lt_of_le h1 hG.size, fun i hi A' n c hcell => h2 i hi A' n c ?_⟩
  obtain ⟨b', off', us, e', hB, hlt, _⟩ := hx i _ (List.getElem?_eq_getElem hi)
  rw [e] at e'
  cases e'
  rw [← hcell]
  exact (World.cell?_of_block (hG.block b hlt (fun e => by have := Option.some.inj e; omega))).symm
end Go.Proofs.YtmbdacfgmiielaaGreatDoor
/-
  Draws of a history and orders.
-/
namespace Go.Proofs.YtmbdacfgmiielaaGreatDoor
set_option linter.unusedSimpArgs false
set_option linter.unusedVariables false
set_option maxRecDepth 100000
open Go.RowKit

/-- a drawn history and drawn orders -/
def DrewO (w : World) (e : Ending) (w' : World) : Prop := ∃ (h : List TxnT) (A : Option Addr) (c : Nat) (R : List (List Int)) (B : Option Addr) (d : Nat), e = .returned (.tuple #[.slice A h.length c, .slice B R.length d]) ∧ h.length ≤ c ∧ Txns (fun b => w.heap.size ≤ b) w' A h ∧ Caps w' A h.length ∧ SmallH h ∧ R.length ≤ d ∧ Rows2 (fun b => w.heap.size ≤ b) w' B R ∧ SmallO R ∧ Ext w w'
set_option maxHeartbeats 2000000 in
theorem DrawEdgesOf_c (xs : List Int) (A : Option Addr) (c : Nat) (w : World) (h : Byts Any w A xs) (hv : ∀ x ∈ xs, 0 ≤ x ∧ x ≤ 255) (hc : xs.length ≤ c) :
    Calls Tryz.prog 6 #[.slice A xs.length c] w (DrewO w) := by
  go_enter Tryz.func6, Tryz.ntmps6
  go_wp2_with (fail)
  go_at_call 21
  refine (l20Open_c xs A c _ (h.ext (by (repeat' (first | (with_reducible exact Below.refl _ _) | (with_reducible refine Below.mono (by assumption) ?_) | (with_reducible refine Below.trans ?_ (Below.mono (by assumption) ?_)) | (with_reducible refine Below.alloc ?_ ?_ _) | (with_reducible refine Below.drew ?_) | (with_reducible refine below_drewN ?_ _) | (with_reducible refine Below.setCell ?_ ?_ _) | (simp only [World.size_alloc, World.size_setCell, World.size_drew, size_drewN]; omega) | omega)))) hv hc).mono ?_
  rintro e w1 ⟨r, rfl, hr, hR, hb⟩
  obtain ⟨hc, hf, hz, hs⟩ := bcell hb
  (try simp only [World.size_alloc, World.size_setCell, World.size_drew, size_drewN] at hs); (first | have l0 := Nat.lt_of_lt_of_le l0 (show _ ≤ w1.heap.size by omega) | have l0 : w.heap.size < w1.heap.size := (by omega) | skip); (try have l0e := Nat.le_of_lt l0); (try have l0f := Nat.le_add_right_of_le (k := 1) l0e); (try have l1 := Nat.lt_of_lt_of_le l1 (show _ ≤ w1.heap.size by omega)); (try have l1e := Nat.le_of_lt l1); (try have l1f := Nat.le_add_right_of_le (k := 1) l1e); (try have l2 := Nat.lt_of_lt_of_le l2 (show _ ≤ w1.heap.size by omega)); (try have l2e := Nat.le_of_lt l2); (try have l2f := Nat.le_add_right_of_le (k := 1) l2e); (try have l3 := Nat.lt_of_lt_of_le l3 (show _ ≤ w1.heap.size by omega)); (try have l3e := Nat.le_of_lt l3); (try have l3f := Nat.le_add_right_of_le (k := 1) l3e)
  have hb_1 := hb
  go_wp2_with (fail)
  go_at_call 22
  refine (l20History_c r 0 5 9 _ hR (by omega) (by omega) (by omega) (by omega)).mono ?_
  rintro e w2 ⟨ps, lim, vo, rfl, hT, hl, hps, hR2, hG⟩
  obtain ⟨hc, hf, hz, hs⟩ := gcell hG
  (try simp only [World.size_alloc, World.size_setCell, World.size_drew, size_drewN] at hs); (first | have l0 := Nat.lt_of_lt_of_le l0 (show _ ≤ w2.heap.size by omega) | have l0 : w.heap.size < w2.heap.size := (by omega) | skip); (try have l0e := Nat.le_of_lt l0); (try have l0f := Nat.le_add_right_of_le (k := 1) l0e); (try have l1 := Nat.lt_of_lt_of_le l1 (show _ ≤ w2.heap.size by omega)); (try have l1e := Nat.le_of_lt l1); (try have l1f := Nat.le_add_right_of_le (k := 1) l1e); (try have l2 := Nat.lt_of_lt_of_le l2 (show _ ≤ w2.heap.size by omega)); (try have l2e := Nat.le_of_lt l2); (try have l2f := Nat.le_add_right_of_le (k := 1) l2e); (try have l3 := Nat.lt_of_lt_of_le l3 (show _ ≤ w2.heap.size by omega)); (try have l3e := Nat.le_of_lt l3); (try have l3f := Nat.le_add_right_of_le (k := 1) l3e)
  obtain ⟨A2, c2, rfl, hc2, hx2⟩ := hT.read
  have hsm := small_map hl hps
  have hcp := hT.capN
  have hcc := hT.caps
  rw [show ps.length = (ps.map PT.txn).length by simp] at hcp hcc
  clear hT
  generalize ps.map PT.txn = H at hx2 hsm hc2 hcp hcc ⊢
  have hr1 := hR.lt
  have hr2 := hR2.lt
  have HG := Lib.hid hG
  have HX2 := Lib.hid hx2
  have HCP := Lib.hid hcp
  have HCC := Lib.hid hcc
  have HR2 := Lib.hid hR2
  have HB1 := Lib.hid hb_1
  have hz12 := hb_1.size
  have hz23 := hG.size
  clear hG hx2 hR2 hb_1 hb hR hc hf hz hcp hcc
  go_wp2_with (fail)
  go_at_call 23
  refine (l20Orders_c H _ A2 c2 r _ 9 _ HX2.out HCP.out hsm.small HR2.out (by omega) (by omega)).mono ?_
  rintro e w3 ⟨R, B, d, rfl, hd, hrw, hso, hR3, hG3⟩
  have HG3 := Lib.hid hG3
  have HRW := Lib.hid hrw
  have HX3 := Lib.hid (txns_pick HX2.out hG3 hr1)
  have HC3 := Lib.hid (caps_pick HX2.out HCC.out hG3 hr1)
  clear hG3 hrw
  go_wp2
  go_ret2
  exact ⟨H, A2, c2, R, B, d, rfl, hc2, txns_low HX3.out (by omega), HC3.out, hsm, hd, SlAt.mono HRW.out (fun b hb _ => by omega) (mono_row (fun b hb _ => by omega)), hso, grown_new HB1.out hr (grown_trans HG.out HG3.out)⟩
theorem DrawLevelOf_c (xs : List Int) (A : Option Addr) (c : Nat) (w : World) (h : Byts Any w A xs) (hv : ∀ x ∈ xs, 0 ≤ x ∧ x ≤ 255) (hc : xs.length ≤ c) :
    Calls Tryz.prog 18 #[.slice A xs.length c] w (DrewO w) := by
  go_enter Tryz.func18, Tryz.ntmps18
  go_wp2_with (fail)
  go_at_call 6
  refine (DrawEdgesOf_c xs A c _ h hv hc).mono ?_
  rintro e w1 ⟨H, A2, c2, R, B, d, rfl, hc2, hx2, hcp, hsm, hd, hR, hso, hb⟩
  obtain ⟨hc, hf, hz, hs⟩ := bcell hb
  (try simp only [World.size_alloc, World.size_setCell, World.size_drew, size_drewN] at hs); (first | have l0 := Nat.lt_of_lt_of_le l0 (show _ ≤ w1.heap.size by omega) | have l0 : w.heap.size < w1.heap.size := (by omega) | skip); (try have l0e := Nat.le_of_lt l0); (try have l0f := Nat.le_add_right_of_le (k := 1) l0e); (try have l1 := Nat.lt_of_lt_of_le l1 (show _ ≤ w1.heap.size by omega)); (try have l1e := Nat.le_of_lt l1); (try have l1f := Nat.le_add_right_of_le (k := 1) l1e); (try have l2 := Nat.lt_of_lt_of_le l2 (show _ ≤ w1.heap.size by omega)); (try have l2e := Nat.le_of_lt l2); (try have l2f := Nat.le_add_right_of_le (k := 1) l2e); (try have l3 := Nat.lt_of_lt_of_le l3 (show _ ≤ w1.heap.size by omega)); (try have l3e := Nat.le_of_lt l3); (try have l3f := Nat.le_add_right_of_le (k := 1) l3e)
  go_wp2
  go_ret2
  exact ⟨H, A2, c2, R, B, d, rfl, hc2, hx2, hcp, hsm, hd, hR, hso, hb⟩
end Go.Proofs.YtmbdacfgmiielaaGreatDoor
namespace Go.Proofs.YtmbdacfgmiielaaGreatDoor
set_option linter.unusedSimpArgs false
set_option linter.unusedVariables false
set_option maxRecDepth 100000
open Go.RowKit

theorem levels_at (k : Nat) (hk : k < 7) : ∃ z : Int, (#[.int .i64 0, .int .i64 1, .int .i64 2, .int .i64 3, .int .i64 4, .int .i64 (-1), .int .i64 5] : Array Value)[k]? = some (.int .i64 z) ∧ -1 ≤ z ∧ z ≤ 5 := by
  obtain rfl | rfl | rfl | rfl | rfl | rfl | rfl : k = 0 ∨ k = 1 ∨ k = 2 ∨ k = 3 ∨ k = 4 ∨ k = 5 ∨ k = 6 := by omega
  all_goals exact ⟨_, rfl, by decide, by decide⟩
theorem blkL {w w' : World} {g r : Nat} {t : TypeId} {cs : Array Value} (h : Blk w g t cs) (hg : w.grownBy w' (some r)) (hne : r < g) : Blk w' g t cs := (hg.block g h.lt (fun e => by have := Option.some.inj e; omega)).trans h
theorem rows_pick {B r : Nat} {W W' : World} {A : Option Addr} {R : List (List Int)} (hx : Rows2 (fun b => B ≤ b) W A R) (hG : W.grownBy W' (some r)) (hr : r < B) : Rows2 (fun b => B ≤ b) W' A R := by
  have hk : ∀ p : Addr, B ≤ p.block → p.block < W.heap.size → W'.cell? p = W.cell? p := fun p hp hlt => World.cell?_of_block (hG.block p.block hlt (fun e => by have := Option.some.inj e; omega))
  exact SlAt.keep hx (kept_row hG.size hk) hG.size hk
theorem rows_low {B B' : Nat} {W : World} {A : Option Addr} {R : List (List Int)} (hx : Rows2 (fun b => B ≤ b) W A R) (hb : B' ≤ B) : Rows2 (fun b => B' ≤ b) W A R :=
  SlAt.mono hx (fun _ h _ => Nat.le_trans hb h) (mono_row (fun _ h _ => Nat.le_trans hb h))
/-- a drawn history, drawn orders and a level -/
def DrewL (w : World) (e : Ending) (w' : World) : Prop := ∃ (h : List TxnT) (A : Option Addr) (c : Nat) (R : List (List Int)) (B : Option Addr) (d : Nat) (z : Int), e = .returned (.tuple #[.slice A h.length c, .slice B R.length d, .int .i64 z]) ∧ h.length ≤ c ∧ Txns (fun b => w.heap.size ≤ b) w' A h ∧ Caps w' A h.length ∧ SmallH h ∧ R.length ≤ d ∧ Rows2 (fun b => w.heap.size ≤ b) w' B R ∧ SmallO R ∧ -1 ≤ z ∧ z ≤ 5 ∧ Ext w w'
abbrev DrawnOx (w : World) (r P : Nat) (e : Ending) (W : World) : Prop := ∃ (R : List (List Int)) (A : Option Addr) (c : Nat), e = .returned (.slice A R.length c) ∧ R.length ≤ c ∧ Rows2 (fun b => w.heap.size ≤ b) W A R ∧ SmallO R ∧ RdrB W r P ∧ w.grownBy W (some r)
abbrev Pickedx (r P : Nat) (n : Int) (w : World) (e : Ending) (w' : World) : Prop := ∃ k : Nat, e = .returned (.int .i64 k) ∧ (1 ≤ n → (k : Int) < n) ∧ RdrB w' r (P + 1) ∧ w.grownBy w' (some r)
set_option maxHeartbeats 8000000 in
theorem DrawLevelAllows_c (xs : List Int) (A : Option Addr) (c : Nat) (w : World) (h : Byts Any w A xs) (hv : ∀ x ∈ xs, 0 ≤ x ∧ x ≤ 255) (hc : xs.length ≤ c) :
    Calls Tryz.prog 14 #[.slice A xs.length c] w (DrewL w) := by
  go_enter Tryz.func14, Tryz.ntmps14
  go_wp2_with (fail)
  go_at_call 21
  refine (l20Open_c xs A c _ (h.ext (by (repeat' (first | (with_reducible exact Below.refl _ _) | (with_reducible refine Below.mono (by assumption) ?_) | (with_reducible refine Below.trans ?_ (Below.mono (by assumption) ?_)) | (with_reducible refine Below.alloc ?_ ?_ _) | (with_reducible refine Below.drew ?_) | (with_reducible refine below_drewN ?_ _) | (with_reducible refine Below.setCell ?_ ?_ _) | (simp only [World.size_alloc, World.size_setCell, World.size_drew, size_drewN]; omega) | omega)))) hv hc).mono ?_
  rintro e w1 ⟨r, rfl, hr, hR, hb⟩
  obtain ⟨hc, hf, hz, hs⟩ := bcell hb
  (try simp only [World.size_alloc, World.size_setCell, World.size_drew, size_drewN] at hs); (first | have l0 := Nat.lt_of_lt_of_le l0 (show _ ≤ w1.heap.size by omega) | have l0 : w.heap.size < w1.heap.size := (by omega) | skip); (try have l0e := Nat.le_of_lt l0); (try have l0f := Nat.le_add_right_of_le (k := 1) l0e); (try have l1 := Nat.lt_of_lt_of_le l1 (show _ ≤ w1.heap.size by omega)); (try have l1e := Nat.le_of_lt l1); (try have l1f := Nat.le_add_right_of_le (k := 1) l1e); (try have l2 := Nat.lt_of_lt_of_le l2 (show _ ≤ w1.heap.size by omega)); (try have l2e := Nat.le_of_lt l2); (try have l2f := Nat.le_add_right_of_le (k := 1) l2e); (try have l3 := Nat.lt_of_lt_of_le l3 (show _ ≤ w1.heap.size by omega)); (try have l3e := Nat.le_of_lt l3); (try have l3f := Nat.le_add_right_of_le (k := 1) l3e)
  have hb_1 := hb
  go_wp2_with (fail)
  go_at_call 22
  refine (l20History_c r 0 4 12 _ hR (by omega) (by omega) (by omega) (by omega)).mono ?_
  rintro e w2 ⟨ps, lim, vo, rfl, hT, hl, hps, hR2, hG⟩
  obtain ⟨hc, hf, hz, hs⟩ := gcell hG
  (try simp only [World.size_alloc, World.size_setCell, World.size_drew, size_drewN] at hs); (first | have l0 := Nat.lt_of_lt_of_le l0 (show _ ≤ w2.heap.size by omega) | have l0 : w.heap.size < w2.heap.size := (by omega) | skip); (try have l0e := Nat.le_of_lt l0); (try have l0f := Nat.le_add_right_of_le (k := 1) l0e); (try have l1 := Nat.lt_of_lt_of_le l1 (show _ ≤ w2.heap.size by omega)); (try have l1e := Nat.le_of_lt l1); (try have l1f := Nat.le_add_right_of_le (k := 1) l1e); (try have l2 := Nat.lt_of_lt_of_le l2 (show _ ≤ w2.heap.size by omega)); (try have l2e := Nat.le_of_lt l2); (try have l2f := Nat.le_add_right_of_le (k := 1) l2e); (try have l3 := Nat.lt_of_lt_of_le l3 (show _ ≤ w2.heap.size by omega)); (try have l3e := Nat.le_of_lt l3); (try have l3f := Nat.le_add_right_of_le (k := 1) l3e)
  obtain ⟨A2, c2, rfl, hc2, hx2⟩ := hT.read
  have hsm := small_map hl hps
  have hcp := hT.capN
  have hcc := hT.caps
  rw [show ps.length = (ps.map PT.txn).length by simp] at hcp hcc
  clear hT
  generalize ps.map PT.txn = H at hx2 hsm hc2 hcp hcc ⊢
  have hr1 := hR.lt
  have hr2 := hR2.lt
  have HG := Lib.hid hG
  have HX2 := Lib.hid hx2
  have HCP := Lib.hid hcp
  have HCC := Lib.hid hcc
  have HR2 := Lib.hid hR2
  have HB1 := Lib.hid hb_1
  have hz12 := hb_1.size
  have hz23 := hG.size
  have CO := Lib.hid (fun W hx hc hr => (l20Orders_c H (fun b => w1.heap.size ≤ b) A2 c2 r (0 + 300) 12 W hx hc hsm.small hr (by omega) (by omega)).mono (fun e W' hh => (show DrawnOx W r (0 + 300 + 100) e W' from hh)))
  have CP := Lib.hid (fun W hr => (pick_c r (0 + 300 + 100) 7 W hr (by omega) (by omega) (by omega)).mono (fun e W' hh => (show Pickedx r (0 + 300 + 100) 7 W e W' from hh)))
  clear hG hx2 hR2 hb_1 hb hR hc hf hz hcp hcc
  go_upto_region 3 with (fail)
  go_cut [2, 3, 4] from 7 to 19 (fun v2 v3 v4 W => v2 = .slice A2 H.length c2 ∧ ∃ (R : List (List Int)) (B : Option Addr) (d : Nat) (z : Int), v3 = .slice B R.length d ∧ v4 = .int .i64 z ∧ R.length ≤ d ∧ Txns (fun b => w1.heap.size ≤ b) W A2 H ∧ Caps W A2 H.length ∧ Rows2 (fun b => w2.heap.size ≤ b) W B R ∧ SmallO R ∧ -1 ≤ z ∧ z ≤ 5 ∧ w2.grownBy W (some r))
  case first =>
    go_region_law (first
      | (go_simp; go_at_call 23; with_reducible refine (CO.out _ (HX2.out.ext (by (repeat' (first | (with_reducible exact Below.refl _ _) | (with_reducible refine Below.mono (by assumption) ?_) | (with_reducible refine Below.trans ?_ (Below.mono (by assumption) ?_)) | (with_reducible refine Below.alloc ?_ ?_ _) | (with_reducible refine Below.drew ?_) | (with_reducible refine below_drewN ?_ _) | (with_reducible refine Below.setCell ?_ ?_ _) | (simp only [World.size_alloc, World.size_setCell, World.size_drew, size_drewN]; omega) | omega)))) (HCP.out.ext (by (repeat' (first | (with_reducible exact Below.refl _ _) | (with_reducible refine Below.mono (by assumption) ?_) | (with_reducible refine Below.trans ?_ (Below.mono (by assumption) ?_)) | (with_reducible refine Below.alloc ?_ ?_ _) | (with_reducible refine Below.drew ?_) | (with_reducible refine below_drewN ?_ _) | (with_reducible refine Below.setCell ?_ ?_ _) | (simp only [World.size_alloc, World.size_setCell, World.size_drew, size_drewN]; omega) | omega)))) (HR2.out.ext (by (repeat' (first | (with_reducible exact Below.refl _ _) | (with_reducible refine Below.mono (by assumption) ?_) | (with_reducible refine Below.trans ?_ (Below.mono (by assumption) ?_)) | (with_reducible refine Below.alloc ?_ ?_ _) | (with_reducible refine Below.drew ?_) | (with_reducible refine below_drewN ?_ _) | (with_reducible refine Below.setCell ?_ ?_ _) | (simp only [World.size_alloc, World.size_setCell, World.size_drew, size_drewN]; omega) | omega))))).mono ?_; rintro e w3 ⟨R, B, d, rfl, hd, hrw, hso, hR3, hG3⟩
         have HX3 := Lib.hid (txns_pick (HX2.out.ext (by (repeat' (first | (with_reducible exact Below.refl _ _) | (with_reducible refine Below.mono (by assumption) ?_) | (with_reducible refine Below.trans ?_ (Below.mono (by assumption) ?_)) | (with_reducible refine Below.alloc ?_ ?_ _) | (with_reducible refine Below.drew ?_) | (with_reducible refine below_drewN ?_ _) | (with_reducible refine Below.setCell ?_ ?_ _) | (simp only [World.size_alloc, World.size_setCell, World.size_drew, size_drewN]; omega) | omega)))) hG3 hr1)
         have HC3 := Lib.hid (caps_pick (HX2.out.ext (by (repeat' (first | (with_reducible exact Below.refl _ _) | (with_reducible refine Below.mono (by assumption) ?_) | (with_reducible refine Below.trans ?_ (Below.mono (by assumption) ?_)) | (with_reducible refine Below.alloc ?_ ?_ _) | (with_reducible refine Below.drew ?_) | (with_reducible refine below_drewN ?_ _) | (with_reducible refine Below.setCell ?_ ?_ _) | (simp only [World.size_alloc, World.size_setCell, World.size_drew, size_drewN]; omega) | omega)))) (HCC.out.ext (by (repeat' (first | (with_reducible exact Below.refl _ _) | (with_reducible refine Below.mono (by assumption) ?_) | (with_reducible refine Below.trans ?_ (Below.mono (by assumption) ?_)) | (with_reducible refine Below.alloc ?_ ?_ _) | (with_reducible refine Below.drew ?_) | (with_reducible refine below_drewN ?_ _) | (with_reducible refine Below.setCell ?_ ?_ _) | (simp only [World.size_alloc, World.size_setCell, World.size_drew, size_drewN]; omega) | omega)))) hG3 hr1)
         have HRW3 := Lib.hid (rows_low hrw (show w2.heap.size ≤ _ by simp only [World.size_alloc, World.size_drew]; omega))
         have hG23 := grown_trans (grown_ext (show Ext w2 _ by (repeat' (first | (with_reducible exact Below.refl _ _) | (with_reducible refine Below.mono (by assumption) ?_) | (with_reducible refine Below.trans ?_ (Below.mono (by assumption) ?_)) | (with_reducible refine Below.alloc ?_ ?_ _) | (with_reducible refine Below.drew ?_) | (with_reducible refine below_drewN ?_ _) | (with_reducible refine Below.setCell ?_ ?_ _) | (simp only [World.size_alloc, World.size_setCell, World.size_drew, size_drewN]; omega) | omega))) (some r)) hG3
         have HG23 := Lib.hid hG23
         have hz3 := hG23.size
         first
         | (have HB3 := Lib.hid (blkL (show Blk (w2.alloc (.cells #[.int .i64 0, .int .i64 1, .int .i64 2, .int .i64 3, .int .i64 4, .int .i64 (-1), .int .i64 5] 3)).drew w2.heap.size 3 #[.int .i64 0, .int .i64 1, .int .i64 2, .int .i64 3, .int .i64 4, .int .i64 (-1), .int .i64 5] from Blk.new w2 3 _) hG3 hr2))
         | (have HB3 := Lib.hid (blkL (show Blk (w2.drew.alloc (.cells #[.int .i64 0, .int .i64 1, .int .i64 2, .int .i64 3, .int .i64 4, .int .i64 (-1), .int .i64 5] 3)) w2.heap.size 3 #[.int .i64 0, .int .i64 1, .int .i64 2, .int .i64 3, .int .i64 4, .int .i64 (-1), .int .i64 5] from Blk.new w2.drew 3 _) hG3 hr2))
         | (have HB3 := Lib.hid (blkL (show Blk (w2.alloc (.cells #[.int .i64 0, .int .i64 1, .int .i64 2, .int .i64 3, .int .i64 4, .int .i64 (-1), .int .i64 5] 3)) w2.heap.size 3 #[.int .i64 0, .int .i64 1, .int .i64 2, .int .i64 3, .int .i64 4, .int .i64 (-1), .int .i64 5] from Blk.new w2 3 _) hG3 hr2))
         | skip
         clear hrw hG23 hG3)
      | (go_simp; go_at_call 43; with_reducible refine (CP.out _ (hR3.ext (by (repeat' (first | (with_reducible exact Below.refl _ _) | (with_reducible refine Below.mono (by assumption) ?_) | (with_reducible refine Below.trans ?_ (Below.mono (by assumption) ?_)) | (with_reducible refine Below.alloc ?_ ?_ _) | (with_reducible refine Below.drew ?_) | (with_reducible refine below_drewN ?_ _) | (with_reducible refine Below.setCell ?_ ?_ _) | (simp only [World.size_alloc, World.size_setCell, World.size_drew, size_drewN]; omega) | omega))))).mono ?_; rintro e w5 ⟨z, rfl, hz7, hR5, hG5⟩
         have hz7 := hz7 (by omega)
         obtain ⟨y, hy, hy0, hy5⟩ := levels_at z (by omega)
         have HX5 := Lib.hid (txns_pick (HX3.out.ext (by (repeat' (first | (with_reducible exact Below.refl _ _) | (with_reducible refine Below.mono (by assumption) ?_) | (with_reducible refine Below.trans ?_ (Below.mono (by assumption) ?_)) | (with_reducible refine Below.alloc ?_ ?_ _) | (with_reducible refine Below.drew ?_) | (with_reducible refine below_drewN ?_ _) | (with_reducible refine Below.setCell ?_ ?_ _) | (simp only [World.size_alloc, World.size_setCell, World.size_drew, size_drewN]; omega) | omega)))) hG5 hr1)
         have HC5 := Lib.hid (caps_pick (HX3.out.ext (by (repeat' (first | (with_reducible exact Below.refl _ _) | (with_reducible refine Below.mono (by assumption) ?_) | (with_reducible refine Below.trans ?_ (Below.mono (by assumption) ?_)) | (with_reducible refine Below.alloc ?_ ?_ _) | (with_reducible refine Below.drew ?_) | (with_reducible refine below_drewN ?_ _) | (with_reducible refine Below.setCell ?_ ?_ _) | (simp only [World.size_alloc, World.size_setCell, World.size_drew, size_drewN]; omega) | omega)))) (HC3.out.ext (by (repeat' (first | (with_reducible exact Below.refl _ _) | (with_reducible refine Below.mono (by assumption) ?_) | (with_reducible refine Below.trans ?_ (Below.mono (by assumption) ?_)) | (with_reducible refine Below.alloc ?_ ?_ _) | (with_reducible refine Below.drew ?_) | (with_reducible refine below_drewN ?_ _) | (with_reducible refine Below.setCell ?_ ?_ _) | (simp only [World.size_alloc, World.size_setCell, World.size_drew, size_drewN]; omega) | omega)))) hG5 hr1)
         have HRW5 := Lib.hid (rows_pick (HRW3.out.ext (by (repeat' (first | (with_reducible exact Below.refl _ _) | (with_reducible refine Below.mono (by assumption) ?_) | (with_reducible refine Below.trans ?_ (Below.mono (by assumption) ?_)) | (with_reducible refine Below.alloc ?_ ?_ _) | (with_reducible refine Below.drew ?_) | (with_reducible refine below_drewN ?_ _) | (with_reducible refine Below.setCell ?_ ?_ _) | (simp only [World.size_alloc, World.size_setCell, World.size_drew, size_drewN]; omega) | omega)))) hG5 hr2)
         have HG25 := Lib.hid (grown_trans (grown_trans HG23.out (grown_ext (show Ext w3 _ by (repeat' (first | (with_reducible exact Below.refl _ _) | (with_reducible refine Below.mono (by assumption) ?_) | (with_reducible refine Below.trans ?_ (Below.mono (by assumption) ?_)) | (with_reducible refine Below.alloc ?_ ?_ _) | (with_reducible refine Below.drew ?_) | (with_reducible refine below_drewN ?_ _) | (with_reducible refine Below.setCell ?_ ?_ _) | (simp only [World.size_alloc, World.size_setCell, World.size_drew, size_drewN]; omega) | omega))) (some r))) hG5)
         first
         | (have hcell : w5.cell? ⟨w2.heap.size, z, none⟩ = some (.int .i64 y) := ((blkL (HB3.out.ext (show Ext w3 w3.drew by (repeat' (first | (with_reducible exact Below.refl _ _) | (with_reducible refine Below.mono (by assumption) ?_) | (with_reducible refine Below.trans ?_ (Below.mono (by assumption) ?_)) | (with_reducible refine Below.alloc ?_ ?_ _) | (with_reducible refine Below.drew ?_) | (with_reducible refine below_drewN ?_ _) | (with_reducible refine Below.setCell ?_ ?_ _) | (simp only [World.size_alloc, World.size_setCell, World.size_drew, size_drewN]; omega) | omega)))) hG5 hr2).cell z).trans hy)
         | (have hcell : w5.cell? ⟨w2.heap.size, z, none⟩ = some (.int .i64 y) := ((blkL HB3.out hG5 hr2).cell z).trans hy)
         | (have hcell : w5.cell? ⟨w3.heap.size, z, none⟩ = some (.int .i64 y) := ((blkL (show Blk (w3.alloc (.cells #[.int .i64 0, .int .i64 1, .int .i64 2, .int .i64 3, .int .i64 4, .int .i64 (-1), .int .i64 5] 3)).drew w3.heap.size 3 #[.int .i64 0, .int .i64 1, .int .i64 2, .int .i64 3, .int .i64 4, .int .i64 (-1), .int .i64 5] from Blk.new w3 3 _) hG5 (by omega)).cell z).trans hy)
         | (have hcell : w5.cell? ⟨w3.heap.size, z, none⟩ = some (.int .i64 y) := ((blkL (show Blk (w3.alloc (.cells #[.int .i64 0, .int .i64 1, .int .i64 2, .int .i64 3, .int .i64 4, .int .i64 (-1), .int .i64 5] 3)) w3.heap.size 3 #[.int .i64 0, .int .i64 1, .int .i64 2, .int .i64 3, .int .i64 4, .int .i64 (-1), .int .i64 5] from Blk.new w3 3 _) hG5 (by omega)).cell z).trans hy)
         | (have hcell : (w5.alloc (.cells #[.int .i64 0, .int .i64 1, .int .i64 2, .int .i64 3, .int .i64 4, .int .i64 (-1), .int .i64 5] 3)).cell? ⟨w5.heap.size, z, none⟩ = some (.int .i64 y) := ((Blk.new w5 3 _).cell z).trans hy)
         clear hy hG5))
    all_goals go_wp2_with (fail)
    all_goals go_meet
    all_goals refine ⟨rfl, R, B, d, y, rfl, rfl, hd, HX5.out.ext (by (repeat' (first | (with_reducible exact Below.refl _ _) | (with_reducible refine Below.mono (by assumption) ?_) | (with_reducible refine Below.trans ?_ (Below.mono (by assumption) ?_)) | (with_reducible refine Below.alloc ?_ ?_ _) | (with_reducible refine Below.drew ?_) | (with_reducible refine below_drewN ?_ _) | (with_reducible refine Below.setCell ?_ ?_ _) | (simp only [World.size_alloc, World.size_setCell, World.size_drew, size_drewN]; omega) | omega))), HC5.out.ext (by (repeat' (first | (with_reducible exact Below.refl _ _) | (with_reducible refine Below.mono (by assumption) ?_) | (with_reducible refine Below.trans ?_ (Below.mono (by assumption) ?_)) | (with_reducible refine Below.alloc ?_ ?_ _) | (with_reducible refine Below.drew ?_) | (with_reducible refine below_drewN ?_ _) | (with_reducible refine Below.setCell ?_ ?_ _) | (simp only [World.size_alloc, World.size_setCell, World.size_drew, size_drewN]; omega) | omega))), HRW5.out.ext (by (repeat' (first | (with_reducible exact Below.refl _ _) | (with_reducible refine Below.mono (by assumption) ?_) | (with_reducible refine Below.trans ?_ (Below.mono (by assumption) ?_)) | (with_reducible refine Below.alloc ?_ ?_ _) | (with_reducible refine Below.drew ?_) | (with_reducible refine below_drewN ?_ _) | (with_reducible refine Below.setCell ?_ ?_ _) | (simp only [World.size_alloc, World.size_setCell, World.size_drew, size_drewN]; omega) | omega))), hso, hy0, hy5, grown_trans HG25.out (grown_ext (show Ext w5 _ by (repeat' (first | (with_reducible exact Below.refl _ _) | (with_reducible refine Below.mono (by assumption) ?_) | (with_reducible refine Below.trans ?_ (Below.mono (by assumption) ?_)) | (with_reducible refine Below.alloc ?_ ?_ _) | (with_reducible refine Below.drew ?_) | (with_reducible refine below_drewN ?_ _) | (with_reducible refine Below.setCell ?_ ?_ _) | (simp only [World.size_alloc, World.size_setCell, World.size_drew, size_drewN]; omega) | omega))) _)⟩
  case rest =>
    obtain ⟨rfl, R, B, d, z, rfl, rfl, hd, hx, hcx, hrw, hso, hz0, hz5, hg⟩ := hcut
    have HF := Lib.hid (show DrewL w (.returned (.tuple #[.slice A2 H.length c2, .slice B R.length d, .int .i64 z])) wc from ⟨H, A2, c2, R, B, d, z, rfl, hc2, txns_low hx (by omega), hcx, hsm, hd, rows_low hrw (by omega), hso, hz0, hz5, grown_new HB1.out hr (grown_trans HG.out hg)⟩)
    clear hx hcx hrw hg hso
    go_wp2
    go_ret3
    exact HF.out
end Go.Proofs.YtmbdacfgmiielaaGreatDoor
