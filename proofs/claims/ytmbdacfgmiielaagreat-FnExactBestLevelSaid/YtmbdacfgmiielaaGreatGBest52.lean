/-
  Contracts of the laws' helpers on lists of lists of ints: sizes and copies.
-/
import Derived.Test.YtmbdacfgmiielaaGreatGLevP34
import Derived.Test.YtmbdacfgmiielaaGreatAllI
import Derived.Test.YtmbdacfgmiielaaGreatAllS
import Derived.Test.YtmbdacfgmiielaaGreatLev
import Derived.Test.YtmbdacfgmiielaaGreatGLst10
import Derived.Deep.RegionHeld3
/-
  Contracts of BestLevel, the reference's and the program's.
-/
namespace Go.Proofs.YtmbdacfgmiielaaGreat
set_option linter.unusedSimpArgs false
set_option linter.unusedVariables false
set_option maxRecDepth 100000
open Go.RowKit

set_option maxHeartbeats 4000000 in
theorem specBestLevel_c (h : List TxnT) (S : Nat → Prop) (A : Option Addr) (c : Nat) (w : World) (hx : Txns S w A h) (hcap : CapN w A h.length) (hsm : Small h) :
    Calls Tryz.prog 5 #[.slice A h.length c] w fun e w' => e = .returned (.int .i64 (bestV h)) ∧ Ext w w' := by
  have hLl := allV_len h
  have CA := fun (w : World) (hx : Txns S w A h) (hcap : CapN w A h.length) => (show Calls Tryz.prog 10 #[.slice A h.length c] w (FreshX (allV h) w) from specAllOrders_c h S A c w hx hcap hsm)
  have CL := Lib.hid (fun (B : Option Addr) (d : Nat) R w (hx : Txns S w A h) (hcap : CapN w A h.length) (hr : Rows2 Any w B R) (hrs : SmallR R) => specLevelOf_c h R S Any A B c d w hx hsm hr hrs)
  have HF := Lib.hid (fun i R (hi : (allV h)[i]? = some R) => (show SmallR R from all_small (List.mem_of_getElem? hi)))
  have HB := Lib.hid (show bestV h = bestOf h (allV h) from rfl)
  obtain ⟨L, hL⟩ : ∃ L, allV h = L := ⟨_, rfl⟩
  rw [hL] at CA HF HB hLl
  have CA := Lib.hid CA
  have HX := Lib.hid hx
  have HC := Lib.hid hcap
  clear hL hx hcap
  go_enter Tryz.func5, Tryz.ntmps5
  go_wp2_with (fail)
  go_at_call 10
  refine (CA.out _ (HX.out.ext (by (repeat' (first | (with_reducible exact Below.refl _ _) | (with_reducible refine Below.mono (by assumption) ?_) | (with_reducible refine Below.trans ?_ (Below.mono (by assumption) ?_)) | (with_reducible refine Below.alloc ?_ ?_ _) | (with_reducible refine Below.drew ?_) | (with_reducible refine below_drewN ?_ _) | (with_reducible refine Below.setCell ?_ ?_ _) | (simp only [World.size_alloc, World.size_setCell, World.size_drew, size_drewN]; omega) | omega)))) (HC.out.ext (by (repeat' (first | (with_reducible exact Below.refl _ _) | (with_reducible refine Below.mono (by assumption) ?_) | (with_reducible refine Below.trans ?_ (Below.mono (by assumption) ?_)) | (with_reducible refine Below.alloc ?_ ?_ _) | (with_reducible refine Below.drew ?_) | (with_reducible refine below_drewN ?_ _) | (with_reducible refine Below.setCell ?_ ?_ _) | (simp only [World.size_alloc, World.size_setCell, World.size_drew, size_drewN]; omega) | omega))))).mono ?_
  rintro e w1 ⟨A3, c3, rfl, hR3, hb⟩
  obtain ⟨hc, hf, hz, hs⟩ := bcell hb
  (try simp only [World.size_alloc, World.size_setCell, World.size_drew, size_drewN] at hs); (first | have l0 := Nat.lt_of_lt_of_le l0 (show _ ≤ w1.heap.size by omega) | have l0 : w.heap.size < w1.heap.size := (by omega) | skip); (try have l0e := Nat.le_of_lt l0); (try have l0f := Nat.le_add_right_of_le (k := 1) l0e); (try have l1 := Nat.lt_of_lt_of_le l1 (show _ ≤ w1.heap.size by omega)); (try have l1e := Nat.le_of_lt l1); (try have l1f := Nat.le_add_right_of_le (k := 1) l1e); (try have l2 := Nat.lt_of_lt_of_le l2 (show _ ≤ w1.heap.size by omega)); (try have l2e := Nat.le_of_lt l2); (try have l2f := Nat.le_add_right_of_le (k := 1) l2e); (try have l3 := Nat.lt_of_lt_of_le l3 (show _ ≤ w1.heap.size by omega)); (try have l3e := Nat.le_of_lt l3); (try have l3f := Nat.le_add_right_of_le (k := 1) l3e)
  have HR := Lib.hid hR3
  have HE1 := Lib.hid (show Ext w w1 from by (repeat' (first | (with_reducible exact Below.refl _ _) | (with_reducible refine Below.mono (by assumption) ?_) | (with_reducible refine Below.trans ?_ (Below.mono (by assumption) ?_)) | (with_reducible refine Below.alloc ?_ ?_ _) | (with_reducible refine Below.drew ?_) | (with_reducible refine below_drewN ?_ _) | (with_reducible refine Below.setCell ?_ ?_ _) | (simp only [World.size_alloc, World.size_setCell, World.size_drew, size_drewN]; omega) | omega)))
  obtain ⟨nl, hnl⟩ : ∃ nl, L.length = nl := ⟨_, rfl⟩
  rw [hnl] at hLl ⊢
  have HNl := Lib.hid hnl
  clear hb hc hf hz hR3 hnl CA
  go_wp2
  go_loopw [3, 5] (fun v i W => ∃ k : Nat, k ≤ nl ∧ i = .int .i64 k ∧ v = .int .i64 (bestOf h (L.take k)) ∧ Ext w1 W) (fun _ i _ => nl - (intOf i).toNat)
  case atStart => exact ⟨0, Nat.zero_le _, rfl, rfl, Below.refl _ _⟩
  case round =>
    obtain ⟨k, hk, rfl, rfl, hE⟩ := hrel
    have HE := Lib.hid hE
    have hzz := hE.size
    clear hE
    have hbi := bestOf_in h (L.take k)
    by_cases hlt : k < nl
    · have hki : (k : Int) < nl := by omega
      obtain ⟨R, A', cap, b, off, hxk, rfl, _, hb0, hI, c0⟩ := HR.out.at_ (i := k) (by rw [HNl.out]; exact hlt)
      have hrs := HF.out k R hxk
      have HTk := Lib.hid (best_take (h := h) hxk)
      have hli := lofV_in h R
      have CLk := fun w hx hcap hr => CL.out A' cap R w hx hcap hr hrs
      have c0 := HE.out.keep hb0 c0
      have HI := Lib.hid (Rows2.ext hI HE.out)
      have hb0 : b < wr.heap.size := by omega
      generalize bestOf h (L.take k) = p at HTk hbi ⊢
      generalize lofV h R = q at HTk hli CLk
      have CLk := Lib.hid CLk
      have hbn := bestOf_in h (L.take (k + 1))
      have HEn := Lib.hid HTk.out
      clear hxk hI
      go_wp2_with (fail)
      go_at_call 11
      refine (CLk.out _ (HX.out.ext (HE1.out.tr (HE.out.tr (by (repeat' (first | (with_reducible exact Below.refl _ _) | (with_reducible refine Below.mono (by assumption) ?_) | (with_reducible refine Below.trans ?_ (Below.mono (by assumption) ?_)) | (with_reducible refine Below.alloc ?_ ?_ _) | (with_reducible refine Below.drew ?_) | (with_reducible refine below_drewN ?_ _) | (with_reducible refine Below.setCell ?_ ?_ _) | (simp only [World.size_alloc, World.size_setCell, World.size_drew, size_drewN]; omega) | omega)))))) (HC.out.ext (HE1.out.tr (HE.out.tr (by (repeat' (first | (with_reducible exact Below.refl _ _) | (with_reducible refine Below.mono (by assumption) ?_) | (with_reducible refine Below.trans ?_ (Below.mono (by assumption) ?_)) | (with_reducible refine Below.alloc ?_ ?_ _) | (with_reducible refine Below.drew ?_) | (with_reducible refine below_drewN ?_ _) | (with_reducible refine Below.setCell ?_ ?_ _) | (simp only [World.size_alloc, World.size_setCell, World.size_drew, size_drewN]; omega) | omega)))))) (HI.out.ext (by (repeat' (first | (with_reducible exact Below.refl _ _) | (with_reducible refine Below.mono (by assumption) ?_) | (with_reducible refine Below.trans ?_ (Below.mono (by assumption) ?_)) | (with_reducible refine Below.alloc ?_ ?_ _) | (with_reducible refine Below.drew ?_) | (with_reducible refine below_drewN ?_ _) | (with_reducible refine Below.setCell ?_ ?_ _) | (simp only [World.size_alloc, World.size_setCell, World.size_drew, size_drewN]; omega) | omega))))).mono ?_
      rintro e w3 ⟨rfl, hb⟩
      obtain ⟨hc, hf, hz, hs⟩ := bcell hb
      (try simp only [World.size_alloc, World.size_setCell, World.size_drew, size_drewN] at hs); (first | have l0 := Nat.lt_of_lt_of_le l0 (show _ ≤ w3.heap.size by omega) | have l0 : w.heap.size < w3.heap.size := (by omega) | skip); (try have l0e := Nat.le_of_lt l0); (try have l0f := Nat.le_add_right_of_le (k := 1) l0e); (try have l1 := Nat.lt_of_lt_of_le l1 (show _ ≤ w3.heap.size by omega)); (try have l1e := Nat.le_of_lt l1); (try have l1f := Nat.le_add_right_of_le (k := 1) l1e); (try have l2 := Nat.lt_of_lt_of_le l2 (show _ ≤ w3.heap.size by omega)); (try have l2e := Nat.le_of_lt l2); (try have l2f := Nat.le_add_right_of_le (k := 1) l2e); (try have l3 := Nat.lt_of_lt_of_le l3 (show _ ≤ w3.heap.size by omega)); (try have l3e := Nat.le_of_lt l3); (try have l3f := Nat.le_add_right_of_le (k := 1) l3e)
      have HE3 := Lib.hid (HE.out.tr (show Ext wr w3 from by (repeat' (first | (with_reducible exact Below.refl _ _) | (with_reducible refine Below.mono (by assumption) ?_) | (with_reducible refine Below.trans ?_ (Below.mono (by assumption) ?_)) | (with_reducible refine Below.alloc ?_ ?_ _) | (with_reducible refine Below.drew ?_) | (with_reducible refine below_drewN ?_ _) | (with_reducible refine Below.setCell ?_ ?_ _) | (simp only [World.size_alloc, World.size_setCell, World.size_drew, size_drewN]; omega) | omega))))
      clear hb hc hf hz
      go_wp2
      exact ⟨⟨k + 1, by omega, by go_num, by rw [HTk.out], HE3.out⟩, by simp [intOf]; omega⟩
    · obtain rfl : k = nl := by omega
      have HT := Lib.hid (show bestOf h (L.take k) = bestV h by rw [HB.out, List.take_of_length_le (by rw [HNl.out]; exact Nat.le_refl _)])
      rw [HT.out] at hbi ⊢
      go_wp2
      go_ret
      exact ⟨rfl, HE1.out.tr HE.out⟩
set_option maxHeartbeats 4000000 in
theorem implBestLevel_c (h : List TxnT) (S : Nat → Prop) (A : Option Addr) (c : Nat) (w : World) (hx : Txns S w A h) (hcap : Caps w A h.length) (hsm : Small h) :
    Calls Tryz.prog 7 #[.slice A h.length c] w fun e w' => e = .returned (.int .i64 (bestV h)) ∧ Ext w w' := by
  have hLl := allV_len h
  have CA := fun (w : World) (hx : Txns S w A h) (hcap : Caps w A h.length) => (show Calls Tryz.prog 13 #[.slice A h.length c] w (FreshX (allV h) w) from implAllOrders_c h S A c w hx hsm)
  have CL := Lib.hid (fun (B : Option Addr) (d : Nat) R w (hx : Txns S w A h) (hcap : Caps w A h.length) (hr : Rows2 Any w B R) (hrs : SmallR R) => implLevelOf_c h R S Any A B c d w hx hsm hcap hr hrs)
  have HF := Lib.hid (fun i R (hi : (allV h)[i]? = some R) => (show SmallR R from all_small (List.mem_of_getElem? hi)))
  have HB := Lib.hid (show bestV h = bestOf h (allV h) from rfl)
  obtain ⟨L, hL⟩ : ∃ L, allV h = L := ⟨_, rfl⟩
  rw [hL] at CA HF HB hLl
  have CA := Lib.hid CA
  have HX := Lib.hid hx
  have HC := Lib.hid hcap
  clear hL hx hcap
  go_enter Tryz.func7, Tryz.ntmps7
  go_wp2_with (fail)
  go_at_call 13
  refine (CA.out _ (HX.out.ext (by (repeat' (first | (with_reducible exact Below.refl _ _) | (with_reducible refine Below.mono (by assumption) ?_) | (with_reducible refine Below.trans ?_ (Below.mono (by assumption) ?_)) | (with_reducible refine Below.alloc ?_ ?_ _) | (with_reducible refine Below.drew ?_) | (with_reducible refine below_drewN ?_ _) | (with_reducible refine Below.setCell ?_ ?_ _) | (simp only [World.size_alloc, World.size_setCell, World.size_drew, size_drewN]; omega) | omega)))) (HC.out.ext (by (repeat' (first | (with_reducible exact Below.refl _ _) | (with_reducible refine Below.mono (by assumption) ?_) | (with_reducible refine Below.trans ?_ (Below.mono (by assumption) ?_)) | (with_reducible refine Below.alloc ?_ ?_ _) | (with_reducible refine Below.drew ?_) | (with_reducible refine below_drewN ?_ _) | (with_reducible refine Below.setCell ?_ ?_ _) | (simp only [World.size_alloc, World.size_setCell, World.size_drew, size_drewN]; omega) | omega))))).mono ?_
  rintro e w1 ⟨A3, c3, rfl, hR3, hb⟩
  obtain ⟨hc, hf, hz, hs⟩ := bcell hb
  (try simp only [World.size_alloc, World.size_setCell, World.size_drew, size_drewN] at hs); (first | have l0 := Nat.lt_of_lt_of_le l0 (show _ ≤ w1.heap.size by omega) | have l0 : w.heap.size < w1.heap.size := (by omega) | skip); (try have l0e := Nat.le_of_lt l0); (try have l0f := Nat.le_add_right_of_le (k := 1) l0e); (try have l1 := Nat.lt_of_lt_of_le l1 (show _ ≤ w1.heap.size by omega)); (try have l1e := Nat.le_of_lt l1); (try have l1f := Nat.le_add_right_of_le (k := 1) l1e); (try have l2 := Nat.lt_of_lt_of_le l2 (show _ ≤ w1.heap.size by omega)); (try have l2e := Nat.le_of_lt l2); (try have l2f := Nat.le_add_right_of_le (k := 1) l2e); (try have l3 := Nat.lt_of_lt_of_le l3 (show _ ≤ w1.heap.size by omega)); (try have l3e := Nat.le_of_lt l3); (try have l3f := Nat.le_add_right_of_le (k := 1) l3e)
  have HR := Lib.hid hR3
  have HE1 := Lib.hid (show Ext w w1 from by (repeat' (first | (with_reducible exact Below.refl _ _) | (with_reducible refine Below.mono (by assumption) ?_) | (with_reducible refine Below.trans ?_ (Below.mono (by assumption) ?_)) | (with_reducible refine Below.alloc ?_ ?_ _) | (with_reducible refine Below.drew ?_) | (with_reducible refine below_drewN ?_ _) | (with_reducible refine Below.setCell ?_ ?_ _) | (simp only [World.size_alloc, World.size_setCell, World.size_drew, size_drewN]; omega) | omega)))
  obtain ⟨nl, hnl⟩ : ∃ nl, L.length = nl := ⟨_, rfl⟩
  rw [hnl] at hLl ⊢
  have HNl := Lib.hid hnl
  clear hb hc hf hz hR3 hnl CA
  go_wp2
  go_loopw [3, 9] (fun v i W => ∃ k : Nat, k ≤ nl ∧ i = .int .i64 k ∧ v = .int .i64 (bestOf h (L.take k)) ∧ Ext w1 W) (fun _ i _ => nl - (intOf i).toNat)
  case atStart => exact ⟨0, Nat.zero_le _, rfl, rfl, Below.refl _ _⟩
  case round =>
    obtain ⟨k, hk, rfl, rfl, hE⟩ := hrel
    have HE := Lib.hid hE
    have hzz := hE.size
    clear hE
    have hbi := bestOf_in h (L.take k)
    by_cases hlt : k < nl
    · have hki : (k : Int) < nl := by omega
      obtain ⟨R, A', cap, b, off, hxk, rfl, _, hb0, hI, c0⟩ := HR.out.at_ (i := k) (by rw [HNl.out]; exact hlt)
      have hrs := HF.out k R hxk
      have HTk := Lib.hid (best_take (h := h) hxk)
      have hli := lofV_in h R
      have CLk := fun w hx hcap hr => CL.out A' cap R w hx hcap hr hrs
      have c0 := HE.out.keep hb0 c0
      have HI := Lib.hid (Rows2.ext hI HE.out)
      have hb0 : b < wr.heap.size := by omega
      generalize bestOf h (L.take k) = p at HTk hbi ⊢
      generalize lofV h R = q at HTk hli CLk
      have CLk := Lib.hid CLk
      have hbn := bestOf_in h (L.take (k + 1))
      have HEn := Lib.hid HTk.out
      clear hxk hI
      go_wp2_with (fail)
      go_at_call 14
      refine (CLk.out _ (HX.out.ext (HE1.out.tr (HE.out.tr (by (repeat' (first | (with_reducible exact Below.refl _ _) | (with_reducible refine Below.mono (by assumption) ?_) | (with_reducible refine Below.trans ?_ (Below.mono (by assumption) ?_)) | (with_reducible refine Below.alloc ?_ ?_ _) | (with_reducible refine Below.drew ?_) | (with_reducible refine below_drewN ?_ _) | (with_reducible refine Below.setCell ?_ ?_ _) | (simp only [World.size_alloc, World.size_setCell, World.size_drew, size_drewN]; omega) | omega)))))) (HC.out.ext (HE1.out.tr (HE.out.tr (by (repeat' (first | (with_reducible exact Below.refl _ _) | (with_reducible refine Below.mono (by assumption) ?_) | (with_reducible refine Below.trans ?_ (Below.mono (by assumption) ?_)) | (with_reducible refine Below.alloc ?_ ?_ _) | (with_reducible refine Below.drew ?_) | (with_reducible refine below_drewN ?_ _) | (with_reducible refine Below.setCell ?_ ?_ _) | (simp only [World.size_alloc, World.size_setCell, World.size_drew, size_drewN]; omega) | omega)))))) (HI.out.ext (by (repeat' (first | (with_reducible exact Below.refl _ _) | (with_reducible refine Below.mono (by assumption) ?_) | (with_reducible refine Below.trans ?_ (Below.mono (by assumption) ?_)) | (with_reducible refine Below.alloc ?_ ?_ _) | (with_reducible refine Below.drew ?_) | (with_reducible refine below_drewN ?_ _) | (with_reducible refine Below.setCell ?_ ?_ _) | (simp only [World.size_alloc, World.size_setCell, World.size_drew, size_drewN]; omega) | omega))))).mono ?_
      rintro e w3 ⟨rfl, hb⟩
      obtain ⟨hc, hf, hz, hs⟩ := bcell hb
      (try simp only [World.size_alloc, World.size_setCell, World.size_drew, size_drewN] at hs); (first | have l0 := Nat.lt_of_lt_of_le l0 (show _ ≤ w3.heap.size by omega) | have l0 : w.heap.size < w3.heap.size := (by omega) | skip); (try have l0e := Nat.le_of_lt l0); (try have l0f := Nat.le_add_right_of_le (k := 1) l0e); (try have l1 := Nat.lt_of_lt_of_le l1 (show _ ≤ w3.heap.size by omega)); (try have l1e := Nat.le_of_lt l1); (try have l1f := Nat.le_add_right_of_le (k := 1) l1e); (try have l2 := Nat.lt_of_lt_of_le l2 (show _ ≤ w3.heap.size by omega)); (try have l2e := Nat.le_of_lt l2); (try have l2f := Nat.le_add_right_of_le (k := 1) l2e); (try have l3 := Nat.lt_of_lt_of_le l3 (show _ ≤ w3.heap.size by omega)); (try have l3e := Nat.le_of_lt l3); (try have l3f := Nat.le_add_right_of_le (k := 1) l3e)
      have HE3 := Lib.hid (HE.out.tr (show Ext wr w3 from by (repeat' (first | (with_reducible exact Below.refl _ _) | (with_reducible refine Below.mono (by assumption) ?_) | (with_reducible refine Below.trans ?_ (Below.mono (by assumption) ?_)) | (with_reducible refine Below.alloc ?_ ?_ _) | (with_reducible refine Below.drew ?_) | (with_reducible refine below_drewN ?_ _) | (with_reducible refine Below.setCell ?_ ?_ _) | (simp only [World.size_alloc, World.size_setCell, World.size_drew, size_drewN]; omega) | omega))))
      clear hb hc hf hz
      go_wp2
      exact ⟨⟨k + 1, by omega, by go_num, by rw [HTk.out], HE3.out⟩, by simp [intOf]; omega⟩
    · obtain rfl : k = nl := by omega
      have HT := Lib.hid (show bestOf h (L.take k) = bestV h by rw [HB.out, List.take_of_length_le (by rw [HNl.out]; exact Nat.le_refl _)])
      rw [HT.out] at hbi ⊢
      go_wp2
      go_ret
      exact ⟨rfl, HE1.out.tr HE.out⟩
end Go.Proofs.YtmbdacfgmiielaaGreat
namespace Go.Proofs.YtmbdacfgmiielaaGreat
set_option linter.unusedSimpArgs false
set_option linter.unusedVariables false
set_option maxRecDepth 100000
open Go.RowKit

/-- the first k ints stand in the cells -/
def Upto1 (cs : Array Value) (xs : List Int) (k : Nat) : Prop := cs.size = xs.length ∧ ∀ i x, i < k → xs[i]? = some x → cs[i]? = some (.int .i64 x)
theorem Upto1.step {cs : Array Value} {xs : List Int} {k : Nat} {a : Int} (h : Upto1 cs xs k) (hx : xs[k]? = some a) : Upto1 (cs.setIfInBounds k (.int .i64 a)) xs (k + 1) := by
  obtain ⟨h1, h2⟩ := h
  have hk : k < xs.length := (List.getElem?_eq_some_iff.1 hx).1
  refine ⟨by simp [h1], fun i x hi hxi => ?_⟩
  rcases Nat.lt_or_ge i k with hlt | hge
  · rw [Array.getElem?_setIfInBounds_ne (by omega)]
    exact h2 i x hlt hxi
  · obtain rfl : i = k := by omega
    rw [hx] at hxi
    cases hxi
    rw [Array.getElem?_setIfInBounds_self_of_lt (by omega)]
theorem Upto1.ints {w : World} {g : Nat} {t : TypeId} {cs : Array Value} {xs : List Int} {S : Nat → Prop} (h : Upto1 cs xs xs.length) (hB : Blk w g t cs) (hS : S g) : Ints S w (some ⟨g, 0, none⟩) xs := by
  intro i x hx
  have hi : i < xs.length := (List.getElem?_eq_some_iff.1 hx).1
  refine ⟨g, 0, _, rfl, hS, hB.lt, rfl, rfl, fun j u hu => ?_⟩
  rw [hB.cell]
  match j, hu with
  | 0, hu => cases hu; simpa using h.2 i x hi hx
  | j + 1, hu => simp at hu
/-- rows copied into the cells, each in a block apart -/
structure UptoR (w : World) (g : Nat) (cs : Array Value) (xs : List (List Int)) (ps : List PR) : Prop where
  size : cs.size = xs.length
  pre : ps.map PR.xs = xs.take ps.length
  cell : ∀ (i : Nat) (p : PR), ps[i]? = some p → cs[i]? = some p.cell
  row : ∀ p ∈ ps, RowIn w (g + 1) p
  apart : ∀ (i j : Nat) (p q : PR) a b, i < j → ps[i]? = some p → ps[j]? = some q → p.A = some a → q.A = some b → a.block ≠ b.block
theorem UptoR.ext {w w' : World} {g : Nat} {cs : Array Value} {xs : List (List Int)} {ps : List PR} (h : UptoR w g cs xs ps) (hE : Ext w w') : UptoR w' g cs xs ps := ⟨h.size, h.pre, h.cell, fun p hp => (h.row p hp).ext hE, h.apart⟩
theorem UptoR.step {w w1 : World} {g : Nat} {cs : Array Value} {xs : List (List Int)} {ps : List PR} {x : List Int} {c : Nat} (h : UptoR w g cs xs ps) (hx : xs[ps.length]? = some x) (hg : g < w.heap.size) (hE : Ext w w1) {A : Option Addr} (hr : RI w.heap.size w1 A x) :
    UptoR (w1.setCell ⟨g, ps.length, none⟩ (.slice A x.length c)) g (cs.setIfInBounds ps.length (.slice A x.length c)) xs (ps ++ [⟨A, c, x⟩]) := by
  have hk : ps.length < xs.length := (List.getElem?_eq_some_iff.1 hx).1
  have hnew : RowIn w1 (g + 1) ⟨A, c, x⟩ := (RowIn.of hr.1 hr.2).below (by omega)
  have keep : ∀ p, RowIn w1 (g + 1) p → RowIn (w1.setCell ⟨g, ps.length, none⟩ (.slice A x.length c)) (g + 1) p := fun p hp => hp.grown (row := some g) (grown_set _) (fun a ha e => by have := (hp.2 a ha).1; injection e with e; omega)
  refine ⟨by simp [h.size], ?_, fun i p hp => ?_, fun p hp => ?_, fun i j p q a b hij hp hq ha hb => ?_⟩
  · rw [List.map_append, h.pre, List.length_append, List.length_singleton, List.take_add_one, hx]
    rfl
  · rcases Nat.lt_or_ge i ps.length with hi | hi
    · rw [List.getElem?_append_left hi] at hp
      rw [Array.getElem?_setIfInBounds_ne (by omega)]
      exact h.cell i p hp
    · have hil := (List.getElem?_eq_some_iff.1 hp).1
      rw [List.length_append, List.length_singleton] at hil
      obtain rfl : i = ps.length := by omega
      rw [List.getElem?_append_right (Nat.le_refl _), Nat.sub_self] at hp
      cases hp
      rw [Array.getElem?_setIfInBounds_self_of_lt (by rw [h.size]; omega)]
      rfl
  · rcases List.mem_append.1 hp with hp | hp
    · exact keep p ((h.row p hp).ext hE)
    · obtain rfl := List.mem_singleton.1 hp
      exact keep _ hnew
  · have hjl := (List.getElem?_eq_some_iff.1 hq).1
    rw [List.length_append, List.length_singleton] at hjl
    rw [List.getElem?_append_left (by omega)] at hp
    rcases Nat.lt_or_ge j ps.length with hjl2 | hjl2
    · rw [List.getElem?_append_left hjl2] at hq
      exact h.apart i j p q a b hij hp hq ha hb
    · obtain rfl : j = ps.length := by omega
      rw [List.getElem?_append_right (Nat.le_refl _), Nat.sub_self] at hq
      cases hq
      have h1 := ((h.row p (List.mem_of_getElem? hp)).2 a ha).2.1
      have h2 := (hr.2 b hb).1
      omega
theorem UptoR.done {w : World} {g : Nat} {cs : Array Value} {xs : List (List Int)} {ps : List PR} (h : UptoR w g cs xs ps) (hl : ps.length = xs.length) (hB : Blk w g 45 cs) : RI2 g w (some ⟨g, 0, none⟩) xs (fun i => (ps[i]?).bind PR.A) := by
  have hpx : ps.map PR.xs = xs := by rw [h.pre, hl, List.take_length]
  refine ⟨fun i x hx => ?_, fun i j a b hij hj ha hb => ?_⟩
  · rw [← hpx, List.getElem?_map] at hx
    obtain ⟨p, hp, rfl⟩ := Option.map_eq_some_iff.1 hx
    have hr := h.row p (List.mem_of_getElem? hp)
    simp only [hp, Option.bind_some]
    refine ⟨g, 0, p.c, rfl, Nat.le_refl _, hB.lt, ?_, hr.1, fun a ha => ?_⟩
    · rw [hB.cell, Nat.zero_add]
      exact h.cell i p hp
    · obtain ⟨h1, h2, h3⟩ := hr.2 a ha
      exact ⟨by omega, h2, h3, by omega⟩
  · obtain ⟨p, hp, ha⟩ := Option.bind_eq_some_iff.1 ha
    obtain ⟨q, hq, hb⟩ := Option.bind_eq_some_iff.1 hb
    exact h.apart i j p q a b hij hp hq ha hb
end Go.Proofs.YtmbdacfgmiielaaGreat
