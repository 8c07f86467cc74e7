/-
  Contracts of BadReads, the reference's and the program's.
-/
import Derived.Test.YtmbdacfgmiielaaGreatGBadD24
/-
  Contracts of the kinds of bad reads, the reference's and the program's.
-/
namespace Go.Proofs.YtmbdacfgmiielaaGreat
set_option linter.unusedSimpArgs false
set_option linter.unusedVariables false
set_option maxRecDepth 100000
open Go.RowKit

set_option maxHeartbeats 2000000 in
theorem l6Kind_zero (h : List TxnT) (S : Nat → Prop) (A : Option Addr) (c : Nat) (n : Nat) (o : T3) (w : World) (hx : Txns S w A h) (hsm : Small h) (hcc : o.a ≠ 1 ∨ o.c = 0 ∨ wrN h o.b o.c = n) :
    Calls Tryz.prog 94 #[.slice A h.length c, .int .i64 n, .agg #[.int .i64 o.a, .int .i64 o.b, .int .i64 o.c]] w fun e w' => e = .returned (.int .i64 0) ∧ Ext w w' := by
  obtain ⟨a, b, v⟩ := o
  have C := fun w hx => l5Writer_c h S A c b v w hx hsm
  simp only at hcc
  generalize wrN h b v = W at C hcc
  have C := Lib.hid C
  by_cases h1 : a = 1
  · have b1 : (a != 1) = false := by simp [h1]
    by_cases h2 : v = 0
    · have b2 : (v == 0) = true := by simp [h2]
      clear hcc h1 h2
      go_enter Tryz.func94, Tryz.ntmps94
      go_wp2_with (fail)
      go_at_call 60
      refine (C.out _ (hx.ext (by (repeat' (first | (with_reducible exact Below.refl _ _) | (with_reducible refine Below.mono (by assumption) ?_) | (with_reducible refine Below.trans ?_ (Below.mono (by assumption) ?_)) | (with_reducible refine Below.alloc ?_ ?_ _) | (with_reducible refine Below.drew ?_) | (with_reducible refine below_drewN ?_ _) | (with_reducible refine Below.setCell ?_ ?_ _) | (simp only [World.size_alloc, World.size_setCell, World.size_drew, size_drewN]; omega) | omega))))).mono ?_
      rintro e w1 ⟨rfl, hb⟩
      obtain ⟨hc, hf, hz, hs⟩ := bcell hb
      (try simp only [World.size_alloc, World.size_setCell, World.size_drew, size_drewN] at hs); (first | have l0 := Nat.lt_of_lt_of_le l0 (show _ ≤ w1.heap.size by omega) | have l0 : w.heap.size < w1.heap.size := (by omega) | skip); (try have l0e := Nat.le_of_lt l0); (try have l0f := Nat.le_add_right_of_le (k := 1) l0e); (try have l1 := Nat.lt_of_lt_of_le l1 (show _ ≤ w1.heap.size by omega)); (try have l1e := Nat.le_of_lt l1); (try have l1f := Nat.le_add_right_of_le (k := 1) l1e); (try have l2 := Nat.lt_of_lt_of_le l2 (show _ ≤ w1.heap.size by omega)); (try have l2e := Nat.le_of_lt l2); (try have l2f := Nat.le_add_right_of_le (k := 1) l2e); (try have l3 := Nat.lt_of_lt_of_le l3 (show _ ≤ w1.heap.size by omega)); (try have l3e := Nat.le_of_lt l3); (try have l3f := Nat.le_add_right_of_le (k := 1) l3e)
      obtain ⟨q0, q1, q2⟩ := box3 hb
      clear hc hf hz
      go_wp2
      go_ret
      exact ⟨rfl, by (repeat' (first | (with_reducible exact Below.refl _ _) | (with_reducible refine Below.mono (by assumption) ?_) | (with_reducible refine Below.trans ?_ (Below.mono (by assumption) ?_)) | (with_reducible refine Below.alloc ?_ ?_ _) | (with_reducible refine Below.drew ?_) | (with_reducible refine below_drewN ?_ _) | (with_reducible refine Below.setCell ?_ ?_ _) | (simp only [World.size_alloc, World.size_setCell, World.size_drew, size_drewN]; omega) | omega))⟩
    · have b2 : (v == 0) = false := by simp [h2]
      have b3 : (W == (n : Int)) = true := by
        rcases hcc with h | h | h
        · exact absurd h1 h
        · exact absurd h h2
        · simp [h]
      clear hcc h1 h2
      go_enter Tryz.func94, Tryz.ntmps94
      go_wp2_with (fail)
      go_at_call 60
      refine (C.out _ (hx.ext (by (repeat' (first | (with_reducible exact Below.refl _ _) | (with_reducible refine Below.mono (by assumption) ?_) | (with_reducible refine Below.trans ?_ (Below.mono (by assumption) ?_)) | (with_reducible refine Below.alloc ?_ ?_ _) | (with_reducible refine Below.drew ?_) | (with_reducible refine below_drewN ?_ _) | (with_reducible refine Below.setCell ?_ ?_ _) | (simp only [World.size_alloc, World.size_setCell, World.size_drew, size_drewN]; omega) | omega))))).mono ?_
      rintro e w1 ⟨rfl, hb⟩
      obtain ⟨hc, hf, hz, hs⟩ := bcell hb
      (try simp only [World.size_alloc, World.size_setCell, World.size_drew, size_drewN] at hs); (first | have l0 := Nat.lt_of_lt_of_le l0 (show _ ≤ w1.heap.size by omega) | have l0 : w.heap.size < w1.heap.size := (by omega) | skip); (try have l0e := Nat.le_of_lt l0); (try have l0f := Nat.le_add_right_of_le (k := 1) l0e); (try have l1 := Nat.lt_of_lt_of_le l1 (show _ ≤ w1.heap.size by omega)); (try have l1e := Nat.le_of_lt l1); (try have l1f := Nat.le_add_right_of_le (k := 1) l1e); (try have l2 := Nat.lt_of_lt_of_le l2 (show _ ≤ w1.heap.size by omega)); (try have l2e := Nat.le_of_lt l2); (try have l2f := Nat.le_add_right_of_le (k := 1) l2e); (try have l3 := Nat.lt_of_lt_of_le l3 (show _ ≤ w1.heap.size by omega)); (try have l3e := Nat.le_of_lt l3); (try have l3f := Nat.le_add_right_of_le (k := 1) l3e)
      obtain ⟨q0, q1, q2⟩ := box3 hb
      clear hc hf hz
      go_wp2
      go_ret
      exact ⟨rfl, by (repeat' (first | (with_reducible exact Below.refl _ _) | (with_reducible refine Below.mono (by assumption) ?_) | (with_reducible refine Below.trans ?_ (Below.mono (by assumption) ?_)) | (with_reducible refine Below.alloc ?_ ?_ _) | (with_reducible refine Below.drew ?_) | (with_reducible refine below_drewN ?_ _) | (with_reducible refine Below.setCell ?_ ?_ _) | (simp only [World.size_alloc, World.size_setCell, World.size_drew, size_drewN]; omega) | omega))⟩
  · have b1 : (a != 1) = true := by simp [h1]
    clear hcc h1
    go_enter Tryz.func94, Tryz.ntmps94
    go_wp2_with (fail)
    go_at_call 60
    refine (C.out _ (hx.ext (by (repeat' (first | (with_reducible exact Below.refl _ _) | (with_reducible refine Below.mono (by assumption) ?_) | (with_reducible refine Below.trans ?_ (Below.mono (by assumption) ?_)) | (with_reducible refine Below.alloc ?_ ?_ _) | (with_reducible refine Below.drew ?_) | (with_reducible refine below_drewN ?_ _) | (with_reducible refine Below.setCell ?_ ?_ _) | (simp only [World.size_alloc, World.size_setCell, World.size_drew, size_drewN]; omega) | omega))))).mono ?_
    rintro e w1 ⟨rfl, hb⟩
    obtain ⟨hc, hf, hz, hs⟩ := bcell hb
    (try simp only [World.size_alloc, World.size_setCell, World.size_drew, size_drewN] at hs); (first | have l0 := Nat.lt_of_lt_of_le l0 (show _ ≤ w1.heap.size by omega) | have l0 : w.heap.size < w1.heap.size := (by omega) | skip); (try have l0e := Nat.le_of_lt l0); (try have l0f := Nat.le_add_right_of_le (k := 1) l0e); (try have l1 := Nat.lt_of_lt_of_le l1 (show _ ≤ w1.heap.size by omega)); (try have l1e := Nat.le_of_lt l1); (try have l1f := Nat.le_add_right_of_le (k := 1) l1e); (try have l2 := Nat.lt_of_lt_of_le l2 (show _ ≤ w1.heap.size by omega)); (try have l2e := Nat.le_of_lt l2); (try have l2f := Nat.le_add_right_of_le (k := 1) l2e); (try have l3 := Nat.lt_of_lt_of_le l3 (show _ ≤ w1.heap.size by omega)); (try have l3e := Nat.le_of_lt l3); (try have l3f := Nat.le_add_right_of_le (k := 1) l3e)
    obtain ⟨q0, q1, q2⟩ := box3 hb
    clear hc hf hz
    go_wp2
    go_ret
    exact ⟨rfl, by (repeat' (first | (with_reducible exact Below.refl _ _) | (with_reducible refine Below.mono (by assumption) ?_) | (with_reducible refine Below.trans ?_ (Below.mono (by assumption) ?_)) | (with_reducible refine Below.alloc ?_ ?_ _) | (with_reducible refine Below.drew ?_) | (with_reducible refine below_drewN ?_ _) | (with_reducible refine Below.setCell ?_ ?_ _) | (simp only [World.size_alloc, World.size_setCell, World.size_drew, size_drewN]; omega) | omega))⟩
set_option maxHeartbeats 2000000 in
theorem l6Kind_c (h : List TxnT) (S : Nat → Prop) (A : Option Addr) (c : Nat) (n : Nat) (o : T3) (w : World) (hx : Txns S w A h) (hsm : Small h) (hv : histv h = true) :
    Calls Tryz.prog 94 #[.slice A h.length c, .int .i64 n, .agg #[.int .i64 o.a, .int .i64 o.b, .int .i64 o.c]] w fun e w' => e = .returned (.int .i64 (k6 h n o)) ∧ Ext w w' := by
  by_cases hcc : o.a ≠ 1 ∨ o.c = 0 ∨ wrN h o.b o.c = n
  · rw [k6_zero hcc]; exact l6Kind_zero h S A c n o w hx hsm hcc
  obtain ⟨a, b, v⟩ := o
  have C := fun w hx => l5Writer_c h S A c b v w hx hsm
  have CL := fun w hx => l5Last_c h S A c b v w hx hsm hv
  clear hv
  have hc2 : ¬ (a ≠ 1 ∨ v = 0 ∨ wrN h b v = n) := hcc
  have b1 : (a != 1) = false := by
    have : a = 1 := by omega
    simp [this]
  have b2 : (v == 0) = false := by
    have : v ≠ 0 := by omega
    simp [this]
  rcases wrN_cases h b v with ⟨e1, e2⟩ | ⟨k, t, hk, e1, e2⟩
  · have HK := Lib.hid (k6_none (o := ⟨a, b, v⟩) hcc e1)
    rw [e1] at C hc2
    have b3 : ((-1 : Int) == (n : Int)) = false := by
      have : (-1 : Int) ≠ n := by omega
      simp
    have C := Lib.hid C
    clear hcc e1 e2 CL hc2
    go_enter Tryz.func94, Tryz.ntmps94
    go_wp2_with (fail)
    go_at_call 60
    refine (C.out _ (hx.ext (by (repeat' (first | (with_reducible exact Below.refl _ _) | (with_reducible refine Below.mono (by assumption) ?_) | (with_reducible refine Below.trans ?_ (Below.mono (by assumption) ?_)) | (with_reducible refine Below.alloc ?_ ?_ _) | (with_reducible refine Below.drew ?_) | (with_reducible refine below_drewN ?_ _) | (with_reducible refine Below.setCell ?_ ?_ _) | (simp only [World.size_alloc, World.size_setCell, World.size_drew, size_drewN]; omega) | omega))))).mono ?_
    rintro e w1 ⟨rfl, hb⟩
    obtain ⟨hc, hf, hz, hs⟩ := bcell hb
    (try simp only [World.size_alloc, World.size_setCell, World.size_drew, size_drewN] at hs); (first | have l0 := Nat.lt_of_lt_of_le l0 (show _ ≤ w1.heap.size by omega) | have l0 : w.heap.size < w1.heap.size := (by omega) | skip); (try have l0e := Nat.le_of_lt l0); (try have l0f := Nat.le_add_right_of_le (k := 1) l0e); (try have l1 := Nat.lt_of_lt_of_le l1 (show _ ≤ w1.heap.size by omega)); (try have l1e := Nat.le_of_lt l1); (try have l1f := Nat.le_add_right_of_le (k := 1) l1e); (try have l2 := Nat.lt_of_lt_of_le l2 (show _ ≤ w1.heap.size by omega)); (try have l2e := Nat.le_of_lt l2); (try have l2f := Nat.le_add_right_of_le (k := 1) l2e); (try have l3 := Nat.lt_of_lt_of_le l3 (show _ ≤ w1.heap.size by omega)); (try have l3e := Nat.le_of_lt l3); (try have l3f := Nat.le_add_right_of_le (k := 1) l3e)
    obtain ⟨q0, q1, q2⟩ := box3 hb
    clear hc hf hz
    go_wp2
    go_ret
    exact ⟨by rw [HK.out]; rfl, by (repeat' (first | (with_reducible exact Below.refl _ _) | (with_reducible refine Below.mono (by assumption) ?_) | (with_reducible refine Below.trans ?_ (Below.mono (by assumption) ?_)) | (with_reducible refine Below.alloc ?_ ?_ _) | (with_reducible refine Below.drew ?_) | (with_reducible refine below_drewN ?_ _) | (with_reducible refine Below.setCell ?_ ?_ _) | (simp only [World.size_alloc, World.size_setCell, World.size_drew, size_drewN]; omega) | omega))⟩
  · have HK := Lib.hid (k6_some (o := ⟨a, b, v⟩) hcc e1 hk)
    rw [e1] at C hc2
    have b3 : ((k : Int) == (n : Int)) = false := by
      have : (k : Int) ≠ n := by omega
      simpa using this
    have hlt : k < h.length := (List.getElem?_eq_some_iff.1 hk).1
    obtain ⟨s, ops, d, A', cap, bk, off, hxk, rfl, _, hb0, hO, c0, c1, c2⟩ := hx.at_ hlt
    rw [hk] at hxk
    cases hxk
    simp only at HK
    generalize lastv h b v = LV at CL HK
    have C := Lib.hid C
    have CL := Lib.hid CL
    clear hcc e1 e2 hc2 hk hO
    cases d with
    | false =>
      go_enter Tryz.func94, Tryz.ntmps94
      go_wp2_with (fail)
      go_at_call 60
      refine (C.out _ (hx.ext (by (repeat' (first | (with_reducible exact Below.refl _ _) | (with_reducible refine Below.mono (by assumption) ?_) | (with_reducible refine Below.trans ?_ (Below.mono (by assumption) ?_)) | (with_reducible refine Below.alloc ?_ ?_ _) | (with_reducible refine Below.drew ?_) | (with_reducible refine below_drewN ?_ _) | (with_reducible refine Below.setCell ?_ ?_ _) | (simp only [World.size_alloc, World.size_setCell, World.size_drew, size_drewN]; omega) | omega))))).mono ?_
      rintro e w1 ⟨rfl, hb⟩
      obtain ⟨hc, hf, hz, hs⟩ := bcell hb
      (try simp only [World.size_alloc, World.size_setCell, World.size_drew, size_drewN] at hs); (first | have l0 := Nat.lt_of_lt_of_le l0 (show _ ≤ w1.heap.size by omega) | have l0 : w.heap.size < w1.heap.size := (by omega) | skip); (try have l0e := Nat.le_of_lt l0); (try have l0f := Nat.le_add_right_of_le (k := 1) l0e); (try have l1 := Nat.lt_of_lt_of_le l1 (show _ ≤ w1.heap.size by omega)); (try have l1e := Nat.le_of_lt l1); (try have l1f := Nat.le_add_right_of_le (k := 1) l1e); (try have l2 := Nat.lt_of_lt_of_le l2 (show _ ≤ w1.heap.size by omega)); (try have l2e := Nat.le_of_lt l2); (try have l2f := Nat.le_add_right_of_le (k := 1) l2e); (try have l3 := Nat.lt_of_lt_of_le l3 (show _ ≤ w1.heap.size by omega)); (try have l3e := Nat.le_of_lt l3); (try have l3f := Nat.le_add_right_of_le (k := 1) l3e)
      obtain ⟨q0, q1, q2⟩ := box3 hb
      have f2 := (show Ext w w1 by (repeat' (first | (with_reducible exact Below.refl _ _) | (with_reducible refine Below.mono (by assumption) ?_) | (with_reducible refine Below.trans ?_ (Below.mono (by assumption) ?_)) | (with_reducible refine Below.alloc ?_ ?_ _) | (with_reducible refine Below.drew ?_) | (with_reducible refine below_drewN ?_ _) | (with_reducible refine Below.setCell ?_ ?_ _) | (simp only [World.size_alloc, World.size_setCell, World.size_drew, size_drewN]; omega) | omega))).keep hb0 c2
      clear hc hf hz
      go_wp2
      go_ret
      exact ⟨by rw [HK.out]; rfl, by (repeat' (first | (with_reducible exact Below.refl _ _) | (with_reducible refine Below.mono (by assumption) ?_) | (with_reducible refine Below.trans ?_ (Below.mono (by assumption) ?_)) | (with_reducible refine Below.alloc ?_ ?_ _) | (with_reducible refine Below.drew ?_) | (with_reducible refine below_drewN ?_ _) | (with_reducible refine Below.setCell ?_ ?_ _) | (simp only [World.size_alloc, World.size_setCell, World.size_drew, size_drewN]; omega) | omega))⟩
    | true =>
      cases LV with
      | false =>
        go_enter Tryz.func94, Tryz.ntmps94
        go_wp2_with (fail)
        go_at_call 60
        refine (C.out _ (hx.ext (by (repeat' (first | (with_reducible exact Below.refl _ _) | (with_reducible refine Below.mono (by assumption) ?_) | (with_reducible refine Below.trans ?_ (Below.mono (by assumption) ?_)) | (with_reducible refine Below.alloc ?_ ?_ _) | (with_reducible refine Below.drew ?_) | (with_reducible refine below_drewN ?_ _) | (with_reducible refine Below.setCell ?_ ?_ _) | (simp only [World.size_alloc, World.size_setCell, World.size_drew, size_drewN]; omega) | omega))))).mono ?_
        rintro e w1 ⟨rfl, hb⟩
        obtain ⟨hc, hf, hz, hs⟩ := bcell hb
        (try simp only [World.size_alloc, World.size_setCell, World.size_drew, size_drewN] at hs); (first | have l0 := Nat.lt_of_lt_of_le l0 (show _ ≤ w1.heap.size by omega) | have l0 : w.heap.size < w1.heap.size := (by omega) | skip); (try have l0e := Nat.le_of_lt l0); (try have l0f := Nat.le_add_right_of_le (k := 1) l0e); (try have l1 := Nat.lt_of_lt_of_le l1 (show _ ≤ w1.heap.size by omega)); (try have l1e := Nat.le_of_lt l1); (try have l1f := Nat.le_add_right_of_le (k := 1) l1e); (try have l2 := Nat.lt_of_lt_of_le l2 (show _ ≤ w1.heap.size by omega)); (try have l2e := Nat.le_of_lt l2); (try have l2f := Nat.le_add_right_of_le (k := 1) l2e); (try have l3 := Nat.lt_of_lt_of_le l3 (show _ ≤ w1.heap.size by omega)); (try have l3e := Nat.le_of_lt l3); (try have l3f := Nat.le_add_right_of_le (k := 1) l3e)
        obtain ⟨q0, q1, q2⟩ := box3 hb
        have e1 : Ext w w1 := by (repeat' (first | (with_reducible exact Below.refl _ _) | (with_reducible refine Below.mono (by assumption) ?_) | (with_reducible refine Below.trans ?_ (Below.mono (by assumption) ?_)) | (with_reducible refine Below.alloc ?_ ?_ _) | (with_reducible refine Below.drew ?_) | (with_reducible refine below_drewN ?_ _) | (with_reducible refine Below.setCell ?_ ?_ _) | (simp only [World.size_alloc, World.size_setCell, World.size_drew, size_drewN]; omega) | omega))
        have f2 := e1.keep hb0 c2
        clear hc hf hz
        go_wp2_with (fail)
        go_at_call 113
        refine (CL.out _ (hx.ext (by (repeat' (first | (with_reducible exact Below.refl _ _) | (with_reducible refine Below.mono (by assumption) ?_) | (with_reducible refine Below.trans ?_ (Below.mono (by assumption) ?_)) | (with_reducible refine Below.alloc ?_ ?_ _) | (with_reducible refine Below.drew ?_) | (with_reducible refine below_drewN ?_ _) | (with_reducible refine Below.setCell ?_ ?_ _) | (simp only [World.size_alloc, World.size_setCell, World.size_drew, size_drewN]; omega) | omega))))).mono ?_
        rintro e w2 ⟨rfl, hb2⟩
        obtain ⟨hc, hf, hz, hs⟩ := bcell hb
        (try simp only [World.size_alloc, World.size_setCell, World.size_drew, size_drewN] at hs); (first | have l0 := Nat.lt_of_lt_of_le l0 (show _ ≤ w2.heap.size by omega) | have l0 : w.heap.size < w2.heap.size := (by omega) | skip); (try have l0e := Nat.le_of_lt l0); (try have l0f := Nat.le_add_right_of_le (k := 1) l0e); (try have l1 := Nat.lt_of_lt_of_le l1 (show _ ≤ w2.heap.size by omega)); (try have l1e := Nat.le_of_lt l1); (try have l1f := Nat.le_add_right_of_le (k := 1) l1e); (try have l2 := Nat.lt_of_lt_of_le l2 (show _ ≤ w2.heap.size by omega)); (try have l2e := Nat.le_of_lt l2); (try have l2f := Nat.le_add_right_of_le (k := 1) l2e); (try have l3 := Nat.lt_of_lt_of_le l3 (show _ ≤ w2.heap.size by omega)); (try have l3e := Nat.le_of_lt l3); (try have l3f := Nat.le_add_right_of_le (k := 1) l3e)
        go_wp2
        go_ret
        exact ⟨by rw [HK.out]; rfl, e1.tr (by (repeat' (first | (with_reducible exact Below.refl _ _) | (with_reducible refine Below.mono (by assumption) ?_) | (with_reducible refine Below.trans ?_ (Below.mono (by assumption) ?_)) | (with_reducible refine Below.alloc ?_ ?_ _) | (with_reducible refine Below.drew ?_) | (with_reducible refine below_drewN ?_ _) | (with_reducible refine Below.setCell ?_ ?_ _) | (simp only [World.size_alloc, World.size_setCell, World.size_drew, size_drewN]; omega) | omega)))⟩
      | true =>
        go_enter Tryz.func94, Tryz.ntmps94
        go_wp2_with (fail)
        go_at_call 60
        refine (C.out _ (hx.ext (by (repeat' (first | (with_reducible exact Below.refl _ _) | (with_reducible refine Below.mono (by assumption) ?_) | (with_reducible refine Below.trans ?_ (Below.mono (by assumption) ?_)) | (with_reducible refine Below.alloc ?_ ?_ _) | (with_reducible refine Below.drew ?_) | (with_reducible refine below_drewN ?_ _) | (with_reducible refine Below.setCell ?_ ?_ _) | (simp only [World.size_alloc, World.size_setCell, World.size_drew, size_drewN]; omega) | omega))))).mono ?_
        rintro e w1 ⟨rfl, hb⟩
        obtain ⟨hc, hf, hz, hs⟩ := bcell hb
        (try simp only [World.size_alloc, World.size_setCell, World.size_drew, size_drewN] at hs); (first | have l0 := Nat.lt_of_lt_of_le l0 (show _ ≤ w1.heap.size by omega) | have l0 : w.heap.size < w1.heap.size := (by omega) | skip); (try have l0e := Nat.le_of_lt l0); (try have l0f := Nat.le_add_right_of_le (k := 1) l0e); (try have l1 := Nat.lt_of_lt_of_le l1 (show _ ≤ w1.heap.size by omega)); (try have l1e := Nat.le_of_lt l1); (try have l1f := Nat.le_add_right_of_le (k := 1) l1e); (try have l2 := Nat.lt_of_lt_of_le l2 (show _ ≤ w1.heap.size by omega)); (try have l2e := Nat.le_of_lt l2); (try have l2f := Nat.le_add_right_of_le (k := 1) l2e); (try have l3 := Nat.lt_of_lt_of_le l3 (show _ ≤ w1.heap.size by omega)); (try have l3e := Nat.le_of_lt l3); (try have l3f := Nat.le_add_right_of_le (k := 1) l3e)
        obtain ⟨q0, q1, q2⟩ := box3 hb
        have e1 : Ext w w1 := by (repeat' (first | (with_reducible exact Below.refl _ _) | (with_reducible refine Below.mono (by assumption) ?_) | (with_reducible refine Below.trans ?_ (Below.mono (by assumption) ?_)) | (with_reducible refine Below.alloc ?_ ?_ _) | (with_reducible refine Below.drew ?_) | (with_reducible refine below_drewN ?_ _) | (with_reducible refine Below.setCell ?_ ?_ _) | (simp only [World.size_alloc, World.size_setCell, World.size_drew, size_drewN]; omega) | omega))
        have f2 := e1.keep hb0 c2
        clear hc hf hz
        go_wp2_with (fail)
        go_at_call 113
        refine (CL.out _ (hx.ext (by (repeat' (first | (with_reducible exact Below.refl _ _) | (with_reducible refine Below.mono (by assumption) ?_) | (with_reducible refine Below.trans ?_ (Below.mono (by assumption) ?_)) | (with_reducible refine Below.alloc ?_ ?_ _) | (with_reducible refine Below.drew ?_) | (with_reducible refine below_drewN ?_ _) | (with_reducible refine Below.setCell ?_ ?_ _) | (simp only [World.size_alloc, World.size_setCell, World.size_drew, size_drewN]; omega) | omega))))).mono ?_
        rintro e w2 ⟨rfl, hb2⟩
        obtain ⟨hc, hf, hz, hs⟩ := bcell hb
        (try simp only [World.size_alloc, World.size_setCell, World.size_drew, size_drewN] at hs); (first | have l0 := Nat.lt_of_lt_of_le l0 (show _ ≤ w2.heap.size by omega) | have l0 : w.heap.size < w2.heap.size := (by omega) | skip); (try have l0e := Nat.le_of_lt l0); (try have l0f := Nat.le_add_right_of_le (k := 1) l0e); (try have l1 := Nat.lt_of_lt_of_le l1 (show _ ≤ w2.heap.size by omega)); (try have l1e := Nat.le_of_lt l1); (try have l1f := Nat.le_add_right_of_le (k := 1) l1e); (try have l2 := Nat.lt_of_lt_of_le l2 (show _ ≤ w2.heap.size by omega)); (try have l2e := Nat.le_of_lt l2); (try have l2f := Nat.le_add_right_of_le (k := 1) l2e); (try have l3 := Nat.lt_of_lt_of_le l3 (show _ ≤ w2.heap.size by omega)); (try have l3e := Nat.le_of_lt l3); (try have l3f := Nat.le_add_right_of_le (k := 1) l3e)
        go_wp2
        go_ret
        exact ⟨by rw [HK.out]; rfl, e1.tr (by (repeat' (first | (with_reducible exact Below.refl _ _) | (with_reducible refine Below.mono (by assumption) ?_) | (with_reducible refine Below.trans ?_ (Below.mono (by assumption) ?_)) | (with_reducible refine Below.alloc ?_ ?_ _) | (with_reducible refine Below.drew ?_) | (with_reducible refine below_drewN ?_ _) | (with_reducible refine Below.setCell ?_ ?_ _) | (simp only [World.size_alloc, World.size_setCell, World.size_drew, size_drewN]; omega) | omega)))⟩
set_option maxHeartbeats 2000000 in
theorem badKind_zero (h : List TxnT) (S : Nat → Prop) (A : Option Addr) (c : Nat) (n : Nat) (o : T3) (w : World) (hx : Txns S w A h) (hsm : Small h) (hv : histv h = true) (hcc : o.a ≠ 1 ∨ o.c = 0 ∨ wrN h o.b o.c = n) :
    Calls Tryz.prog 112 #[.slice A h.length c, .int .i64 n, .agg #[.int .i64 o.a, .int .i64 o.b, .int .i64 o.c]] w fun e w' => e = .returned (.int .i64 0) ∧ Ext w w' := by
  obtain ⟨a, b, v⟩ := o
  have C := fun w hx => implWriterOf_c h S A c b v w hx hsm
  rw [if_pos hv] at C
  simp only at hcc
  generalize wrN h b v = W at C hcc
  have C := Lib.hid C
  by_cases h1 : a = 1
  · have b1 : (a == 1) = true := by simp [h1]
    by_cases h2 : v = 0
    · have b2 : (v == 0) = true := by simp [h2]
      clear hcc h1 h2
      go_enter Tryz.func112, Tryz.ntmps112
      go_wp2_with (fail)
      go_at_call 50
      refine (C.out _ (hx.ext (by (repeat' (first | (with_reducible exact Below.refl _ _) | (with_reducible refine Below.mono (by assumption) ?_) | (with_reducible refine Below.trans ?_ (Below.mono (by assumption) ?_)) | (with_reducible refine Below.alloc ?_ ?_ _) | (with_reducible refine Below.drew ?_) | (with_reducible refine below_drewN ?_ _) | (with_reducible refine Below.setCell ?_ ?_ _) | (simp only [World.size_alloc, World.size_setCell, World.size_drew, size_drewN]; omega) | omega))))).mono ?_
      rintro e w1 ⟨rfl, hb⟩
      obtain ⟨hc, hf, hz, hs⟩ := bcell hb
      (try simp only [World.size_alloc, World.size_setCell, World.size_drew, size_drewN] at hs); (first | have l0 := Nat.lt_of_lt_of_le l0 (show _ ≤ w1.heap.size by omega) | have l0 : w.heap.size < w1.heap.size := (by omega) | skip); (try have l0e := Nat.le_of_lt l0); (try have l0f := Nat.le_add_right_of_le (k := 1) l0e); (try have l1 := Nat.lt_of_lt_of_le l1 (show _ ≤ w1.heap.size by omega)); (try have l1e := Nat.le_of_lt l1); (try have l1f := Nat.le_add_right_of_le (k := 1) l1e); (try have l2 := Nat.lt_of_lt_of_le l2 (show _ ≤ w1.heap.size by omega)); (try have l2e := Nat.le_of_lt l2); (try have l2f := Nat.le_add_right_of_le (k := 1) l2e); (try have l3 := Nat.lt_of_lt_of_le l3 (show _ ≤ w1.heap.size by omega)); (try have l3e := Nat.le_of_lt l3); (try have l3f := Nat.le_add_right_of_le (k := 1) l3e)
      obtain ⟨q0, q1, q2⟩ := box3 hb
      go_wp2_with (fail)
      go_at_call 79
      refine (reads_c _ _ _ _).mono ?_
      rintro e wr ⟨rfl, hbr⟩
      obtain ⟨hc, hf, hz, hs⟩ := bcell hb
      (try simp only [World.size_alloc, World.size_setCell, World.size_drew, size_drewN] at hs); (first | have l0 := Nat.lt_of_lt_of_le l0 (show _ ≤ wr.heap.size by omega) | have l0 : w.heap.size < wr.heap.size := (by omega) | skip); (try have l0e := Nat.le_of_lt l0); (try have l0f := Nat.le_add_right_of_le (k := 1) l0e); (try have l1 := Nat.lt_of_lt_of_le l1 (show _ ≤ wr.heap.size by omega)); (try have l1e := Nat.le_of_lt l1); (try have l1f := Nat.le_add_right_of_le (k := 1) l1e); (try have l2 := Nat.lt_of_lt_of_le l2 (show _ ≤ wr.heap.size by omega)); (try have l2e := Nat.le_of_lt l2); (try have l2f := Nat.le_add_right_of_le (k := 1) l2e); (try have l3 := Nat.lt_of_lt_of_le l3 (show _ ≤ wr.heap.size by omega)); (try have l3e := Nat.le_of_lt l3); (try have l3f := Nat.le_add_right_of_le (k := 1) l3e)
      have l0w : w.heap.size < w1.heap.size := by have := (show Ext (w.alloc (.cells #[.int .i64 a, .int .i64 b, .int .i64 v] 62)) w1 by (repeat' (first | (with_reducible exact Below.refl _ _) | (with_reducible refine Below.mono (by assumption) ?_) | (with_reducible refine Below.trans ?_ (Below.mono (by assumption) ?_)) | (with_reducible refine Below.alloc ?_ ?_ _) | (with_reducible refine Below.drew ?_) | (with_reducible refine below_drewN ?_ _) | (with_reducible refine Below.setCell ?_ ?_ _) | (simp only [World.size_alloc, World.size_setCell, World.size_drew, size_drewN]; omega) | omega))).size; simp only [World.size_alloc] at this; omega
      have q0 := hbr.keep l0w q0
      have q1 := hbr.keep l0w q1
      have q2 := hbr.keep l0w q2
      clear hc hf hz
      go_wp2
      go_ret
      exact ⟨rfl, by (repeat' (first | (with_reducible exact Below.refl _ _) | (with_reducible refine Below.mono (by assumption) ?_) | (with_reducible refine Below.trans ?_ (Below.mono (by assumption) ?_)) | (with_reducible refine Below.alloc ?_ ?_ _) | (with_reducible refine Below.drew ?_) | (with_reducible refine below_drewN ?_ _) | (with_reducible refine Below.setCell ?_ ?_ _) | (simp only [World.size_alloc, World.size_setCell, World.size_drew, size_drewN]; omega) | omega))⟩
    · have b2 : (v == 0) = false := by simp [h2]
      have b3 : (W == (n : Int)) = true := by
        rcases hcc with h | h | h
        · exact absurd h1 h
        · exact absurd h h2
        · simp [h]
      clear hcc h1 h2
      go_enter Tryz.func112, Tryz.ntmps112
      go_wp2_with (fail)
      go_at_call 50
      refine (C.out _ (hx.ext (by (repeat' (first | (with_reducible exact Below.refl _ _) | (with_reducible refine Below.mono (by assumption) ?_) | (with_reducible refine Below.trans ?_ (Below.mono (by assumption) ?_)) | (with_reducible refine Below.alloc ?_ ?_ _) | (with_reducible refine Below.drew ?_) | (with_reducible refine below_drewN ?_ _) | (with_reducible refine Below.setCell ?_ ?_ _) | (simp only [World.size_alloc, World.size_setCell, World.size_drew, size_drewN]; omega) | omega))))).mono ?_
      rintro e w1 ⟨rfl, hb⟩
      obtain ⟨hc, hf, hz, hs⟩ := bcell hb
      (try simp only [World.size_alloc, World.size_setCell, World.size_drew, size_drewN] at hs); (first | have l0 := Nat.lt_of_lt_of_le l0 (show _ ≤ w1.heap.size by omega) | have l0 : w.heap.size < w1.heap.size := (by omega) | skip); (try have l0e := Nat.le_of_lt l0); (try have l0f := Nat.le_add_right_of_le (k := 1) l0e); (try have l1 := Nat.lt_of_lt_of_le l1 (show _ ≤ w1.heap.size by omega)); (try have l1e := Nat.le_of_lt l1); (try have l1f := Nat.le_add_right_of_le (k := 1) l1e); (try have l2 := Nat.lt_of_lt_of_le l2 (show _ ≤ w1.heap.size by omega)); (try have l2e := Nat.le_of_lt l2); (try have l2f := Nat.le_add_right_of_le (k := 1) l2e); (try have l3 := Nat.lt_of_lt_of_le l3 (show _ ≤ w1.heap.size by omega)); (try have l3e := Nat.le_of_lt l3); (try have l3f := Nat.le_add_right_of_le (k := 1) l3e)
      obtain ⟨q0, q1, q2⟩ := box3 hb
      go_wp2_with (fail)
      go_at_call 79
      refine (reads_c _ _ _ _).mono ?_
      rintro e wr ⟨rfl, hbr⟩
      obtain ⟨hc, hf, hz, hs⟩ := bcell hb
      (try simp only [World.size_alloc, World.size_setCell, World.size_drew, size_drewN] at hs); (first | have l0 := Nat.lt_of_lt_of_le l0 (show _ ≤ wr.heap.size by omega) | have l0 : w.heap.size < wr.heap.size := (by omega) | skip); (try have l0e := Nat.le_of_lt l0); (try have l0f := Nat.le_add_right_of_le (k := 1) l0e); (try have l1 := Nat.lt_of_lt_of_le l1 (show _ ≤ wr.heap.size by omega)); (try have l1e := Nat.le_of_lt l1); (try have l1f := Nat.le_add_right_of_le (k := 1) l1e); (try have l2 := Nat.lt_of_lt_of_le l2 (show _ ≤ wr.heap.size by omega)); (try have l2e := Nat.le_of_lt l2); (try have l2f := Nat.le_add_right_of_le (k := 1) l2e); (try have l3 := Nat.lt_of_lt_of_le l3 (show _ ≤ wr.heap.size by omega)); (try have l3e := Nat.le_of_lt l3); (try have l3f := Nat.le_add_right_of_le (k := 1) l3e)
      have l0w : w.heap.size < w1.heap.size := by have := (show Ext (w.alloc (.cells #[.int .i64 a, .int .i64 b, .int .i64 v] 62)) w1 by (repeat' (first | (with_reducible exact Below.refl _ _) | (with_reducible refine Below.mono (by assumption) ?_) | (with_reducible refine Below.trans ?_ (Below.mono (by assumption) ?_)) | (with_reducible refine Below.alloc ?_ ?_ _) | (with_reducible refine Below.drew ?_) | (with_reducible refine below_drewN ?_ _) | (with_reducible refine Below.setCell ?_ ?_ _) | (simp only [World.size_alloc, World.size_setCell, World.size_drew, size_drewN]; omega) | omega))).size; simp only [World.size_alloc] at this; omega
      have q0 := hbr.keep l0w q0
      have q1 := hbr.keep l0w q1
      have q2 := hbr.keep l0w q2
      clear hc hf hz
      go_wp2
      go_ret
      exact ⟨rfl, by (repeat' (first | (with_reducible exact Below.refl _ _) | (with_reducible refine Below.mono (by assumption) ?_) | (with_reducible refine Below.trans ?_ (Below.mono (by assumption) ?_)) | (with_reducible refine Below.alloc ?_ ?_ _) | (with_reducible refine Below.drew ?_) | (with_reducible refine below_drewN ?_ _) | (with_reducible refine Below.setCell ?_ ?_ _) | (simp only [World.size_alloc, World.size_setCell, World.size_drew, size_drewN]; omega) | omega))⟩
  · have b1 : (a == 1) = false := by simp [h1]
    clear hcc h1
    go_enter Tryz.func112, Tryz.ntmps112
    go_wp2_with (fail)
    go_at_call 50
    refine (C.out _ (hx.ext (by (repeat' (first | (with_reducible exact Below.refl _ _) | (with_reducible refine Below.mono (by assumption) ?_) | (with_reducible refine Below.trans ?_ (Below.mono (by assumption) ?_)) | (with_reducible refine Below.alloc ?_ ?_ _) | (with_reducible refine Below.drew ?_) | (with_reducible refine below_drewN ?_ _) | (with_reducible refine Below.setCell ?_ ?_ _) | (simp only [World.size_alloc, World.size_setCell, World.size_drew, size_drewN]; omega) | omega))))).mono ?_
    rintro e w1 ⟨rfl, hb⟩
    obtain ⟨hc, hf, hz, hs⟩ := bcell hb
    (try simp only [World.size_alloc, World.size_setCell, World.size_drew, size_drewN] at hs); (first | have l0 := Nat.lt_of_lt_of_le l0 (show _ ≤ w1.heap.size by omega) | have l0 : w.heap.size < w1.heap.size := (by omega) | skip); (try have l0e := Nat.le_of_lt l0); (try have l0f := Nat.le_add_right_of_le (k := 1) l0e); (try have l1 := Nat.lt_of_lt_of_le l1 (show _ ≤ w1.heap.size by omega)); (try have l1e := Nat.le_of_lt l1); (try have l1f := Nat.le_add_right_of_le (k := 1) l1e); (try have l2 := Nat.lt_of_lt_of_le l2 (show _ ≤ w1.heap.size by omega)); (try have l2e := Nat.le_of_lt l2); (try have l2f := Nat.le_add_right_of_le (k := 1) l2e); (try have l3 := Nat.lt_of_lt_of_le l3 (show _ ≤ w1.heap.size by omega)); (try have l3e := Nat.le_of_lt l3); (try have l3f := Nat.le_add_right_of_le (k := 1) l3e)
    obtain ⟨q0, q1, q2⟩ := box3 hb
    go_wp2_with (fail)
    go_at_call 79
    refine (reads_c _ _ _ _).mono ?_
    rintro e wr ⟨rfl, hbr⟩
    obtain ⟨hc, hf, hz, hs⟩ := bcell hb
    (try simp only [World.size_alloc, World.size_setCell, World.size_drew, size_drewN] at hs); (first | have l0 := Nat.lt_of_lt_of_le l0 (show _ ≤ wr.heap.size by omega) | have l0 : w.heap.size < wr.heap.size := (by omega) | skip); (try have l0e := Nat.le_of_lt l0); (try have l0f := Nat.le_add_right_of_le (k := 1) l0e); (try have l1 := Nat.lt_of_lt_of_le l1 (show _ ≤ wr.heap.size by omega)); (try have l1e := Nat.le_of_lt l1); (try have l1f := Nat.le_add_right_of_le (k := 1) l1e); (try have l2 := Nat.lt_of_lt_of_le l2 (show _ ≤ wr.heap.size by omega)); (try have l2e := Nat.le_of_lt l2); (try have l2f := Nat.le_add_right_of_le (k := 1) l2e); (try have l3 := Nat.lt_of_lt_of_le l3 (show _ ≤ wr.heap.size by omega)); (try have l3e := Nat.le_of_lt l3); (try have l3f := Nat.le_add_right_of_le (k := 1) l3e)
    have l0w : w.heap.size < w1.heap.size := by have := (show Ext (w.alloc (.cells #[.int .i64 a, .int .i64 b, .int .i64 v] 62)) w1 by (repeat' (first | (with_reducible exact Below.refl _ _) | (with_reducible refine Below.mono (by assumption) ?_) | (with_reducible refine Below.trans ?_ (Below.mono (by assumption) ?_)) | (with_reducible refine Below.alloc ?_ ?_ _) | (with_reducible refine Below.drew ?_) | (with_reducible refine below_drewN ?_ _) | (with_reducible refine Below.setCell ?_ ?_ _) | (simp only [World.size_alloc, World.size_setCell, World.size_drew, size_drewN]; omega) | omega))).size; simp only [World.size_alloc] at this; omega
    have q0 := hbr.keep l0w q0
    have q1 := hbr.keep l0w q1
    have q2 := hbr.keep l0w q2
    clear hc hf hz
    go_wp2
    go_ret
    exact ⟨rfl, by (repeat' (first | (with_reducible exact Below.refl _ _) | (with_reducible refine Below.mono (by assumption) ?_) | (with_reducible refine Below.trans ?_ (Below.mono (by assumption) ?_)) | (with_reducible refine Below.alloc ?_ ?_ _) | (with_reducible refine Below.drew ?_) | (with_reducible refine below_drewN ?_ _) | (with_reducible refine Below.setCell ?_ ?_ _) | (simp only [World.size_alloc, World.size_setCell, World.size_drew, size_drewN]; omega) | omega))⟩
set_option maxHeartbeats 2000000 in
theorem badKind_c (h : List TxnT) (S : Nat → Prop) (A : Option Addr) (c : Nat) (n : Nat) (o : T3) (w : World) (hx : Txns S w A h) (hsm : Small h) (hv : histv h = true) :
    Calls Tryz.prog 112 #[.slice A h.length c, .int .i64 n, .agg #[.int .i64 o.a, .int .i64 o.b, .int .i64 o.c]] w fun e w' => e = .returned (.int .i64 (k6 h n o)) ∧ Ext w w' := by
  by_cases hcc : o.a ≠ 1 ∨ o.c = 0 ∨ wrN h o.b o.c = n
  · rw [k6_zero hcc]; exact badKind_zero h S A c n o w hx hsm hv hcc
  obtain ⟨a, b, v⟩ := o
  have C := fun w hx => implWriterOf_c h S A c b v w hx hsm
  rw [if_pos hv] at C
  have CL := fun w hx => implLastValue_c h S A c b v w hx hsm
  rw [hv, Bool.true_and] at CL
  clear hv
  have hc2 : ¬ (a ≠ 1 ∨ v = 0 ∨ wrN h b v = n) := hcc
  have b1 : (a == 1) = true := by
    have : a = 1 := by omega
    simp [this]
  have b2 : (v == 0) = false := by
    have : v ≠ 0 := by omega
    simp [this]
  rcases wrN_cases h b v with ⟨e1, e2⟩ | ⟨k, t, hk, e1, e2⟩
  · have HK := Lib.hid (k6_none (o := ⟨a, b, v⟩) hcc e1)
    rw [e1] at C hc2
    have b3 : ((-1 : Int) == (n : Int)) = false := by
      have : (-1 : Int) ≠ n := by omega
      simp
    have C := Lib.hid C
    clear hcc e1 e2 CL hc2
    go_enter Tryz.func112, Tryz.ntmps112
    go_wp2_with (fail)
    go_at_call 50
    refine (C.out _ (hx.ext (by (repeat' (first | (with_reducible exact Below.refl _ _) | (with_reducible refine Below.mono (by assumption) ?_) | (with_reducible refine Below.trans ?_ (Below.mono (by assumption) ?_)) | (with_reducible refine Below.alloc ?_ ?_ _) | (with_reducible refine Below.drew ?_) | (with_reducible refine below_drewN ?_ _) | (with_reducible refine Below.setCell ?_ ?_ _) | (simp only [World.size_alloc, World.size_setCell, World.size_drew, size_drewN]; omega) | omega))))).mono ?_
    rintro e w1 ⟨rfl, hb⟩
    obtain ⟨hc, hf, hz, hs⟩ := bcell hb
    (try simp only [World.size_alloc, World.size_setCell, World.size_drew, size_drewN] at hs); (first | have l0 := Nat.lt_of_lt_of_le l0 (show _ ≤ w1.heap.size by omega) | have l0 : w.heap.size < w1.heap.size := (by omega) | skip); (try have l0e := Nat.le_of_lt l0); (try have l0f := Nat.le_add_right_of_le (k := 1) l0e); (try have l1 := Nat.lt_of_lt_of_le l1 (show _ ≤ w1.heap.size by omega)); (try have l1e := Nat.le_of_lt l1); (try have l1f := Nat.le_add_right_of_le (k := 1) l1e); (try have l2 := Nat.lt_of_lt_of_le l2 (show _ ≤ w1.heap.size by omega)); (try have l2e := Nat.le_of_lt l2); (try have l2f := Nat.le_add_right_of_le (k := 1) l2e); (try have l3 := Nat.lt_of_lt_of_le l3 (show _ ≤ w1.heap.size by omega)); (try have l3e := Nat.le_of_lt l3); (try have l3f := Nat.le_add_right_of_le (k := 1) l3e)
    obtain ⟨q0, q1, q2⟩ := box3 hb
    go_wp2_with (fail)
    go_at_call 79
    refine (reads_c _ _ _ _).mono ?_
    rintro e wr ⟨rfl, hbr⟩
    obtain ⟨hc, hf, hz, hs⟩ := bcell hb
    (try simp only [World.size_alloc, World.size_setCell, World.size_drew, size_drewN] at hs); (first | have l0 := Nat.lt_of_lt_of_le l0 (show _ ≤ wr.heap.size by omega) | have l0 : w.heap.size < wr.heap.size := (by omega) | skip); (try have l0e := Nat.le_of_lt l0); (try have l0f := Nat.le_add_right_of_le (k := 1) l0e); (try have l1 := Nat.lt_of_lt_of_le l1 (show _ ≤ wr.heap.size by omega)); (try have l1e := Nat.le_of_lt l1); (try have l1f := Nat.le_add_right_of_le (k := 1) l1e); (try have l2 := Nat.lt_of_lt_of_le l2 (show _ ≤ wr.heap.size by omega)); (try have l2e := Nat.le_of_lt l2); (try have l2f := Nat.le_add_right_of_le (k := 1) l2e); (try have l3 := Nat.lt_of_lt_of_le l3 (show _ ≤ wr.heap.size by omega)); (try have l3e := Nat.le_of_lt l3); (try have l3f := Nat.le_add_right_of_le (k := 1) l3e)
    have l0w : w.heap.size < w1.heap.size := by have := (show Ext (w.alloc (.cells #[.int .i64 a, .int .i64 b, .int .i64 v] 62)) w1 by (repeat' (first | (with_reducible exact Below.refl _ _) | (with_reducible refine Below.mono (by assumption) ?_) | (with_reducible refine Below.trans ?_ (Below.mono (by assumption) ?_)) | (with_reducible refine Below.alloc ?_ ?_ _) | (with_reducible refine Below.drew ?_) | (with_reducible refine below_drewN ?_ _) | (with_reducible refine Below.setCell ?_ ?_ _) | (simp only [World.size_alloc, World.size_setCell, World.size_drew, size_drewN]; omega) | omega))).size; simp only [World.size_alloc] at this; omega
    have q0 := hbr.keep l0w q0
    have q1 := hbr.keep l0w q1
    have q2 := hbr.keep l0w q2
    clear hc hf hz
    go_wp2
    go_ret
    exact ⟨by rw [HK.out]; rfl, by (repeat' (first | (with_reducible exact Below.refl _ _) | (with_reducible refine Below.mono (by assumption) ?_) | (with_reducible refine Below.trans ?_ (Below.mono (by assumption) ?_)) | (with_reducible refine Below.alloc ?_ ?_ _) | (with_reducible refine Below.drew ?_) | (with_reducible refine below_drewN ?_ _) | (with_reducible refine Below.setCell ?_ ?_ _) | (simp only [World.size_alloc, World.size_setCell, World.size_drew, size_drewN]; omega) | omega))⟩
  · have HK := Lib.hid (k6_some (o := ⟨a, b, v⟩) hcc e1 hk)
    rw [e1] at C hc2
    have b3 : ((k : Int) == (n : Int)) = false := by
      have : (k : Int) ≠ n := by omega
      simpa using this
    have hlt : k < h.length := (List.getElem?_eq_some_iff.1 hk).1
    obtain ⟨s, ops, d, A', cap, bk, off, hxk, rfl, _, hb0, hO, c0, c1, c2⟩ := hx.at_ hlt
    rw [hk] at hxk
    cases hxk
    simp only at HK
    generalize lastv h b v = LV at CL HK
    have C := Lib.hid C
    have CL := Lib.hid CL
    clear hcc e1 e2 hc2 hk hO
    cases d with
    | false =>
      go_enter Tryz.func112, Tryz.ntmps112
      go_wp2_with (fail)
      go_at_call 50
      refine (C.out _ (hx.ext (by (repeat' (first | (with_reducible exact Below.refl _ _) | (with_reducible refine Below.mono (by assumption) ?_) | (with_reducible refine Below.trans ?_ (Below.mono (by assumption) ?_)) | (with_reducible refine Below.alloc ?_ ?_ _) | (with_reducible refine Below.drew ?_) | (with_reducible refine below_drewN ?_ _) | (with_reducible refine Below.setCell ?_ ?_ _) | (simp only [World.size_alloc, World.size_setCell, World.size_drew, size_drewN]; omega) | omega))))).mono ?_
      rintro e w1 ⟨rfl, hb⟩
      obtain ⟨hc, hf, hz, hs⟩ := bcell hb
      (try simp only [World.size_alloc, World.size_setCell, World.size_drew, size_drewN] at hs); (first | have l0 := Nat.lt_of_lt_of_le l0 (show _ ≤ w1.heap.size by omega) | have l0 : w.heap.size < w1.heap.size := (by omega) | skip); (try have l0e := Nat.le_of_lt l0); (try have l0f := Nat.le_add_right_of_le (k := 1) l0e); (try have l1 := Nat.lt_of_lt_of_le l1 (show _ ≤ w1.heap.size by omega)); (try have l1e := Nat.le_of_lt l1); (try have l1f := Nat.le_add_right_of_le (k := 1) l1e); (try have l2 := Nat.lt_of_lt_of_le l2 (show _ ≤ w1.heap.size by omega)); (try have l2e := Nat.le_of_lt l2); (try have l2f := Nat.le_add_right_of_le (k := 1) l2e); (try have l3 := Nat.lt_of_lt_of_le l3 (show _ ≤ w1.heap.size by omega)); (try have l3e := Nat.le_of_lt l3); (try have l3f := Nat.le_add_right_of_le (k := 1) l3e)
      obtain ⟨q0, q1, q2⟩ := box3 hb
      go_wp2_with (fail)
      go_at_call 79
      refine (reads_c _ _ _ _).mono ?_
      rintro e wr ⟨rfl, hbr⟩
      obtain ⟨hc, hf, hz, hs⟩ := bcell hb
      (try simp only [World.size_alloc, World.size_setCell, World.size_drew, size_drewN] at hs); (first | have l0 := Nat.lt_of_lt_of_le l0 (show _ ≤ wr.heap.size by omega) | have l0 : w.heap.size < wr.heap.size := (by omega) | skip); (try have l0e := Nat.le_of_lt l0); (try have l0f := Nat.le_add_right_of_le (k := 1) l0e); (try have l1 := Nat.lt_of_lt_of_le l1 (show _ ≤ wr.heap.size by omega)); (try have l1e := Nat.le_of_lt l1); (try have l1f := Nat.le_add_right_of_le (k := 1) l1e); (try have l2 := Nat.lt_of_lt_of_le l2 (show _ ≤ wr.heap.size by omega)); (try have l2e := Nat.le_of_lt l2); (try have l2f := Nat.le_add_right_of_le (k := 1) l2e); (try have l3 := Nat.lt_of_lt_of_le l3 (show _ ≤ wr.heap.size by omega)); (try have l3e := Nat.le_of_lt l3); (try have l3f := Nat.le_add_right_of_le (k := 1) l3e)
      have l0w : w.heap.size < w1.heap.size := by have := (show Ext (w.alloc (.cells #[.int .i64 a, .int .i64 b, .int .i64 v] 62)) w1 by (repeat' (first | (with_reducible exact Below.refl _ _) | (with_reducible refine Below.mono (by assumption) ?_) | (with_reducible refine Below.trans ?_ (Below.mono (by assumption) ?_)) | (with_reducible refine Below.alloc ?_ ?_ _) | (with_reducible refine Below.drew ?_) | (with_reducible refine below_drewN ?_ _) | (with_reducible refine Below.setCell ?_ ?_ _) | (simp only [World.size_alloc, World.size_setCell, World.size_drew, size_drewN]; omega) | omega))).size; simp only [World.size_alloc] at this; omega
      have q0 := hbr.keep l0w q0
      have q1 := hbr.keep l0w q1
      have q2 := hbr.keep l0w q2
      have f2 := (show Ext w wr by (repeat' (first | (with_reducible exact Below.refl _ _) | (with_reducible refine Below.mono (by assumption) ?_) | (with_reducible refine Below.trans ?_ (Below.mono (by assumption) ?_)) | (with_reducible refine Below.alloc ?_ ?_ _) | (with_reducible refine Below.drew ?_) | (with_reducible refine below_drewN ?_ _) | (with_reducible refine Below.setCell ?_ ?_ _) | (simp only [World.size_alloc, World.size_setCell, World.size_drew, size_drewN]; omega) | omega))).keep hb0 c2
      clear hc hf hz
      go_wp2
      go_ret
      exact ⟨by rw [HK.out]; rfl, by (repeat' (first | (with_reducible exact Below.refl _ _) | (with_reducible refine Below.mono (by assumption) ?_) | (with_reducible refine Below.trans ?_ (Below.mono (by assumption) ?_)) | (with_reducible refine Below.alloc ?_ ?_ _) | (with_reducible refine Below.drew ?_) | (with_reducible refine below_drewN ?_ _) | (with_reducible refine Below.setCell ?_ ?_ _) | (simp only [World.size_alloc, World.size_setCell, World.size_drew, size_drewN]; omega) | omega))⟩
    | true =>
      cases LV with
      | false =>
        go_enter Tryz.func112, Tryz.ntmps112
        go_wp2_with (fail)
        go_at_call 50
        refine (C.out _ (hx.ext (by (repeat' (first | (with_reducible exact Below.refl _ _) | (with_reducible refine Below.mono (by assumption) ?_) | (with_reducible refine Below.trans ?_ (Below.mono (by assumption) ?_)) | (with_reducible refine Below.alloc ?_ ?_ _) | (with_reducible refine Below.drew ?_) | (with_reducible refine below_drewN ?_ _) | (with_reducible refine Below.setCell ?_ ?_ _) | (simp only [World.size_alloc, World.size_setCell, World.size_drew, size_drewN]; omega) | omega))))).mono ?_
        rintro e w1 ⟨rfl, hb⟩
        obtain ⟨hc, hf, hz, hs⟩ := bcell hb
        (try simp only [World.size_alloc, World.size_setCell, World.size_drew, size_drewN] at hs); (first | have l0 := Nat.lt_of_lt_of_le l0 (show _ ≤ w1.heap.size by omega) | have l0 : w.heap.size < w1.heap.size := (by omega) | skip); (try have l0e := Nat.le_of_lt l0); (try have l0f := Nat.le_add_right_of_le (k := 1) l0e); (try have l1 := Nat.lt_of_lt_of_le l1 (show _ ≤ w1.heap.size by omega)); (try have l1e := Nat.le_of_lt l1); (try have l1f := Nat.le_add_right_of_le (k := 1) l1e); (try have l2 := Nat.lt_of_lt_of_le l2 (show _ ≤ w1.heap.size by omega)); (try have l2e := Nat.le_of_lt l2); (try have l2f := Nat.le_add_right_of_le (k := 1) l2e); (try have l3 := Nat.lt_of_lt_of_le l3 (show _ ≤ w1.heap.size by omega)); (try have l3e := Nat.le_of_lt l3); (try have l3f := Nat.le_add_right_of_le (k := 1) l3e)
        obtain ⟨q0, q1, q2⟩ := box3 hb
        go_wp2_with (fail)
        go_at_call 79
        refine (reads_c _ _ _ _).mono ?_
        rintro e wr ⟨rfl, hbr⟩
        obtain ⟨hc, hf, hz, hs⟩ := bcell hb
        (try simp only [World.size_alloc, World.size_setCell, World.size_drew, size_drewN] at hs); (first | have l0 := Nat.lt_of_lt_of_le l0 (show _ ≤ wr.heap.size by omega) | have l0 : w.heap.size < wr.heap.size := (by omega) | skip); (try have l0e := Nat.le_of_lt l0); (try have l0f := Nat.le_add_right_of_le (k := 1) l0e); (try have l1 := Nat.lt_of_lt_of_le l1 (show _ ≤ wr.heap.size by omega)); (try have l1e := Nat.le_of_lt l1); (try have l1f := Nat.le_add_right_of_le (k := 1) l1e); (try have l2 := Nat.lt_of_lt_of_le l2 (show _ ≤ wr.heap.size by omega)); (try have l2e := Nat.le_of_lt l2); (try have l2f := Nat.le_add_right_of_le (k := 1) l2e); (try have l3 := Nat.lt_of_lt_of_le l3 (show _ ≤ wr.heap.size by omega)); (try have l3e := Nat.le_of_lt l3); (try have l3f := Nat.le_add_right_of_le (k := 1) l3e)
        have l0w : w.heap.size < w1.heap.size := by have := (show Ext (w.alloc (.cells #[.int .i64 a, .int .i64 b, .int .i64 v] 62)) w1 by (repeat' (first | (with_reducible exact Below.refl _ _) | (with_reducible refine Below.mono (by assumption) ?_) | (with_reducible refine Below.trans ?_ (Below.mono (by assumption) ?_)) | (with_reducible refine Below.alloc ?_ ?_ _) | (with_reducible refine Below.drew ?_) | (with_reducible refine below_drewN ?_ _) | (with_reducible refine Below.setCell ?_ ?_ _) | (simp only [World.size_alloc, World.size_setCell, World.size_drew, size_drewN]; omega) | omega))).size; simp only [World.size_alloc] at this; omega
        have q0 := hbr.keep l0w q0
        have q1 := hbr.keep l0w q1
        have q2 := hbr.keep l0w q2
        have e1 : Ext w wr := by (repeat' (first | (with_reducible exact Below.refl _ _) | (with_reducible refine Below.mono (by assumption) ?_) | (with_reducible refine Below.trans ?_ (Below.mono (by assumption) ?_)) | (with_reducible refine Below.alloc ?_ ?_ _) | (with_reducible refine Below.drew ?_) | (with_reducible refine below_drewN ?_ _) | (with_reducible refine Below.setCell ?_ ?_ _) | (simp only [World.size_alloc, World.size_setCell, World.size_drew, size_drewN]; omega) | omega))
        have f2 := e1.keep hb0 c2
        clear hc hf hz
        go_wp2_with (fail)
        go_at_call 137
        refine (CL.out _ (hx.ext (by (repeat' (first | (with_reducible exact Below.refl _ _) | (with_reducible refine Below.mono (by assumption) ?_) | (with_reducible refine Below.trans ?_ (Below.mono (by assumption) ?_)) | (with_reducible refine Below.alloc ?_ ?_ _) | (with_reducible refine Below.drew ?_) | (with_reducible refine below_drewN ?_ _) | (with_reducible refine Below.setCell ?_ ?_ _) | (simp only [World.size_alloc, World.size_setCell, World.size_drew, size_drewN]; omega) | omega))))).mono ?_
        rintro e w2 ⟨rfl, hb2⟩
        obtain ⟨hc, hf, hz, hs⟩ := bcell hb
        (try simp only [World.size_alloc, World.size_setCell, World.size_drew, size_drewN] at hs); (first | have l0 := Nat.lt_of_lt_of_le l0 (show _ ≤ w2.heap.size by omega) | have l0 : w.heap.size < w2.heap.size := (by omega) | skip); (try have l0e := Nat.le_of_lt l0); (try have l0f := Nat.le_add_right_of_le (k := 1) l0e); (try have l1 := Nat.lt_of_lt_of_le l1 (show _ ≤ w2.heap.size by omega)); (try have l1e := Nat.le_of_lt l1); (try have l1f := Nat.le_add_right_of_le (k := 1) l1e); (try have l2 := Nat.lt_of_lt_of_le l2 (show _ ≤ w2.heap.size by omega)); (try have l2e := Nat.le_of_lt l2); (try have l2f := Nat.le_add_right_of_le (k := 1) l2e); (try have l3 := Nat.lt_of_lt_of_le l3 (show _ ≤ w2.heap.size by omega)); (try have l3e := Nat.le_of_lt l3); (try have l3f := Nat.le_add_right_of_le (k := 1) l3e)
        go_wp2
        go_ret
        exact ⟨by rw [HK.out]; rfl, e1.tr (by (repeat' (first | (with_reducible exact Below.refl _ _) | (with_reducible refine Below.mono (by assumption) ?_) | (with_reducible refine Below.trans ?_ (Below.mono (by assumption) ?_)) | (with_reducible refine Below.alloc ?_ ?_ _) | (with_reducible refine Below.drew ?_) | (with_reducible refine below_drewN ?_ _) | (with_reducible refine Below.setCell ?_ ?_ _) | (simp only [World.size_alloc, World.size_setCell, World.size_drew, size_drewN]; omega) | omega)))⟩
      | true =>
        go_enter Tryz.func112, Tryz.ntmps112
        go_wp2_with (fail)
        go_at_call 50
        refine (C.out _ (hx.ext (by (repeat' (first | (with_reducible exact Below.refl _ _) | (with_reducible refine Below.mono (by assumption) ?_) | (with_reducible refine Below.trans ?_ (Below.mono (by assumption) ?_)) | (with_reducible refine Below.alloc ?_ ?_ _) | (with_reducible refine Below.drew ?_) | (with_reducible refine below_drewN ?_ _) | (with_reducible refine Below.setCell ?_ ?_ _) | (simp only [World.size_alloc, World.size_setCell, World.size_drew, size_drewN]; omega) | omega))))).mono ?_
        rintro e w1 ⟨rfl, hb⟩
        obtain ⟨hc, hf, hz, hs⟩ := bcell hb
        (try simp only [World.size_alloc, World.size_setCell, World.size_drew, size_drewN] at hs); (first | have l0 := Nat.lt_of_lt_of_le l0 (show _ ≤ w1.heap.size by omega) | have l0 : w.heap.size < w1.heap.size := (by omega) | skip); (try have l0e := Nat.le_of_lt l0); (try have l0f := Nat.le_add_right_of_le (k := 1) l0e); (try have l1 := Nat.lt_of_lt_of_le l1 (show _ ≤ w1.heap.size by omega)); (try have l1e := Nat.le_of_lt l1); (try have l1f := Nat.le_add_right_of_le (k := 1) l1e); (try have l2 := Nat.lt_of_lt_of_le l2 (show _ ≤ w1.heap.size by omega)); (try have l2e := Nat.le_of_lt l2); (try have l2f := Nat.le_add_right_of_le (k := 1) l2e); (try have l3 := Nat.lt_of_lt_of_le l3 (show _ ≤ w1.heap.size by omega)); (try have l3e := Nat.le_of_lt l3); (try have l3f := Nat.le_add_right_of_le (k := 1) l3e)
        obtain ⟨q0, q1, q2⟩ := box3 hb
        go_wp2_with (fail)
        go_at_call 79
        refine (reads_c _ _ _ _).mono ?_
        rintro e wr ⟨rfl, hbr⟩
        obtain ⟨hc, hf, hz, hs⟩ := bcell hb
        (try simp only [World.size_alloc, World.size_setCell, World.size_drew, size_drewN] at hs); (first | have l0 := Nat.lt_of_lt_of_le l0 (show _ ≤ wr.heap.size by omega) | have l0 : w.heap.size < wr.heap.size := (by omega) | skip); (try have l0e := Nat.le_of_lt l0); (try have l0f := Nat.le_add_right_of_le (k := 1) l0e); (try have l1 := Nat.lt_of_lt_of_le l1 (show _ ≤ wr.heap.size by omega)); (try have l1e := Nat.le_of_lt l1); (try have l1f := Nat.le_add_right_of_le (k := 1) l1e); (try have l2 := Nat.lt_of_lt_of_le l2 (show _ ≤ wr.heap.size by omega)); (try have l2e := Nat.le_of_lt l2); (try have l2f := Nat.le_add_right_of_le (k := 1) l2e); (try have l3 := Nat.lt_of_lt_of_le l3 (show _ ≤ wr.heap.size by omega)); (try have l3e := Nat.le_of_lt l3); (try have l3f := Nat.le_add_right_of_le (k := 1) l3e)
        have l0w : w.heap.size < w1.heap.size := by have := (show Ext (w.alloc (.cells #[.int .i64 a, .int .i64 b, .int .i64 v] 62)) w1 by (repeat' (first | (with_reducible exact Below.refl _ _) | (with_reducible refine Below.mono (by assumption) ?_) | (with_reducible refine Below.trans ?_ (Below.mono (by assumption) ?_)) | (with_reducible refine Below.alloc ?_ ?_ _) | (with_reducible refine Below.drew ?_) | (with_reducible refine below_drewN ?_ _) | (with_reducible refine Below.setCell ?_ ?_ _) | (simp only [World.size_alloc, World.size_setCell, World.size_drew, size_drewN]; omega) | omega))).size; simp only [World.size_alloc] at this; omega
        have q0 := hbr.keep l0w q0
        have q1 := hbr.keep l0w q1
        have q2 := hbr.keep l0w q2
        have e1 : Ext w wr := by (repeat' (first | (with_reducible exact Below.refl _ _) | (with_reducible refine Below.mono (by assumption) ?_) | (with_reducible refine Below.trans ?_ (Below.mono (by assumption) ?_)) | (with_reducible refine Below.alloc ?_ ?_ _) | (with_reducible refine Below.drew ?_) | (with_reducible refine below_drewN ?_ _) | (with_reducible refine Below.setCell ?_ ?_ _) | (simp only [World.size_alloc, World.size_setCell, World.size_drew, size_drewN]; omega) | omega))
        have f2 := e1.keep hb0 c2
        clear hc hf hz
        go_wp2_with (fail)
        go_at_call 137
        refine (CL.out _ (hx.ext (by (repeat' (first | (with_reducible exact Below.refl _ _) | (with_reducible refine Below.mono (by assumption) ?_) | (with_reducible refine Below.trans ?_ (Below.mono (by assumption) ?_)) | (with_reducible refine Below.alloc ?_ ?_ _) | (with_reducible refine Below.drew ?_) | (with_reducible refine below_drewN ?_ _) | (with_reducible refine Below.setCell ?_ ?_ _) | (simp only [World.size_alloc, World.size_setCell, World.size_drew, size_drewN]; omega) | omega))))).mono ?_
        rintro e w2 ⟨rfl, hb2⟩
        obtain ⟨hc, hf, hz, hs⟩ := bcell hb
        (try simp only [World.size_alloc, World.size_setCell, World.size_drew, size_drewN] at hs); (first | have l0 := Nat.lt_of_lt_of_le l0 (show _ ≤ w2.heap.size by omega) | have l0 : w.heap.size < w2.heap.size := (by omega) | skip); (try have l0e := Nat.le_of_lt l0); (try have l0f := Nat.le_add_right_of_le (k := 1) l0e); (try have l1 := Nat.lt_of_lt_of_le l1 (show _ ≤ w2.heap.size by omega)); (try have l1e := Nat.le_of_lt l1); (try have l1f := Nat.le_add_right_of_le (k := 1) l1e); (try have l2 := Nat.lt_of_lt_of_le l2 (show _ ≤ w2.heap.size by omega)); (try have l2e := Nat.le_of_lt l2); (try have l2f := Nat.le_add_right_of_le (k := 1) l2e); (try have l3 := Nat.lt_of_lt_of_le l3 (show _ ≤ w2.heap.size by omega)); (try have l3e := Nat.le_of_lt l3); (try have l3f := Nat.le_add_right_of_le (k := 1) l3e)
        go_wp2
        go_ret
        exact ⟨by rw [HK.out]; rfl, e1.tr (by (repeat' (first | (with_reducible exact Below.refl _ _) | (with_reducible refine Below.mono (by assumption) ?_) | (with_reducible refine Below.trans ?_ (Below.mono (by assumption) ?_)) | (with_reducible refine Below.alloc ?_ ?_ _) | (with_reducible refine Below.drew ?_) | (with_reducible refine below_drewN ?_ _) | (with_reducible refine Below.setCell ?_ ?_ _) | (simp only [World.size_alloc, World.size_setCell, World.size_drew, size_drewN]; omega) | omega)))⟩
end Go.Proofs.YtmbdacfgmiielaaGreat
namespace Go.Proofs.YtmbdacfgmiielaaGreat
set_option linter.unusedSimpArgs false
set_option linter.unusedVariables false
set_option maxRecDepth 100000
open Go.RowKit

theorem Pls.off {lo hi : Nat} {w w' : World} {A : Option Addr} {xs : List T2} {v : Value} (h : Pls (fun b => lo ≤ b ∧ b < hi) w A xs) (hg : w.grownBy w' v.ownBlock) (ho : Off v lo hi) : Pls (fun b => lo ≤ b ∧ b < hi) w' A xs :=
  Pls.grown h hg (fun b hb _ he => by have := ho b he.symm; omega)
theorem Pls.within_hi {lo : Nat} {w : World} {A : Option Addr} {xs : List T2} (h : Pls (fun b => lo ≤ b) w A xs) : Pls (fun b => lo ≤ b ∧ b < w.heap.size) w A xs := SlAt.mono h (fun b hb hl => ⟨hb, hl⟩) (fun _ _ h => h)
theorem own2_lt {w : World} {base : Nat} {e : TypeId} {v : Value} {xs : List T2} (h : Own2 w base e v xs) : ∀ g, v.ownBlock = some g → g < w.heap.size := fun g hg => (World.ownsRow.lt h g hg).2
theorem filter_take {α : Type} {p : α → Bool} {l : List α} {j : Nat} {x : α} (h : l[j]? = some x) : (l.take (j + 1)).filter p = if p x = true then (l.take j).filter p ++ [x] else (l.take j).filter p := by
  rw [List.take_add_one, h, List.filter_append]
  simp only [Option.toList, List.filter_cons, List.filter_nil]
  split <;> simp
set_option maxHeartbeats 2000000 in
theorem specBadReads_own (h : List TxnT) (S : Nat → Prop) (A : Option Addr) (c : Nat) (w : World) (hx : Txns S w A h) (hsm : Small h) (hv : histv h = true) :
    Calls Tryz.prog 68 #[.slice A h.length c, .int .i64 4] w (FreshP (bdH h 4 h.length) w) := by
  have C := fun w hx => specHistoryValid_c h S A c w hx hsm
  have CO := fun w hx => specOwnErrors_c h S A c w hx hsm
  rw [hv] at C
  rw [if_pos hv] at CO
  have hwho := fun p => oeH_who (h := h) (k := h.length) (p := p)
  have hfil := oeH_done h h.length
  have hsz := oeH_small hsm
  generalize oeH h h.length = L at CO hwho hfil hsz
  have C := Lib.hid C
  have CO := Lib.hid CO
  have HW := Lib.hid hwho
  have HF := Lib.hid hfil
  clear hwho hfil hv
  go_enter Tryz.func68, Tryz.ntmps68
  go_wp2_with (fail)
  have hO : Own2 (w.alloc (.cells #[] 114)) w.heap.size 114 (.slice (some ⟨w.heap.size, 0, none⟩) 0 0) ((L.take 0).filter (doneAt h)) := Own2.made w _ 0 rfl (by omega) (by omega) (by simp)
  go_wp2_with (fail)
  go_at_call 18
  refine (C.out _ (hx.ext (by (repeat' (first | (with_reducible exact Below.refl _ _) | (with_reducible refine Below.mono (by assumption) ?_) | (with_reducible refine Below.trans ?_ (Below.mono (by assumption) ?_)) | (with_reducible refine Below.alloc ?_ ?_ _) | (with_reducible refine Below.drew ?_) | (with_reducible refine below_drewN ?_ _) | (with_reducible refine Below.setCell ?_ ?_ _) | (simp only [World.size_alloc, World.size_setCell, World.size_drew, size_drewN]; omega) | omega))))).mono ?_
  rintro e w1 ⟨rfl, hb⟩
  obtain ⟨hc, hf, hz, hs⟩ := bcell hb
  (try simp only [World.size_alloc, World.size_setCell, World.size_drew, size_drewN] at hs); (first | have l0 := Nat.lt_of_lt_of_le l0 (show _ ≤ w1.heap.size by omega) | have l0 : w.heap.size < w1.heap.size := (by omega) | skip); (try have l0e := Nat.le_of_lt l0); (try have l0f := Nat.le_add_right_of_le (k := 1) l0e); (try have l1 := Nat.lt_of_lt_of_le l1 (show _ ≤ w1.heap.size by omega)); (try have l1e := Nat.le_of_lt l1); (try have l1f := Nat.le_add_right_of_le (k := 1) l1e); (try have l2 := Nat.lt_of_lt_of_le l2 (show _ ≤ w1.heap.size by omega)); (try have l2e := Nat.le_of_lt l2); (try have l2f := Nat.le_add_right_of_le (k := 1) l2e); (try have l3 := Nat.lt_of_lt_of_le l3 (show _ ≤ w1.heap.size by omega)); (try have l3e := Nat.le_of_lt l3); (try have l3f := Nat.le_add_right_of_le (k := 1) l3e)
  have e1 : Ext (w.alloc (.cells #[] 114)) w1 := by (repeat' (first | (with_reducible exact Below.refl _ _) | (with_reducible refine Below.mono (by assumption) ?_) | (with_reducible refine Below.trans ?_ (Below.mono (by assumption) ?_)) | (with_reducible refine Below.alloc ?_ ?_ _) | (with_reducible refine Below.drew ?_) | (with_reducible refine below_drewN ?_ _) | (with_reducible refine Below.setCell ?_ ?_ _) | (simp only [World.size_alloc, World.size_setCell, World.size_drew, size_drewN]; omega) | omega))
  have e10 : Ext w w1 := by (repeat' (first | (with_reducible exact Below.refl _ _) | (with_reducible refine Below.mono (by assumption) ?_) | (with_reducible refine Below.trans ?_ (Below.mono (by assumption) ?_)) | (with_reducible refine Below.alloc ?_ ?_ _) | (with_reducible refine Below.drew ?_) | (with_reducible refine below_drewN ?_ _) | (with_reducible refine Below.setCell ?_ ?_ _) | (simp only [World.size_alloc, World.size_setCell, World.size_drew, size_drewN]; omega) | omega))
  have hO1 := hO.ext e1
  clear hc hf hz hb hO
  go_wp2_with (fail)
  refine (l1In_c 4 1 4 _).mono ?_
  rintro e w' ⟨rfl, rfl⟩
  go_wp2_with (fail)
  go_at_call 93
  refine (CO.out _ (hx.ext e10)).mono ?_
  rintro e w3 ⟨A3, c3, rfl, hL, hf3, hb⟩
  obtain ⟨hc, hf, hz, hs⟩ := bcell hb
  (try simp only [World.size_alloc, World.size_setCell, World.size_drew, size_drewN] at hs); (first | have l0 := Nat.lt_of_lt_of_le l0 (show _ ≤ w3.heap.size by omega) | have l0 : w.heap.size < w3.heap.size := (by omega) | skip); (try have l0e := Nat.le_of_lt l0); (try have l0f := Nat.le_add_right_of_le (k := 1) l0e); (try have l1 := Nat.lt_of_lt_of_le l1 (show _ ≤ w3.heap.size by omega)); (try have l1e := Nat.le_of_lt l1); (try have l1f := Nat.le_add_right_of_le (k := 1) l1e); (try have l2 := Nat.lt_of_lt_of_le l2 (show _ ≤ w3.heap.size by omega)); (try have l2e := Nat.le_of_lt l2); (try have l2f := Nat.le_add_right_of_le (k := 1) l2e); (try have l3 := Nat.lt_of_lt_of_le l3 (show _ ≤ w3.heap.size by omega)); (try have l3e := Nat.le_of_lt l3); (try have l3f := Nat.le_add_right_of_le (k := 1) l3e)
  have e3 := e10.tr hb
  have hO3 := hO1.ext hb
  have hL3 := hL.within_hi
  have hoff : Off (.slice (some ⟨w.heap.size, 0, none⟩) 0 0) w1.heap.size w3.heap.size := Off.of_lt (own2_lt hO1)
  clear hc hf hz hb hL hf3 hO1
  go_wp2
  go_loopw [5, 7] (fun v i wr => ∃ j : Nat, j ≤ L.length ∧ i = .int .i64 j ∧ Own2 wr w.heap.size 114 v ((L.take j).filter (doneAt h)) ∧ Ext w wr ∧ Pls (fun b => w1.heap.size ≤ b ∧ b < w3.heap.size) wr A3 L ∧ Off v w1.heap.size w3.heap.size ∧ w3.heap.size ≤ wr.heap.size) (fun _ i _ => L.length - (intOf i).toNat)
  case atStart => exact ⟨0, Nat.zero_le _, rfl, hO3, e3, hL3, hoff, Nat.le_refl _⟩
  case round =>
    obtain ⟨j, hj, rfl, hown, hE, hL4, hoff4, hz4⟩ := hrel
    have hzE := hE.size
    clear hO3 hL3 hoff
    by_cases hlt : j < L.length
    · obtain ⟨x0, x1, b2, off2, hyk, rfl, _, hb2, d0, d1⟩ := hL4.at_ hlt
      obtain ⟨m, t, hm, hmk, hmt⟩ := HW.out _ (List.mem_of_getElem? hyk)
      simp only at hm
      subst hm
      obtain ⟨s, ops, d, A', cap, b, off, hxm, rfl, _, hb0, hOp, c0, c1, c2⟩ := (hx.ext hE).at_ hmk
      rw [hmt] at hxm
      cases hxm
      have hft := filter_take (p := doneAt h) hyk
      have hda : doneAt h ⟨m, x1⟩ = d := by unfold doneAt; simp [hmt]
      rw [hda] at hft
      have hfl : ((L.take j).filter (doneAt h)).length ≤ 1048576 := by
        have := List.length_filter_le (doneAt h) (L.take j)
        rw [List.length_take] at this
        omega
      have HT := Lib.hid hft
      clear hda hft hmt hyk hOp
      cases d with
      | false =>
        have ht := HT.out
        simp only [Bool.false_eq_true, if_false] at ht
        go_wp2
        exact ⟨⟨j + 1, by omega, by go_num, by rw [ht]; exact hown, hE, hL4, hoff4, hz4⟩, by simp [intOf]; omega⟩
      | true =>
        go_wp2_with (at_builtin; refine wpList_append2_at _ rfl _ _ 87 rfl w.heap.size 114 Tryz.underlying87 info2 rfl _ ((L.take j).filter (doneAt h)) rfl (hown.ext (by (repeat' (first | (with_reducible exact Below.refl _ _) | (with_reducible refine Below.mono (by assumption) ?_) | (with_reducible refine Below.trans ?_ (Below.mono (by assumption) ?_)) | (with_reducible refine Below.alloc ?_ ?_ _) | (with_reducible refine Below.drew ?_) | (with_reducible refine below_drewN ?_ _) | (with_reducible refine Below.setCell ?_ ?_ _) | (simp only [World.size_alloc, World.size_setCell, World.size_drew, size_drewN]; omega) | omega)))) _ m x1 rfl ?_ ?_ ?_ ?_ ?_)
        all_goals try omega
        all_goals try (simp only [World.size_alloc]; omega)
        · intro v' w' hown' hgrow hat
          have ht := HT.out
          simp only [if_true] at ht
          rw [← ht] at hown'
          have hEb : Ext wr (wr.alloc (.cells #[.int .i64 m, .int .i64 x1] 114)) := by (repeat' (first | (with_reducible exact Below.refl _ _) | (with_reducible refine Below.mono (by assumption) ?_) | (with_reducible refine Below.trans ?_ (Below.mono (by assumption) ?_)) | (with_reducible refine Below.alloc ?_ ?_ _) | (with_reducible refine Below.drew ?_) | (with_reducible refine below_drewN ?_ _) | (with_reducible refine Below.setCell ?_ ?_ _) | (simp only [World.size_alloc, World.size_setCell, World.size_drew, size_drewN]; omega) | omega))
          have hE5 : Ext w w' := Below.grown (hE.tr hEb) hgrow (hE.tr hEb).size (fun g hg => own2_block hown g hg)
          have hL5 := Pls.off (hL4.ext hEb) hgrow hoff4
          have hoff5 := hoff4.step hat (by first | omega | (simp only [World.size_alloc]; omega))
          have hz6 := hgrow.size
          simp only [World.size_alloc] at hz6
          clear ht hown hL4 hgrow hat
          go_wp2
          go_roundw
          case measure => simp [intOf]; omega
          case rel => exact ⟨j + 1, by omega, by go_num, hown', hE5, hL5, hoff5, by omega⟩
    · obtain rfl : j = L.length := by omega
      rw [List.take_length, HF.out] at hown
      have hfr := hown.fresh (Nat.le_refl _) hE
      go_wp2
      go_ret
      exact hfr

set_option maxHeartbeats 4000000 in
theorem specBadReads_kind (h : List TxnT) (S : Nat → Prop) (A : Option Addr) (c : Nat) (kind : Int) (w : World) (hx : Txns S w A h) (hsm : Small h) (hv : histv h = true) (hkb : inB kind 1 4 = true) (hk4 : kind ≠ 4) :
    Calls Tryz.prog 68 #[.slice A h.length c, .int .i64 kind] w (FreshP (bdH h kind h.length) w) := by
  have C := fun w hx => specHistoryValid_c h S A c w hx hsm
  have CK := fun w => l1In_c kind 1 4 w
  have C6 := fun n o w hx => l6Kind_c h S A c n o w hx hsm hv
  have hn := hsm.len
  rw [hv] at C
  rw [hkb] at CK
  have b4 : (kind == 4) = false := by simpa using hk4
  have C := Lib.hid C
  have CK := Lib.hid CK
  have C6 := Lib.hid C6
  have HK4 := Lib.hid hk4
  clear hv hkb hk4
  go_enter Tryz.func68, Tryz.ntmps68
  go_wp2_with (fail)
  have hO : Own2 (w.alloc (.cells #[] 114)) w.heap.size 114 (.slice (some ⟨w.heap.size, 0, none⟩) 0 0) (bdH h kind 0) := Own2.made w _ 0 rfl (by omega) (by omega) (by simp)
  go_wp2_with (fail)
  go_at_call 18
  refine (C.out _ (hx.ext (by (repeat' (first | (with_reducible exact Below.refl _ _) | (with_reducible refine Below.mono (by assumption) ?_) | (with_reducible refine Below.trans ?_ (Below.mono (by assumption) ?_)) | (with_reducible refine Below.alloc ?_ ?_ _) | (with_reducible refine Below.drew ?_) | (with_reducible refine below_drewN ?_ _) | (with_reducible refine Below.setCell ?_ ?_ _) | (simp only [World.size_alloc, World.size_setCell, World.size_drew, size_drewN]; omega) | omega))))).mono ?_
  rintro e w1 ⟨rfl, hb⟩
  obtain ⟨hc, hf, hz, hs⟩ := bcell hb
  (try simp only [World.size_alloc, World.size_setCell, World.size_drew, size_drewN] at hs); (first | have l0 := Nat.lt_of_lt_of_le l0 (show _ ≤ w1.heap.size by omega) | have l0 : w.heap.size < w1.heap.size := (by omega) | skip); (try have l0e := Nat.le_of_lt l0); (try have l0f := Nat.le_add_right_of_le (k := 1) l0e); (try have l1 := Nat.lt_of_lt_of_le l1 (show _ ≤ w1.heap.size by omega)); (try have l1e := Nat.le_of_lt l1); (try have l1f := Nat.le_add_right_of_le (k := 1) l1e); (try have l2 := Nat.lt_of_lt_of_le l2 (show _ ≤ w1.heap.size by omega)); (try have l2e := Nat.le_of_lt l2); (try have l2f := Nat.le_add_right_of_le (k := 1) l2e); (try have l3 := Nat.lt_of_lt_of_le l3 (show _ ≤ w1.heap.size by omega)); (try have l3e := Nat.le_of_lt l3); (try have l3f := Nat.le_add_right_of_le (k := 1) l3e)
  have e1 : Ext (w.alloc (.cells #[] 114)) w1 := by (repeat' (first | (with_reducible exact Below.refl _ _) | (with_reducible refine Below.mono (by assumption) ?_) | (with_reducible refine Below.trans ?_ (Below.mono (by assumption) ?_)) | (with_reducible refine Below.alloc ?_ ?_ _) | (with_reducible refine Below.drew ?_) | (with_reducible refine below_drewN ?_ _) | (with_reducible refine Below.setCell ?_ ?_ _) | (simp only [World.size_alloc, World.size_setCell, World.size_drew, size_drewN]; omega) | omega))
  have e10 : Ext w w1 := by (repeat' (first | (with_reducible exact Below.refl _ _) | (with_reducible refine Below.mono (by assumption) ?_) | (with_reducible refine Below.trans ?_ (Below.mono (by assumption) ?_)) | (with_reducible refine Below.alloc ?_ ?_ _) | (with_reducible refine Below.drew ?_) | (with_reducible refine below_drewN ?_ _) | (with_reducible refine Below.setCell ?_ ?_ _) | (simp only [World.size_alloc, World.size_setCell, World.size_drew, size_drewN]; omega) | omega))
  have hO1 := hO.ext e1
  clear hc hf hz hb hO
  go_wp2_with (fail)
  refine (CK.out _).mono ?_
  rintro e w' ⟨rfl, rfl⟩
  go_wp2
  go_loopw [5, 8] (fun v i wr => ∃ k : Nat, k ≤ h.length ∧ i = .int .i64 k ∧ Own2 wr w.heap.size 114 v (bdH h kind k) ∧ Ext w wr) (fun _ i _ => h.length - (intOf i).toNat)
  case atStart => exact ⟨0, Nat.zero_le _, rfl, hO1, e10⟩
  case round =>
    obtain ⟨k, hk, rfl, hown, hE⟩ := hrel
    have hEz := hE.size
    clear hO1
    by_cases hlt : k < h.length
    · obtain ⟨s, ops, d, A', cap, b, off, hxk, rfl, _, hb0, hOp, c0, c1, c2⟩ := hx.at_ hlt
      have hon := hsm.ops hxk
      simp only at hon
      have hst := bdH_succ (kind := kind) hxk
      have hht := bdH_len h kind k
      have htt := total_take h k _ hxk
      have htl := total_le h (k + 1)
      simp only at hst htt
      have hsm' := hsm
      unfold Small at hsm'
      have hbt : bdT h kind k ops = brT h kind k ops ops.length := if_neg HK4.out
      rw [hbt] at hst
      have HS := Lib.hid hst
      clear hxk hst hbt
      go_wp2
      go_loopw [5, 9] (fun v i wr => ∃ j : Nat, j ≤ ops.length ∧ i = .int .i64 j ∧ Own2 wr w.heap.size 114 v (if d = true then bdH h kind k ++ brT h kind k ops j else bdH h kind k) ∧ Ext w wr) (fun _ i _ => ops.length - (intOf i).toNat)
      case atStart => exact ⟨0, Nat.zero_le _, rfl, by cases d <;> simpa [brT] using hown, hE⟩
      case round =>
        obtain ⟨j, hj, rfl, hown2, hE2⟩ := hrel
        have g0 := hE2.keep hb0 c0
        have g1 := hE2.keep hb0 c1
        have g2 := hE2.keep hb0 c2
        have hz2 := hE2.size
        by_cases hlt2 : j < ops.length
        · cases d with
          | false =>
            go_wp2
            exact ⟨⟨j + 1, by omega, by go_num, hown2, hE2⟩, by simp [intOf]; omega⟩
          | true =>
            simp only [if_true] at hown2
            obtain ⟨x0, x1, x2, b2, off2, hyk, rfl, _, hb2, d0, d1, d2⟩ := hOp.at_ hlt2
            have q0 := hE2.keep hb2 d0
            have q1 := hE2.keep hb2 d1
            have q2 := hE2.keep hb2 d2
            have l0 : b < wr.heap.size := by omega
            have l2 : b2 < wr.heap.size := by omega
            have HY := Lib.hid hyk
            have hjl := brT_len h kind k ops j
            clear hyk
            go_wp2_with (fail)
            go_at_call 94
            refine (C6.out k ⟨x0, x1, x2⟩ _ (hx.ext hE2)).mono ?_
            rintro e w3 ⟨rfl, hb⟩
            obtain ⟨hc, hf, hz, hs⟩ := bcell hb
            (try simp only [World.size_alloc, World.size_setCell, World.size_drew, size_drewN] at hs); (first | have l0 := Nat.lt_of_lt_of_le l0 (show _ ≤ w3.heap.size by omega) | have l0 : w.heap.size < w3.heap.size := (by omega) | skip); (try have l0e := Nat.le_of_lt l0); (try have l0f := Nat.le_add_right_of_le (k := 1) l0e); (try have l1 := Nat.lt_of_lt_of_le l1 (show _ ≤ w3.heap.size by omega)); (try have l1e := Nat.le_of_lt l1); (try have l1f := Nat.le_add_right_of_le (k := 1) l1e); (try have l2 := Nat.lt_of_lt_of_le l2 (show _ ≤ w3.heap.size by omega)); (try have l2e := Nat.le_of_lt l2); (try have l2f := Nat.le_add_right_of_le (k := 1) l2e); (try have l3 := Nat.lt_of_lt_of_le l3 (show _ ≤ w3.heap.size by omega)); (try have l3e := Nat.le_of_lt l3); (try have l3f := Nat.le_add_right_of_le (k := 1) l3e)
            have e3 := hE2.tr hb
            have hown3 := hown2.ext hb
            by_cases hke : k6 h k ⟨x0, x1, x2⟩ = kind
            · have hbe : (k6 h k ⟨x0, x1, x2⟩ == kind) = true := by simpa using hke
              have hap := brT_hit HY.out hke
              have HA := Lib.hid hap
              clear hc hf hz hap hke hown2
              generalize k6 h k ⟨x0, x1, x2⟩ = K6 at hbe
              go_wp2_with (at_builtin; refine wpList_append2 _ rfl _ _ 87 rfl w.heap.size 114 Tryz.underlying87 info2 rfl _ (bdH h kind k ++ brT h kind k ops j) rfl (hown3.ext (by (repeat' (first | (with_reducible exact Below.refl _ _) | (with_reducible refine Below.mono (by assumption) ?_) | (with_reducible refine Below.trans ?_ (Below.mono (by assumption) ?_)) | (with_reducible refine Below.alloc ?_ ?_ _) | (with_reducible refine Below.drew ?_) | (with_reducible refine below_drewN ?_ _) | (with_reducible refine Below.setCell ?_ ?_ _) | (simp only [World.size_alloc, World.size_setCell, World.size_drew, size_drewN]; omega) | omega)))) _ k j rfl ?_ ?_ ?_ ?_ ?_)
              · simp
              · simp
              · rw [List.length_append]; omega
              · simp only [World.size_alloc]; omega
              · intro v' w' hown' hgrow
                try rw [List.append_assoc] at hown'
                rw [← HA.out] at hown'
                have hEb : Ext w3 (w3.alloc (.cells #[.int .i64 k, .int .i64 j] 114)) := by (repeat' (first | (with_reducible exact Below.refl _ _) | (with_reducible refine Below.mono (by assumption) ?_) | (with_reducible refine Below.trans ?_ (Below.mono (by assumption) ?_)) | (with_reducible refine Below.alloc ?_ ?_ _) | (with_reducible refine Below.drew ?_) | (with_reducible refine below_drewN ?_ _) | (with_reducible refine Below.setCell ?_ ?_ _) | (simp only [World.size_alloc, World.size_setCell, World.size_drew, size_drewN]; omega) | omega))
                have hE5 : Ext w w' := Below.grown (e3.tr hEb) hgrow (e3.tr hEb).size (fun g hg => own2_block hown3 g hg)
                clear hown3 hgrow
                go_wp2
                go_roundw
                case measure => simp [intOf]; omega
                case rel => exact ⟨j + 1, by omega, by go_num, hown', hE5⟩
            · have hbe : (k6 h k ⟨x0, x1, x2⟩ == kind) = false := by simpa using hke
              have hap := brT_miss HY.out hke
              have HA := Lib.hid hap
              clear hc hf hz hap hke hown2
              generalize k6 h k ⟨x0, x1, x2⟩ = K6 at hbe
              go_wp2
              exact ⟨⟨j + 1, by omega, by go_num, by rw [HA.out]; exact hown3, e3⟩, by simp [intOf]; omega⟩
        · obtain rfl : j = ops.length := by omega
          have hh := HS.out
          rw [← hh] at hown2
          go_wp2
          exact ⟨⟨k + 1, by omega, by go_num, hown2, hE2⟩, by simp [intOf]; omega⟩
    · obtain rfl : k = h.length := by omega
      have hfr := hown.fresh (Nat.le_refl _) hE
      go_wp2
      go_ret
      exact hfr

theorem specBadReads_bad (h : List TxnT) (S : Nat → Prop) (A : Option Addr) (c : Nat) (kind : Int) (w : World) (hx : Txns S w A h) (hsm : Small h) (hv : ¬ (histv h = true ∧ inB kind 1 4 = true)) :
    Calls Tryz.prog 68 #[.slice A h.length c, .int .i64 kind] w (FreshP [] w) := by
  have C := fun w hx => specHistoryValid_c h S A c w hx hsm
  have CK := fun w => l1In_c kind 1 4 w
  have hO : Own2 (w.alloc (.cells #[] 114)) w.heap.size 114 (.slice (some ⟨w.heap.size, 0, none⟩) 0 0) [] := Own2.made w _ 0 rfl (by omega) (by omega) (by simp)
  cases hh : histv h with
  | false =>
    rw [hh] at C
    clear hh hv CK
    have C := Lib.hid C
    go_enter Tryz.func68, Tryz.ntmps68
    go_wp2_with (fail)
    go_wp2_with (fail)
    go_at_call 18
    refine (C.out _ (hx.ext (by (repeat' (first | (with_reducible exact Below.refl _ _) | (with_reducible refine Below.mono (by assumption) ?_) | (with_reducible refine Below.trans ?_ (Below.mono (by assumption) ?_)) | (with_reducible refine Below.alloc ?_ ?_ _) | (with_reducible refine Below.drew ?_) | (with_reducible refine below_drewN ?_ _) | (with_reducible refine Below.setCell ?_ ?_ _) | (simp only [World.size_alloc, World.size_setCell, World.size_drew, size_drewN]; omega) | omega))))).mono ?_
    rintro e w1 ⟨rfl, hb⟩
    obtain ⟨hc, hf, hz, hs⟩ := bcell hb
    (try simp only [World.size_alloc, World.size_setCell, World.size_drew, size_drewN] at hs); (first | have l0 := Nat.lt_of_lt_of_le l0 (show _ ≤ w1.heap.size by omega) | have l0 : w.heap.size < w1.heap.size := (by omega) | skip); (try have l0e := Nat.le_of_lt l0); (try have l0f := Nat.le_add_right_of_le (k := 1) l0e); (try have l1 := Nat.lt_of_lt_of_le l1 (show _ ≤ w1.heap.size by omega)); (try have l1e := Nat.le_of_lt l1); (try have l1f := Nat.le_add_right_of_le (k := 1) l1e); (try have l2 := Nat.lt_of_lt_of_le l2 (show _ ≤ w1.heap.size by omega)); (try have l2e := Nat.le_of_lt l2); (try have l2f := Nat.le_add_right_of_le (k := 1) l2e); (try have l3 := Nat.lt_of_lt_of_le l3 (show _ ≤ w1.heap.size by omega)); (try have l3e := Nat.le_of_lt l3); (try have l3f := Nat.le_add_right_of_le (k := 1) l3e)
    go_wp2
    go_ret
    exact (hO.ext (by (repeat' (first | (with_reducible exact Below.refl _ _) | (with_reducible refine Below.mono (by assumption) ?_) | (with_reducible refine Below.trans ?_ (Below.mono (by assumption) ?_)) | (with_reducible refine Below.alloc ?_ ?_ _) | (with_reducible refine Below.drew ?_) | (with_reducible refine below_drewN ?_ _) | (with_reducible refine Below.setCell ?_ ?_ _) | (simp only [World.size_alloc, World.size_setCell, World.size_drew, size_drewN]; omega) | omega)))).fresh (Nat.le_refl _) (by (repeat' (first | (with_reducible exact Below.refl _ _) | (with_reducible refine Below.mono (by assumption) ?_) | (with_reducible refine Below.trans ?_ (Below.mono (by assumption) ?_)) | (with_reducible refine Below.alloc ?_ ?_ _) | (with_reducible refine Below.drew ?_) | (with_reducible refine below_drewN ?_ _) | (with_reducible refine Below.setCell ?_ ?_ _) | (simp only [World.size_alloc, World.size_setCell, World.size_drew, size_drewN]; omega) | omega)))
  | true =>
    have hk : inB kind 1 4 = false := by
      cases hk : inB kind 1 4 with
      | false => rfl
      | true => exact absurd ⟨hh, hk⟩ hv
    rw [hh] at C
    rw [hk] at CK
    clear hh hv hk
    have C := Lib.hid C
    have CK := Lib.hid CK
    go_enter Tryz.func68, Tryz.ntmps68
    go_wp2_with (fail)
    go_wp2_with (fail)
    go_at_call 18
    refine (C.out _ (hx.ext (by (repeat' (first | (with_reducible exact Below.refl _ _) | (with_reducible refine Below.mono (by assumption) ?_) | (with_reducible refine Below.trans ?_ (Below.mono (by assumption) ?_)) | (with_reducible refine Below.alloc ?_ ?_ _) | (with_reducible refine Below.drew ?_) | (with_reducible refine below_drewN ?_ _) | (with_reducible refine Below.setCell ?_ ?_ _) | (simp only [World.size_alloc, World.size_setCell, World.size_drew, size_drewN]; omega) | omega))))).mono ?_
    rintro e w1 ⟨rfl, hb⟩
    obtain ⟨hc, hf, hz, hs⟩ := bcell hb
    (try simp only [World.size_alloc, World.size_setCell, World.size_drew, size_drewN] at hs); (first | have l0 := Nat.lt_of_lt_of_le l0 (show _ ≤ w1.heap.size by omega) | have l0 : w.heap.size < w1.heap.size := (by omega) | skip); (try have l0e := Nat.le_of_lt l0); (try have l0f := Nat.le_add_right_of_le (k := 1) l0e); (try have l1 := Nat.lt_of_lt_of_le l1 (show _ ≤ w1.heap.size by omega)); (try have l1e := Nat.le_of_lt l1); (try have l1f := Nat.le_add_right_of_le (k := 1) l1e); (try have l2 := Nat.lt_of_lt_of_le l2 (show _ ≤ w1.heap.size by omega)); (try have l2e := Nat.le_of_lt l2); (try have l2f := Nat.le_add_right_of_le (k := 1) l2e); (try have l3 := Nat.lt_of_lt_of_le l3 (show _ ≤ w1.heap.size by omega)); (try have l3e := Nat.le_of_lt l3); (try have l3f := Nat.le_add_right_of_le (k := 1) l3e)
    go_wp2_with (fail)
    refine (CK.out _).mono ?_
    rintro e w' ⟨rfl, rfl⟩
    go_wp2
    go_ret
    exact (hO.ext (by (repeat' (first | (with_reducible exact Below.refl _ _) | (with_reducible refine Below.mono (by assumption) ?_) | (with_reducible refine Below.trans ?_ (Below.mono (by assumption) ?_)) | (with_reducible refine Below.alloc ?_ ?_ _) | (with_reducible refine Below.drew ?_) | (with_reducible refine below_drewN ?_ _) | (with_reducible refine Below.setCell ?_ ?_ _) | (simp only [World.size_alloc, World.size_setCell, World.size_drew, size_drewN]; omega) | omega)))).fresh (Nat.le_refl _) (by (repeat' (first | (with_reducible exact Below.refl _ _) | (with_reducible refine Below.mono (by assumption) ?_) | (with_reducible refine Below.trans ?_ (Below.mono (by assumption) ?_)) | (with_reducible refine Below.alloc ?_ ?_ _) | (with_reducible refine Below.drew ?_) | (with_reducible refine below_drewN ?_ _) | (with_reducible refine Below.setCell ?_ ?_ _) | (simp only [World.size_alloc, World.size_setCell, World.size_drew, size_drewN]; omega) | omega)))
theorem specBadReads_c (h : List TxnT) (S : Nat → Prop) (A : Option Addr) (c : Nat) (kind : Int) (w : World) (hx : Txns S w A h) (hsm : Small h) :
    Calls Tryz.prog 68 #[.slice A h.length c, .int .i64 kind] w (FreshP (bads h kind) w) := by
  unfold bads
  by_cases hc : histv h = true ∧ inB kind 1 4 = true
  · rw [if_pos hc]
    by_cases hk : kind = 4
    · subst hk; exact specBadReads_own h S A c w hx hsm hc.1
    · exact specBadReads_kind h S A c kind w hx hsm hc.1 hc.2 hk
  · rw [if_neg hc]; exact specBadReads_bad h S A c kind w hx hsm hc
end Go.Proofs.YtmbdacfgmiielaaGreat
