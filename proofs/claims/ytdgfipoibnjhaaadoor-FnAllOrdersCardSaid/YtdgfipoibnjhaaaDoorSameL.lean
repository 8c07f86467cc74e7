/-
  Contracts of the laws' comparisons of numbers and of lists of numbers, alike or not.
-/
import Derived.Test.YtdgfipoibnjhaaaDoorGInts9
import Derived.StillTailTactics
import Derived.Deep.QuietTactic
import Derived.BigQuiet
namespace Go.Proofs.YtdgfipoibnjhaaaDoor
set_option linter.unusedSimpArgs false
set_option linter.unusedVariables false
set_option maxRecDepth 100000
open Go.RowKit

theorem dec_not {α : Type} [DecidableEq α] {xs ys : List α} {k : Nat} {x y : α} (hx : xs[k]? = some x) (hy : ys[k]? = some y) (hne : x ≠ y) : decide (xs = ys) = false := by
  refine decide_eq_false (fun e => ?_)
  subst e
  rw [hx] at hy
  exact hne (Option.some.inj hy)
theorem dec_all {α : Type} [DecidableEq α] {xs ys : List α} (hl : xs.length = ys.length) (h : ∀ (j : Nat) x y, j < xs.length → xs[j]? = some x → ys[j]? = some y → x = y) : decide (xs = ys) = true := by
  refine decide_eq_true (List.ext_getElem hl (fun j h1 h2 => ?_))
  exact h j _ _ h1 (List.getElem?_eq_getElem h1) (List.getElem?_eq_getElem h2)
theorem dec_len {α : Type} [DecidableEq α] {xs ys : List α} (hl : xs.length ≠ ys.length) : decide (xs = ys) = false := decide_eq_false (fun e => hl (by rw [e]))
set_option maxHeartbeats 2000000 in
theorem sameIntsN_c (n : Nat) (xs ys : List Int) (hxn : Hid (xs.length = n)) (hyn : Hid (ys.length = n)) (S S' : Nat → Prop) (A B : Option Addr) (c d : Nat) (w : World) (hx : Ints S w A xs) (hy : Ints S' w B ys) (hn : n ≤ 1048576) :
    Calls Tryd.prog 55 #[.slice A n c, .slice B n d] w fun e w' => e = .returned (.bool (decide (xs = ys))) ∧ Ext w w' := by
  have e1 : ((n : Int) != (n : Int)) = false := by simp
  have HX := Lib.hid hx
  have HY := Lib.hid hy
  clear hx hy
  go_enter Tryd.func55, Tryd.ntmps55
  go_wp2
  go_loopw [5] (fun i wr => ∃ k : Nat, k ≤ n ∧ i = .int .i64 k ∧ (∀ (j : Nat) x y, j < k → xs[j]? = some x → ys[j]? = some y → x = y) ∧ Ext w wr) (fun i _ => n - (intOf i).toNat)
  case atStart => exact ⟨0, Nat.zero_le _, rfl, fun j x y h => by omega, Below.refl _ _⟩
  case round =>
    obtain ⟨k, hk, rfl, hP, hE⟩ := hrel
    have HP := Lib.hid hP
    clear hP
    by_cases hlt : k < n
    · obtain ⟨x0, b, off, hxk, rfl, _, hb0, c0⟩ := (HX.out.ext hE).at_ (i := k) (by rw [hxn.out]; exact hlt)
      obtain ⟨y0, b', off', hyk, rfl, _, hb0', d0⟩ := (HY.out.ext hE).at_ (i := k) (by rw [hyn.out]; exact hlt)
      have HXk := Lib.hid hxk
      have HYk := Lib.hid hyk
      clear hxk hyk
      by_cases hxy : x0 = y0
      · subst hxy
        have e2 : (x0 != x0) = false := by simp
        have HP2 := Lib.hid (show ∀ (j : Nat) x y, j < k + 1 → xs[j]? = some x → ys[j]? = some y → x = y from fun j x y hj h1 h2 => by
          by_cases e : j = k
          · subst e
            rw [HXk.out] at h1
            rw [HYk.out] at h2
            exact (Option.some.inj h1).symm.trans (Option.some.inj h2)
          · exact HP.out j x y (by omega) h1 h2)
        go_wp2
        go_quiet (fail)
        go_wp2
        go_roundw
        case rel => exact ⟨k + 1, by omega, by go_num, HP2.out, below_drewN hE _⟩
        case measure => simp [intOf]; omega
      · have e2 : (x0 != y0) = true := by simpa using hxy
        have HF := Lib.hid (dec_not HXk.out HYk.out hxy)
        clear hxy
        go_wp2
        go_quiet (fail)
        go_wp2
        go_ret
        exact ⟨by rw [HF.out]; rfl, below_drewN hE _⟩
    · obtain rfl : k = n := by omega
      have HT := Lib.hid (dec_all (hxn.out.trans hyn.out.symm) (fun j x y hj h1 h2 => HP.out j x y (by rw [← hxn.out]; exact hj) h1 h2))
      go_wp2
      go_ret
      exact ⟨by rw [HT.out]; rfl, hE⟩
set_option maxHeartbeats 1000000 in
theorem sameIntsD_c (xs ys : List Int) (S S' : Nat → Prop) (A B : Option Addr) (c d : Nat) (w : World) (hx : Ints S w A xs) (hy : Ints S' w B ys) (hn : xs.length ≤ 1048576) (hm : ys.length ≤ 1048576) :
    Calls Tryd.prog 55 #[.slice A xs.length c, .slice B ys.length d] w fun e w' => e = .returned (.bool (decide (xs = ys))) ∧ Ext w w' := by
  by_cases hl : xs.length = ys.length
  · rw [← hl]
    exact sameIntsN_c xs.length xs ys (Lib.hid rfl) (Lib.hid hl.symm) S S' A B c d w hx hy hn
  · have HF := Lib.hid (dec_len hl)
    have e1 : ((xs.length : Int) != (ys.length : Int)) = true := bne_iff_ne.2 (by omega)
    clear hl
    go_enter Tryd.func55, Tryd.ntmps55
    go_wp2
    go_ret
    exact ⟨by rw [HF.out]; rfl, Below.refl _ _⟩
set_option maxHeartbeats 2000000 in
theorem sameListsN_c (n : Nat) (xs ys : List (List Int)) (hxn : Hid (xs.length = n)) (hyn : Hid (ys.length = n)) (S S' : Nat → Prop) (A B : Option Addr) (c d : Nat) (w : World) (hx : Rows2 S w A xs) (hy : Rows2 S' w B ys) (hn : n ≤ 1048576)
    (hxs : ∀ l ∈ xs, l.length ≤ 1048576) (hys : ∀ l ∈ ys, l.length ≤ 1048576) :
    Calls Tryd.prog 24 #[.slice A n c, .slice B n d] w fun e w' => e = .returned (.bool (decide (xs = ys))) ∧ Ext w w' := by
  have e1 : ((n : Int) != (n : Int)) = false := by simp
  have HX := Lib.hid hx
  have HY := Lib.hid hy
  have HXs := Lib.hid hxs
  have HYs := Lib.hid hys
  clear hx hy hxs hys
  go_enter Tryd.func24, Tryd.ntmps24
  go_wp2
  go_loopw [5] (fun i wr => ∃ k : Nat, k ≤ n ∧ i = .int .i64 k ∧ (∀ (j : Nat) x y, j < k → xs[j]? = some x → ys[j]? = some y → x = y) ∧ Ext w wr) (fun i _ => n - (intOf i).toNat)
  case atStart => exact ⟨0, Nat.zero_le _, rfl, fun j x y h => by omega, Below.refl _ _⟩
  case round =>
    obtain ⟨k, hk, rfl, hP, hE⟩ := hrel
    have HP := Lib.hid hP
    clear hP
    by_cases hlt : k < n
    · obtain ⟨l, A', cap, b, off, hxk, rfl, _, hb0, hI, c0⟩ := (HX.out.ext hE).at_ (i := k) (by rw [hxn.out]; exact hlt)
      obtain ⟨l', A2, cap2, b', off', hyk, rfl, _, hb0', hI', d0⟩ := (HY.out.ext hE).at_ (i := k) (by rw [hyn.out]; exact hlt)
      have hl1 := HXs.out l (List.mem_of_getElem? hxk)
      have hl2 := HYs.out l' (List.mem_of_getElem? hyk)
      have HXk := Lib.hid hxk
      have HYk := Lib.hid hyk
      have C := fun w hx hy => sameIntsD_c l l' S S' A' A2 cap cap2 w hx hy hl1 hl2
      have HI := Lib.hid hI
      have HI' := Lib.hid hI'
      clear hxk hyk hI hI'
      by_cases hxy : l = l'
      · have HP2 := Lib.hid (show ∀ (j : Nat) x y, j < k + 1 → xs[j]? = some x → ys[j]? = some y → x = y from fun j x y hj h1 h2 => by
          by_cases e : j = k
          · subst e
            rw [HXk.out] at h1
            rw [HYk.out] at h2
            exact (Option.some.inj h1).symm.trans (hxy.trans (Option.some.inj h2))
          · exact HP.out j x y (by omega) h1 h2)
        rw [decide_eq_true hxy] at C
        have C := Lib.hid C
        clear hxy
        go_wp2
        go_still_tail 8, (by kernel_rfl)
        change wpList _ _ _ _ _ wr.drew
        go_wp2_with (go_at_call 55; refine (C.out _ (HI.out.ext (show Ext wr wr.drew by (repeat' (first | (with_reducible exact Below.refl _ _) | (with_reducible refine Below.mono (by assumption) ?_) | (with_reducible refine Below.trans ?_ (Below.mono (by assumption) ?_)) | (with_reducible refine Below.alloc ?_ ?_ _) | (with_reducible refine Below.drew ?_) | (with_reducible refine below_drewN ?_ _) | (with_reducible refine Below.setCell ?_ ?_ _) | (simp only [World.size_alloc, World.size_setCell, World.size_drew, size_drewN]; omega) | omega)))) (HI'.out.ext (show Ext wr wr.drew by (repeat' (first | (with_reducible exact Below.refl _ _) | (with_reducible refine Below.mono (by assumption) ?_) | (with_reducible refine Below.trans ?_ (Below.mono (by assumption) ?_)) | (with_reducible refine Below.alloc ?_ ?_ _) | (with_reducible refine Below.drew ?_) | (with_reducible refine below_drewN ?_ _) | (with_reducible refine Below.setCell ?_ ?_ _) | (simp only [World.size_alloc, World.size_setCell, World.size_drew, size_drewN]; omega) | omega))))).mono ?_; rintro e w1 ⟨rfl, hb⟩; obtain ⟨hc, hf, hz, hs⟩ := bcell hb; (try simp only [World.size_alloc, World.size_setCell, World.size_drew, size_drewN] at hs); (first | have l0 := Nat.lt_of_lt_of_le l0 (show _ ≤ w1.heap.size by omega) | have l0 : w.heap.size < w1.heap.size := (by omega) | skip); (try have l0e := Nat.le_of_lt l0); (try have l0f := Nat.le_add_right_of_le (k := 1) l0e); (try have l1 := Nat.lt_of_lt_of_le l1 (show _ ≤ w1.heap.size by omega)); (try have l1e := Nat.le_of_lt l1); (try have l1f := Nat.le_add_right_of_le (k := 1) l1e); (try have l2 := Nat.lt_of_lt_of_le l2 (show _ ≤ w1.heap.size by omega)); (try have l2e := Nat.le_of_lt l2); (try have l2f := Nat.le_add_right_of_le (k := 1) l2e); (try have l3 := Nat.lt_of_lt_of_le l3 (show _ ≤ w1.heap.size by omega)); (try have l3e := Nat.le_of_lt l3); (try have l3f := Nat.le_add_right_of_le (k := 1) l3e))
        go_roundw
        case rel => exact ⟨k + 1, by omega, by go_num, HP2.out, (hE.tr (show Ext wr wr.drew by (repeat' (first | (with_reducible exact Below.refl _ _) | (with_reducible refine Below.mono (by assumption) ?_) | (with_reducible refine Below.trans ?_ (Below.mono (by assumption) ?_)) | (with_reducible refine Below.alloc ?_ ?_ _) | (with_reducible refine Below.drew ?_) | (with_reducible refine below_drewN ?_ _) | (with_reducible refine Below.setCell ?_ ?_ _) | (simp only [World.size_alloc, World.size_setCell, World.size_drew, size_drewN]; omega) | omega)))).tr hb⟩
        case measure => simp [intOf]; omega
      · have HF := Lib.hid (dec_not HXk.out HYk.out hxy)
        rw [decide_eq_false hxy] at C
        have C := Lib.hid C
        clear hxy
        go_wp2
        go_still_tail 8, (by kernel_rfl)
        change wpList _ _ _ _ _ wr.drew
        go_wp2_with (go_at_call 55; refine (C.out _ (HI.out.ext (show Ext wr wr.drew by (repeat' (first | (with_reducible exact Below.refl _ _) | (with_reducible refine Below.mono (by assumption) ?_) | (with_reducible refine Below.trans ?_ (Below.mono (by assumption) ?_)) | (with_reducible refine Below.alloc ?_ ?_ _) | (with_reducible refine Below.drew ?_) | (with_reducible refine below_drewN ?_ _) | (with_reducible refine Below.setCell ?_ ?_ _) | (simp only [World.size_alloc, World.size_setCell, World.size_drew, size_drewN]; omega) | omega)))) (HI'.out.ext (show Ext wr wr.drew by (repeat' (first | (with_reducible exact Below.refl _ _) | (with_reducible refine Below.mono (by assumption) ?_) | (with_reducible refine Below.trans ?_ (Below.mono (by assumption) ?_)) | (with_reducible refine Below.alloc ?_ ?_ _) | (with_reducible refine Below.drew ?_) | (with_reducible refine below_drewN ?_ _) | (with_reducible refine Below.setCell ?_ ?_ _) | (simp only [World.size_alloc, World.size_setCell, World.size_drew, size_drewN]; omega) | omega))))).mono ?_; rintro e w1 ⟨rfl, hb⟩; obtain ⟨hc, hf, hz, hs⟩ := bcell hb; (try simp only [World.size_alloc, World.size_setCell, World.size_drew, size_drewN] at hs); (first | have l0 := Nat.lt_of_lt_of_le l0 (show _ ≤ w1.heap.size by omega) | have l0 : w.heap.size < w1.heap.size := (by omega) | skip); (try have l0e := Nat.le_of_lt l0); (try have l0f := Nat.le_add_right_of_le (k := 1) l0e); (try have l1 := Nat.lt_of_lt_of_le l1 (show _ ≤ w1.heap.size by omega)); (try have l1e := Nat.le_of_lt l1); (try have l1f := Nat.le_add_right_of_le (k := 1) l1e); (try have l2 := Nat.lt_of_lt_of_le l2 (show _ ≤ w1.heap.size by omega)); (try have l2e := Nat.le_of_lt l2); (try have l2f := Nat.le_add_right_of_le (k := 1) l2e); (try have l3 := Nat.lt_of_lt_of_le l3 (show _ ≤ w1.heap.size by omega)); (try have l3e := Nat.le_of_lt l3); (try have l3f := Nat.le_add_right_of_le (k := 1) l3e))
        go_ret
        exact ⟨by rw [HF.out]; rfl, (hE.tr (show Ext wr wr.drew by (repeat' (first | (with_reducible exact Below.refl _ _) | (with_reducible refine Below.mono (by assumption) ?_) | (with_reducible refine Below.trans ?_ (Below.mono (by assumption) ?_)) | (with_reducible refine Below.alloc ?_ ?_ _) | (with_reducible refine Below.drew ?_) | (with_reducible refine below_drewN ?_ _) | (with_reducible refine Below.setCell ?_ ?_ _) | (simp only [World.size_alloc, World.size_setCell, World.size_drew, size_drewN]; omega) | omega)))).tr hb⟩
    · obtain rfl : k = n := by omega
      have HT := Lib.hid (dec_all (hxn.out.trans hyn.out.symm) (fun j x y hj h1 h2 => HP.out j x y (by rw [← hxn.out]; exact hj) h1 h2))
      go_wp2
      go_ret
      exact ⟨by rw [HT.out]; rfl, hE⟩
set_option maxHeartbeats 1000000 in
theorem sameListsD_c (xs ys : List (List Int)) (S S' : Nat → Prop) (A B : Option Addr) (c d : Nat) (w : World) (hx : Rows2 S w A xs) (hy : Rows2 S' w B ys) (hn : xs.length ≤ 1048576)
    (hxs : ∀ l ∈ xs, l.length ≤ 1048576) (hys : ∀ l ∈ ys, l.length ≤ 1048576) :
    Calls Tryd.prog 24 #[.slice A xs.length c, .slice B ys.length d] w fun e w' => e = .returned (.bool (decide (xs = ys))) ∧ Ext w w' := by
  by_cases hl : xs.length = ys.length
  · rw [← hl]
    exact sameListsN_c xs.length xs ys (Lib.hid rfl) (Lib.hid hl.symm) S S' A B c d w hx hy hn hxs hys
  · have HF := Lib.hid (dec_len hl)
    have e1 : ((xs.length : Int) != (ys.length : Int)) = true := bne_iff_ne.2 (by omega)
    clear hl
    go_enter Tryd.func24, Tryd.ntmps24
    go_wp2
    go_ret
    exact ⟨by rw [HF.out]; rfl, Below.refl _ _⟩
end Go.Proofs.YtdgfipoibnjhaaaDoor
