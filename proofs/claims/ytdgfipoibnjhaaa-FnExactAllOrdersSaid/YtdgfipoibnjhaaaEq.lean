/-
  Contracts of the laws' size checks and comparisons.
-/
import Derived.Test.YtdgfipoibnjhaaaGOp2
import Derived.StillTailTactics
import Derived.Deep.RegionHeld3
import Derived.Deep.QuietTactic
import Derived.BigQuiet
namespace Go.Proofs.Ytdgfipoibnjhaaa
set_option linter.unusedSimpArgs false
set_option linter.unusedVariables false
set_option maxRecDepth 100000
open Go.RowKit

/-- what is left of a size behind n more -/
def szf (left n : Int) : Int := if left - n < 0 then -1 else left - n
theorem szf_cases (left n : Int) : szf left n = -1 ∨ 0 ≤ szf left n := by unfold szf; split <;> omega
theorem szOpS_c (A : Option Addr) (n c : Nat) (left : Int) (hn : n ≤ maxLen) (h0 : 0 ≤ left) (h1 : left ≤ 1048576) (w : World) :
    Calls Try.prog 30 #[.slice A n c, .int .i64 left] w fun e w' => e = .returned (.int .i64 (szf left n)) ∧ w = w' := by
  unfold maxLen at hn
  go_enter Try.func30, Try.ntmps30
  by_cases h : left - n < 0
  · have e : szf left n = -1 := by simp [szf, h]
    rw [e]
    go_wp2
    go_ret
    exact ⟨rfl, rfl⟩
  · have e : szf left n = left - n := by simp [szf, h]
    rw [e]
    go_wp2
    go_ret
    exact ⟨rfl, rfl⟩

theorem eqOp_c (k y v : Int) (w : World) :
    Calls Try.prog 54 #[.agg #[.int .i64 k, .int .i64 y, .int .i64 v], .agg #[.int .i64 k, .int .i64 y, .int .i64 v]] w fun e w' => e = .returned (.bool true) ∧ Ext w w' := by
  have e1 : (k != k) = false := by simp
  have e2 : (y != y) = false := by simp
  have e3 : (v != v) = false := by simp
  go_enter Try.func54, Try.ntmps54
  go_wp2
  go_ret
  exact ⟨rfl, by (repeat' (first | (with_reducible exact Below.refl _ _) | (with_reducible refine Below.mono (by assumption) ?_) | (with_reducible refine Below.trans ?_ (Below.mono (by assumption) ?_)) | (with_reducible refine Below.alloc ?_ ?_ _) | (with_reducible refine Below.drew ?_) | (with_reducible refine below_drewN ?_ _) | (with_reducible refine Below.setCell ?_ ?_ _) | (simp only [World.size_alloc, World.size_setCell, World.size_drew, size_drewN]; omega) | omega))⟩

set_option maxHeartbeats 1000000 in
theorem eqOpS_c (xs : List T3) (S S' : Nat → Prop) (A B : Option Addr) (c d : Nat) (w : World) (hx : Ops S w A xs) (hy : Ops S' w B xs) (hn : xs.length ≤ 1048576) :
    Calls Try.prog 41 #[.slice A xs.length c, .slice B xs.length d] w fun e w' => e = .returned (.bool true) ∧ Ext w w' := by
  have e1 : ((xs.length : Int) != (xs.length : Int)) = false := by simp
  go_enter Try.func41, Try.ntmps41
  go_wp2
  go_loopw [5] (fun i wr => ∃ k : Nat, k ≤ xs.length ∧ i = .int .i64 k ∧ Ext w wr) (fun i _ => xs.length - (intOf i).toNat)
  case atStart => exact ⟨0, Nat.zero_le _, rfl, Below.refl _ _⟩
  case round =>
    obtain ⟨k, hk, rfl, hE⟩ := hrel
    have hEz := hE.size
    by_cases hlt : k < xs.length
    · obtain ⟨x0, x1, x2, b, off, hxk, rfl, _, hb0, c0, c1, c2⟩ := (hx.ext hE).at_ hlt
      obtain ⟨y0, y1, y2, b', off', hyk, rfl, _, hb0', d0, d1, d2⟩ := (hy.ext hE).at_ hlt
      rw [hxk] at hyk
      cases hyk
      clear hxk
      go_wp2
      go_still_tail 8, (by kernel_rfl)
      change wpList _ _ _ _ _ wr.drew
      go_wp2_with (go_at_call 54; refine (eqOp_c _ _ _ _).mono ?_; rintro e w1 ⟨rfl, hb⟩; obtain ⟨hc, hf, hz, hs⟩ := bcell hb; (try simp only [World.size_alloc, World.size_setCell, World.size_drew, size_drewN] at hs); (first | have l0 := Nat.lt_of_lt_of_le l0 (show _ ≤ w1.heap.size by omega) | have l0 : w.heap.size < w1.heap.size := (by omega) | skip); (try have l0e := Nat.le_of_lt l0); (try have l0f := Nat.le_add_right_of_le (k := 1) l0e); (try have l1 := Nat.lt_of_lt_of_le l1 (show _ ≤ w1.heap.size by omega)); (try have l1e := Nat.le_of_lt l1); (try have l1f := Nat.le_add_right_of_le (k := 1) l1e); (try have l2 := Nat.lt_of_lt_of_le l2 (show _ ≤ w1.heap.size by omega)); (try have l2e := Nat.le_of_lt l2); (try have l2f := Nat.le_add_right_of_le (k := 1) l2e); (try have l3 := Nat.lt_of_lt_of_le l3 (show _ ≤ w1.heap.size by omega)); (try have l3e := Nat.le_of_lt l3); (try have l3f := Nat.le_add_right_of_le (k := 1) l3e))
      go_roundw
      case rel => exact ⟨k + 1, by omega, by go_num, by (repeat' (first | (with_reducible exact Below.refl _ _) | (with_reducible refine Below.mono (by assumption) ?_) | (with_reducible refine Below.trans ?_ (Below.mono (by assumption) ?_)) | (with_reducible refine Below.alloc ?_ ?_ _) | (with_reducible refine Below.drew ?_) | (with_reducible refine below_drewN ?_ _) | (with_reducible refine Below.setCell ?_ ?_ _) | (simp only [World.size_alloc, World.size_setCell, World.size_drew, size_drewN]; omega) | omega))⟩
      case measure => simp [intOf]; omega
    · go_wp2
      go_ret
      exact ⟨rfl, hE⟩

theorem szTxn_c (s : Int) (A : Option Addr) (n c : Nat) (d : Bool) (left : Int) (hn : n ≤ maxLen) (h0 : 0 ≤ left) (h1 : left ≤ 1048576) (w : World) :
    Calls Try.prog 13 #[.agg #[.int .i64 s, .slice A n c, .bool d], .int .i64 left] w fun e w' => e = .returned (.int .i64 (szf left n)) ∧ Ext w w' := by
  have C := szOpS_c A n c left hn h0 h1
  have hs := szf_cases left n
  generalize szf left n = r at C hs ⊢
  rcases hs with rfl | hs
  · have C := Lib.hid C
    go_enter Try.func13, Try.ntmps13
    go_wp2_with (go_at_call 30; refine (C.out _).mono ?_; rintro e w' ⟨rfl, rfl⟩)
    go_ret
    exact ⟨rfl, by (repeat' (first | (with_reducible exact Below.refl _ _) | (with_reducible refine Below.mono (by assumption) ?_) | (with_reducible refine Below.trans ?_ (Below.mono (by assumption) ?_)) | (with_reducible refine Below.alloc ?_ ?_ _) | (with_reducible refine Below.drew ?_) | (with_reducible refine below_drewN ?_ _) | (with_reducible refine Below.setCell ?_ ?_ _) | (simp only [World.size_alloc, World.size_setCell, World.size_drew, size_drewN]; omega) | omega))⟩
  · have C := Lib.hid C
    go_enter Try.func13, Try.ntmps13
    go_wp2_with (go_at_call 30; refine (C.out _).mono ?_; rintro e w' ⟨rfl, rfl⟩)
    go_ret
    exact ⟨rfl, by (repeat' (first | (with_reducible exact Below.refl _ _) | (with_reducible refine Below.mono (by assumption) ?_) | (with_reducible refine Below.trans ?_ (Below.mono (by assumption) ?_)) | (with_reducible refine Below.alloc ?_ ?_ _) | (with_reducible refine Below.drew ?_) | (with_reducible refine below_drewN ?_ _) | (with_reducible refine Below.setCell ?_ ?_ _) | (simp only [World.size_alloc, World.size_setCell, World.size_drew, size_drewN]; omega) | omega))⟩

def FreshTxn (t : TxnT) (w : World) (e : Ending) (w' : World) : Prop :=
  ∃ A, e = .returned (.agg #[.int .i64 t.sess, .slice A t.ops.length t.ops.length, .bool t.done]) ∧ Ops (fun b => w.heap.size ≤ b) w' A t.ops ∧ (∀ a, A = some a → w.heap.size ≤ a.block ∧ a.block < w'.heap.size ∧ ∀ o, w'.frozen? ⟨a.block, o, none⟩ = false) ∧ Ext w w'

set_option maxHeartbeats 1000000 in
theorem toTxn_c (t : TxnT) (S : Nat → Prop) (A : Option Addr) (c : Nat) (w : World) (hx : Ops S w A t.ops) (hn : t.ops.length ≤ 1048576) :
    Calls Try.prog 19 #[.agg #[.int .i64 t.sess, .slice A t.ops.length c, .bool t.done]] w (FreshTxn t w) := by
  obtain ⟨s, ops, d⟩ := t
  simp only at hx hn ⊢
  go_enter Try.func19, Try.ntmps19
  go_wp2_with (go_at_call 36; refine (toOpS_c _ _ _ _ _ (hx.ext (by (repeat' (first | (with_reducible exact Below.refl _ _) | (with_reducible refine Below.mono (by assumption) ?_) | (with_reducible refine Below.trans ?_ (Below.mono (by assumption) ?_)) | (with_reducible refine Below.alloc ?_ ?_ _) | (with_reducible refine Below.drew ?_) | (with_reducible refine below_drewN ?_ _) | (with_reducible refine Below.setCell ?_ ?_ _) | (simp only [World.size_alloc, World.size_setCell, World.size_drew, size_drewN]; omega) | omega)))) hn).mono ?_; rintro e w1 ⟨A', rfl, hA', hf', hb⟩; obtain ⟨hc, hf, hz, hs⟩ := bcell hb; (try simp only [World.size_alloc, World.size_setCell, World.size_drew, size_drewN] at hs); (first | have l0 := Nat.lt_of_lt_of_le l0 (show _ ≤ w1.heap.size by omega) | have l0 : w.heap.size < w1.heap.size := (by omega) | skip); (try have l0e := Nat.le_of_lt l0); (try have l0f := Nat.le_add_right_of_le (k := 1) l0e); (try have l1 := Nat.lt_of_lt_of_le l1 (show _ ≤ w1.heap.size by omega)); (try have l1e := Nat.le_of_lt l1); (try have l1f := Nat.le_add_right_of_le (k := 1) l1e); (try have l2 := Nat.lt_of_lt_of_le l2 (show _ ≤ w1.heap.size by omega)); (try have l2e := Nat.le_of_lt l2); (try have l2f := Nat.le_add_right_of_le (k := 1) l2e); (try have l3 := Nat.lt_of_lt_of_le l3 (show _ ≤ w1.heap.size by omega)); (try have l3e := Nat.le_of_lt l3); (try have l3f := Nat.le_add_right_of_le (k := 1) l3e))
  refine bodyPost_ret (v := .agg #[.int .i64 s, .slice A' ops.length ops.length, .bool d]) (by simp [results, Try.results19, go_sem, hc, hz, hf]) rfl ?_
  have key : Ops (fun b => w.heap.size + 3 ≤ b) w1 A' ops := hA'.mono (fun b h _ => by simp only [World.size_alloc] at h; omega) (fun _ _ h => h)
  refine ⟨A', rfl, ?_, ?_, by (repeat' (first | (with_reducible exact Below.refl _ _) | (with_reducible refine Below.mono (by assumption) ?_) | (with_reducible refine Below.trans ?_ (Below.mono (by assumption) ?_)) | (with_reducible refine Below.alloc ?_ ?_ _) | (with_reducible refine Below.drew ?_) | (with_reducible refine below_drewN ?_ _) | (with_reducible refine Below.setCell ?_ ?_ _) | (simp only [World.size_alloc, World.size_setCell, World.size_drew, size_drewN]; omega) | omega))⟩
  · refine SlAt.mono (S := fun b => w.heap.size + 3 ≤ b) (R := R3) ?_ (fun b h _ => by omega) (fun _ _ h => h)
    repeat' (first | (with_reducible exact key) | (with_reducible refine Ops.setCell ?_ (by simp only; omega) _))
  · intro a ha
    have h1 := hf' a ha
    simp only [World.size_alloc] at h1
    refine ⟨by omega, by simp only [World.size_setCell]; exact h1.2.1, fun o => ?_⟩
    simp only [World.frozen?_setCell]
    exact h1.2.2 o

set_option maxHeartbeats 1000000 in
theorem eqTxn_c (t : TxnT) (S S' : Nat → Prop) (A B : Option Addr) (c d : Nat) (w : World) (hx : Ops S w A t.ops) (hy : Ops S' w B t.ops) (hn : t.ops.length ≤ 1048576) :
    Calls Try.prog 26 #[.agg #[.int .i64 t.sess, .slice A t.ops.length c, .bool t.done], .agg #[.int .i64 t.sess, .slice B t.ops.length d, .bool t.done]] w fun e w' => e = .returned (.bool true) ∧ Ext w w' := by
  obtain ⟨s, ops, dn⟩ := t
  simp only at hx hy hn ⊢
  have e1 : (s != s) = false := by simp
  have e2 : (dn != dn) = false := by simp
  have hb0 : Ext w ((w.alloc (.cells #[.int .i64 s, .slice A ops.length c, .bool dn] 46)).alloc (.cells #[.int .i64 s, .slice B ops.length d, .bool dn] 46)) := by (repeat' (first | (with_reducible exact Below.refl _ _) | (with_reducible refine Below.mono (by assumption) ?_) | (with_reducible refine Below.trans ?_ (Below.mono (by assumption) ?_)) | (with_reducible refine Below.alloc ?_ ?_ _) | (with_reducible refine Below.drew ?_) | (with_reducible refine below_drewN ?_ _) | (with_reducible refine Below.setCell ?_ ?_ _) | (simp only [World.size_alloc, World.size_setCell, World.size_drew, size_drewN]; omega) | omega))
  have hx' := hx.ext hb0
  have hy' := hy.ext hb0
  have H1 := Lib.hid hb0
  clear hb0
  go_enter Try.func26, Try.ntmps26
  go_wp2_with (go_at_call 41; refine (eqOpS_c _ _ _ _ _ _ _ _ hx' hy' hn).mono ?_; rintro e w1 ⟨rfl, hb⟩; obtain ⟨hc, hf, hz, hs⟩ := bcell hb; (try simp only [World.size_alloc, World.size_setCell, World.size_drew, size_drewN] at hs); (first | have l0 := Nat.lt_of_lt_of_le l0 (show _ ≤ w1.heap.size by omega) | have l0 : w.heap.size < w1.heap.size := (by omega) | skip); (try have l0e := Nat.le_of_lt l0); (try have l0f := Nat.le_add_right_of_le (k := 1) l0e); (try have l1 := Nat.lt_of_lt_of_le l1 (show _ ≤ w1.heap.size by omega)); (try have l1e := Nat.le_of_lt l1); (try have l1f := Nat.le_add_right_of_le (k := 1) l1e); (try have l2 := Nat.lt_of_lt_of_le l2 (show _ ≤ w1.heap.size by omega)); (try have l2e := Nat.le_of_lt l2); (try have l2f := Nat.le_add_right_of_le (k := 1) l2e); (try have l3 := Nat.lt_of_lt_of_le l3 (show _ ≤ w1.heap.size by omega)); (try have l3e := Nat.le_of_lt l3); (try have l3f := Nat.le_add_right_of_le (k := 1) l3e))
  go_ret
  exact ⟨rfl, by (repeat' (first | (with_reducible exact Below.refl _ _) | (with_reducible refine Below.mono (by assumption) ?_) | (with_reducible refine Below.trans ?_ (Below.mono (by assumption) ?_)) | (with_reducible refine Below.alloc ?_ ?_ _) | (with_reducible refine Below.drew ?_) | (with_reducible refine below_drewN ?_ _) | (with_reducible refine Below.setCell ?_ ?_ _) | (simp only [World.size_alloc, World.size_setCell, World.size_drew, size_drewN]; omega) | omega))⟩
end Go.Proofs.Ytdgfipoibnjhaaa
