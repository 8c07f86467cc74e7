/-
  Contracts of the functions on single operations.
-/
import Derived.Test.YtciadlhencgjmaaProg
import Derived.Test.YtciadlhencgjmaaMem
import Derived.WalkLawsBesides
import Derived.Handy
namespace Go.Proofs.Ytciadlhencgjmaa
set_option linter.unusedSimpArgs false
set_option linter.unusedVariables false
set_option maxRecDepth 100000
open Go.RowKit

def inB (n lo hi : Int) : Bool := decide (lo ≤ n) && decide (n ≤ hi)
theorem inB_iff {n lo hi : Int} : inB n lo hi = true ↔ lo ≤ n ∧ n ≤ hi := by simp [inB]

set_option maxHeartbeats 400000 in
theorem l1In_c (n lo hi : Int) (w : World) :
    Calls Try.prog 40 #[.int .i64 n, .int .i64 lo, .int .i64 hi] w fun e w' => e = .returned (.bool (inB n lo hi)) ∧ w = w' := by
  go_enter Try.func40, Try.ntmps40
  go_wp2
  · go_ret; exact ⟨by simp [inB, *], rfl⟩
  · go_ret
    exact ⟨by
      have : ¬ lo ≤ n := by omega
      simp [inB, this], rfl⟩

set_option maxHeartbeats 400000 in
theorem within_c (n lo hi : Int) (w : World) :
    Calls Try.prog 45 #[.int .i64 n, .int .i64 lo, .int .i64 hi] w fun e w' => e = .returned (.bool (inB n lo hi)) ∧ w = w' := by
  go_enter Try.func45, Try.ntmps45
  go_wp2
  · go_ret; exact ⟨by simp [inB, *], rfl⟩
  · go_ret
    exact ⟨by
      have : ¬ lo ≤ n := by omega
      simp [inB, this], rfl⟩

theorem keyOk_c (n : Int) (w : World) :
    Calls Try.prog 86 #[.int .i64 n] w fun e w' => e = .returned (.bool (inB n 0 2)) ∧ w = w' := by
  go_enter Try.func86, Try.ntmps86
  go_wp2_with (go_at_call 45; refine (within_c _ _ _ _).mono ?_; rintro e w' ⟨rfl, rfl⟩)
  go_ret
  exact ⟨rfl, rfl⟩


theorem valueOk_c (n : Int) (w : World) :
    Calls Try.prog 112 #[.int .i64 n] w fun e w' => e = .returned (.bool (inB n 0 99)) ∧ w = w' := by
  go_enter Try.func112, Try.ntmps112
  go_wp2_with (go_at_call 45; refine (within_c _ _ _ _).mono ?_; rintro e w' ⟨rfl, rfl⟩)
  go_ret
  exact ⟨rfl, rfl⟩



theorem reads_c (k y v : Int) (w : World) :
    Calls Try.prog 80 #[.agg #[.int .i64 k, .int .i64 y, .int .i64 v]] w fun e w' => e = .returned (.bool (k == 1)) ∧ Ext w w' := by
  go_enter Try.func80, Try.ntmps80
  go_wp2
  go_ret
  exact ⟨rfl, (Below.refl _ _).alloc (Nat.le_refl _) _⟩


theorem writes_c (k y v : Int) (w : World) :
    Calls Try.prog 95 #[.agg #[.int .i64 k, .int .i64 y, .int .i64 v]] w fun e w' => e = .returned (.bool (k == 2)) ∧ Ext w w' := by
  go_enter Try.func95, Try.ntmps95
  go_wp2
  go_ret
  exact ⟨rfl, (Below.refl _ _).alloc (Nat.le_refl _) _⟩


theorem sessionOk_c (n : Int) (w : World) :
    Calls Try.prog 99 #[.int .i64 n] w fun e w' => e = .returned (.bool (inB n 0 3)) ∧ w = w' := by
  go_enter Try.func99, Try.ntmps99
  go_wp2_with (go_at_call 45; refine (within_c _ _ _ _).mono ?_; rintro e w' ⟨rfl, rfl⟩)
  go_ret
  exact ⟨rfl, rfl⟩

/-- an operation is valid -/
def opv (o : T3) : Bool := (inB o.a 1 2 && inB o.b 0 2 && inB o.c 0 99) && (o.a == 1 || decide (0 < o.c))
theorem opv_mk {k y v : Int} {r : Bool} (h : ((inB k 1 2 && inB y 0 2 && inB v 0 99) && (k == 1 || decide (0 < v))) = r) : Ending.returned (.bool r) = .returned (.bool (opv ⟨k, y, v⟩)) := by rw [← h]; rfl

set_option maxHeartbeats 400000 in
theorem specOpValid_c (k y v : Int) (w : World) :
    Calls Try.prog 96 #[.agg #[.int .i64 k, .int .i64 y, .int .i64 v]] w fun e w' => e = .returned (.bool (opv ⟨k, y, v⟩)) ∧ Ext w w' := by
  go_enter Try.func96, Try.ntmps96
  go_wp2_with (go_at_call 40; refine (l1In_c _ _ _ _).mono ?_; rintro e w' ⟨rfl, rfl⟩)
  all_goals go_ret
  all_goals exact ⟨opv_mk (by simp_all), (Below.refl _ _).alloc (Nat.le_refl _) _⟩


set_option maxHeartbeats 400000 in
theorem implOpValid_c (k y v : Int) (w : World) :
    Calls Try.prog 102 #[.agg #[.int .i64 k, .int .i64 y, .int .i64 v]] w fun e w' => e = .returned (.bool (opv ⟨k, y, v⟩)) ∧ Ext w w' := by
  go_enter Try.func102, Try.ntmps102
  go_wp2_with (first
    | (go_at_call 86; refine (keyOk_c _ _).mono ?_; rintro e w' ⟨rfl, rfl⟩)
    | (go_at_call 112; refine (valueOk_c _ _).mono ?_; rintro e w' ⟨rfl, rfl⟩) | go_in)
  all_goals go_ret
  all_goals refine ⟨opv_mk ?_, by go_grown⟩
  all_goals (simp only [inB] at *; (try simp_all); (try omega))
  all_goals (rw [Bool.eq_iff_iff]; simp; omega)


/-- the law's own conversion of an operation: a copy -/
theorem toOp_c (k y v : Int) (w : World) :
    Calls Try.prog 97 #[.agg #[.int .i64 k, .int .i64 y, .int .i64 v]] w fun e w' => e = .returned (.agg #[.int .i64 k, .int .i64 y, .int .i64 v]) ∧ Ext w w' := by
  go_enter Try.func97, Try.ntmps97
  go_wp2
  go_returns
  exact ⟨rfl, by go_grown⟩
end Go.Proofs.Ytciadlhencgjmaa
