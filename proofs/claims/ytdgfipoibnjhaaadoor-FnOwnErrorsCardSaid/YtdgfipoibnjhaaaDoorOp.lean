/-
  Contracts of the functions on single operations.
-/
import Derived.Test.YtdgfipoibnjhaaaDoorProg
import Derived.Test.YtdgfipoibnjhaaaDoorMem
import Derived.WalkLawsBesides
import Derived.Handy
namespace Go.Proofs.YtdgfipoibnjhaaaDoor
set_option linter.unusedSimpArgs false
set_option linter.unusedVariables false
set_option maxRecDepth 100000
open Go.RowKit

def inB (n lo hi : Int) : Bool := decide (lo ≤ n) && decide (n ≤ hi)
theorem inB_iff {n lo hi : Int} : inB n lo hi = true ↔ lo ≤ n ∧ n ≤ hi := by simp [inB]

set_option maxHeartbeats 400000 in
theorem l1In_c (n lo hi : Int) (w : World) :
    Calls Tryd.prog 68 #[.int .i64 n, .int .i64 lo, .int .i64 hi] w fun e w' => e = .returned (.bool (inB n lo hi)) ∧ w = w' := by
  go_enter Tryd.func68, Tryd.ntmps68
  go_wp2
  · go_ret; exact ⟨by simp [inB, *], rfl⟩
  · go_ret
    exact ⟨by
      have : ¬ lo ≤ n := by omega
      simp [inB, this], rfl⟩

set_option maxHeartbeats 400000 in
theorem within_c (n lo hi : Int) (w : World) :
    Calls Tryd.prog 66 #[.int .i64 n, .int .i64 lo, .int .i64 hi] w fun e w' => e = .returned (.bool (inB n lo hi)) ∧ w = w' := by
  go_enter Tryd.func66, Tryd.ntmps66
  go_wp2
  · go_ret; exact ⟨by simp [inB, *], rfl⟩
  · go_ret
    exact ⟨by
      have : ¬ lo ≤ n := by omega
      simp [inB, this], rfl⟩

theorem keyOk_c (n : Int) (w : World) :
    Calls Tryd.prog 84 #[.int .i64 n] w fun e w' => e = .returned (.bool (inB n 0 2)) ∧ w = w' := by
  go_enter Tryd.func84, Tryd.ntmps84
  go_wp2_with (go_at_call 66; refine (within_c _ _ _ _).mono ?_; rintro e w' ⟨rfl, rfl⟩)
  go_ret
  exact ⟨rfl, rfl⟩


theorem valueOk_c (n : Int) (w : World) :
    Calls Tryd.prog 101 #[.int .i64 n] w fun e w' => e = .returned (.bool (inB n 0 99)) ∧ w = w' := by
  go_enter Tryd.func101, Tryd.ntmps101
  go_wp2_with (go_at_call 66; refine (within_c _ _ _ _).mono ?_; rintro e w' ⟨rfl, rfl⟩)
  go_ret
  exact ⟨rfl, rfl⟩



theorem reads_c (k y v : Int) (w : World) :
    Calls Tryd.prog 77 #[.agg #[.int .i64 k, .int .i64 y, .int .i64 v]] w fun e w' => e = .returned (.bool (k == 1)) ∧ Ext w w' := by
  go_enter Tryd.func77, Tryd.ntmps77
  go_wp2
  go_ret
  exact ⟨rfl, (Below.refl _ _).alloc (Nat.le_refl _) _⟩


theorem writes_c (k y v : Int) (w : World) :
    Calls Tryd.prog 87 #[.agg #[.int .i64 k, .int .i64 y, .int .i64 v]] w fun e w' => e = .returned (.bool (k == 2)) ∧ Ext w w' := by
  go_enter Tryd.func87, Tryd.ntmps87
  go_wp2
  go_ret
  exact ⟨rfl, (Below.refl _ _).alloc (Nat.le_refl _) _⟩


theorem sessionOk_c (n : Int) (w : World) :
    Calls Tryd.prog 88 #[.int .i64 n] w fun e w' => e = .returned (.bool (inB n 0 3)) ∧ w = w' := by
  go_enter Tryd.func88, Tryd.ntmps88
  go_wp2_with (go_at_call 66; refine (within_c _ _ _ _).mono ?_; rintro e w' ⟨rfl, rfl⟩)
  go_ret
  exact ⟨rfl, rfl⟩

/-- an operation is valid -/
def opv (o : T3) : Bool := (inB o.a 1 2 && inB o.b 0 2 && inB o.c 0 99) && (o.a == 1 || decide (0 < o.c))
theorem opv_mk {k y v : Int} {r : Bool} (h : ((inB k 1 2 && inB y 0 2 && inB v 0 99) && (k == 1 || decide (0 < v))) = r) : Ending.returned (.bool r) = .returned (.bool (opv ⟨k, y, v⟩)) := by rw [← h]; rfl

set_option maxHeartbeats 400000 in
theorem specOpValid_c (k y v : Int) (w : World) :
    Calls Tryd.prog 92 #[.agg #[.int .i64 k, .int .i64 y, .int .i64 v]] w fun e w' => e = .returned (.bool (opv ⟨k, y, v⟩)) ∧ Ext w w' := by
  go_enter Tryd.func92, Tryd.ntmps92
  go_wp2_with (go_at_call 68; refine (l1In_c _ _ _ _).mono ?_; rintro e w' ⟨rfl, rfl⟩)
  all_goals go_ret
  all_goals exact ⟨opv_mk (by simp_all), (Below.refl _ _).alloc (Nat.le_refl _) _⟩


set_option maxHeartbeats 400000 in
theorem implOpValid_c (k y v : Int) (w : World) :
    Calls Tryd.prog 78 #[.agg #[.int .i64 k, .int .i64 y, .int .i64 v]] w fun e w' => e = .returned (.bool (opv ⟨k, y, v⟩)) ∧ Ext w w' := by
  go_enter Tryd.func78, Tryd.ntmps78
  go_wp2_with (first
    | (go_at_call 84; refine (keyOk_c _ _).mono ?_; rintro e w' ⟨rfl, rfl⟩)
    | (go_at_call 101; refine (valueOk_c _ _).mono ?_; rintro e w' ⟨rfl, rfl⟩) | go_in)
  all_goals go_ret
  all_goals refine ⟨opv_mk ?_, by go_grown⟩
  all_goals (simp only [inB] at *; (try simp_all); (try omega))
  all_goals (rw [Bool.eq_iff_iff]; simp; omega)


end Go.Proofs.YtdgfipoibnjhaaaDoor
