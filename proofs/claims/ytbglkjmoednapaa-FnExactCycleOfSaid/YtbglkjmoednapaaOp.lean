/-
  Contracts of the functions on single operations.
-/
import Derived.Test.YtbglkjmoednapaaProg
import Derived.Test.YtbglkjmoednapaaMem
import Derived.WalkLawsBesides
import Derived.Handy
namespace Go.Proofs.Ytbglkjmoednapaa
set_option linter.unusedSimpArgs false
set_option linter.unusedVariables false
set_option maxRecDepth 100000
open Go.RowKit

def inB (n lo hi : Int) : Bool := decide (lo ≤ n) && decide (n ≤ hi)
theorem inB_iff {n lo hi : Int} : inB n lo hi = true ↔ lo ≤ n ∧ n ≤ hi := by simp [inB]

set_option maxHeartbeats 400000 in
theorem l1In_c (n lo hi : Int) (w : World) :
    Calls Try.prog 22 #[.int .i64 n, .int .i64 lo, .int .i64 hi] w fun e w' => e = .returned (.bool (inB n lo hi)) ∧ w = w' := by
  go_enter Try.func22, Try.ntmps22
  go_wp2
  · go_ret; exact ⟨by simp [inB, *], rfl⟩
  · go_ret
    exact ⟨by
      have : ¬ lo ≤ n := by omega
      simp [inB, this], rfl⟩

set_option maxHeartbeats 400000 in
theorem within_c (n lo hi : Int) (w : World) :
    Calls Try.prog 23 #[.int .i64 n, .int .i64 lo, .int .i64 hi] w fun e w' => e = .returned (.bool (inB n lo hi)) ∧ w = w' := by
  go_enter Try.func23, Try.ntmps23
  go_wp2
  · go_ret; exact ⟨by simp [inB, *], rfl⟩
  · go_ret
    exact ⟨by
      have : ¬ lo ≤ n := by omega
      simp [inB, this], rfl⟩











/-- an operation is valid -/
def opv (o : T3) : Bool := (inB o.a 1 2 && inB o.b 0 2 && inB o.c 0 99) && (o.a == 1 || decide (0 < o.c))
theorem opv_mk {k y v : Int} {r : Bool} (h : ((inB k 1 2 && inB y 0 2 && inB v 0 99) && (k == 1 || decide (0 < v))) = r) : Ending.returned (.bool r) = .returned (.bool (opv ⟨k, y, v⟩)) := by rw [← h]; rfl





end Go.Proofs.Ytbglkjmoednapaa
