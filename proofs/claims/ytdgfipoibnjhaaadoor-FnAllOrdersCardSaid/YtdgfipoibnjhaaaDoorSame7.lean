/-
  Contract of the reference's comparison of lists of different numbers; the same as sorting both.
-/
import Derived.Test.YtdgfipoibnjhaaaDoorInstF
import Derived.Test.YtdgfipoibnjhaaaDoorSort
namespace Go.Proofs.YtdgfipoibnjhaaaDoor
set_option linter.unusedSimpArgs false
set_option linter.unusedVariables false
set_option maxRecDepth 100000
open Go.RowKit

theorem srt_perm (a b : List Int) : srt a = srt b ↔ a.Perm b := by
  constructor
  · intro h
    have h1 := List.mergeSort_perm a (fun x y : Int => decide (x ≤ y))
    have h2 := List.mergeSort_perm b (fun x y : Int => decide (x ≤ y))
    unfold srt at h
    rw [h] at h1
    exact h1.symm.trans h2
  · intro h
    have h1 := List.mergeSort_perm a (fun x y : Int => decide (x ≤ y))
    have h2 := List.mergeSort_perm b (fun x y : Int => decide (x ≤ y))
    have p1 := List.pairwise_mergeSort (le := fun x y : Int => decide (x ≤ y)) (fun a b c h1 h2 => by simp at *; omega) (fun a b => by simp; omega) a
    have p2 := List.pairwise_mergeSort (le := fun x y : Int => decide (x ≤ y)) (fun a b c h1 h2 => by simp at *; omega) (fun a b => by simp; omega) b
    refine List.Perm.eq_of_pairwise (le := fun x y : Int => x ≤ y) ?_ ?_ ?_ ((h1.trans h).trans h2.symm)
    · intro a b _ _ h1 h2; omega
    · exact p1.imp (fun h => by simpa using h)
    · exact p2.imp (fun h => by simpa using h)
theorem l7v_srt {a b : List Int} (hb : b.Nodup) : l7v a b = decide (srt a = srt b) := by
  rw [Bool.eq_iff_iff, decide_eq_true_eq, l7v_perm hb, srt_perm]
end Go.Proofs.YtdgfipoibnjhaaaDoor
