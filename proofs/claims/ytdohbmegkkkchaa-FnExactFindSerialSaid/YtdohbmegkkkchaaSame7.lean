/-
  Contract of the reference's comparison of lists of different numbers; the same as sorting both.
-/
import Derived.Test.YtdohbmegkkkchaaInstF
import Derived.Test.YtdohbmegkkkchaaSort
namespace Go.Proofs.Ytdohbmegkkkchaa
set_option linter.unusedSimpArgs false
set_option linter.unusedVariables false
set_option maxRecDepth 100000
open Go.RowKit

theorem count_take1 {xs : List Int} {j : Nat} {x y : Int} (hj : xs[j]? = some x) : (xs.take (j + 1)).count y = (xs.take j).count y + if x = y then 1 else 0 := by
  rw [List.take_add_one, hj, List.count_append]
  simp [List.count_cons]
end Go.Proofs.Ytdohbmegkkkchaa
