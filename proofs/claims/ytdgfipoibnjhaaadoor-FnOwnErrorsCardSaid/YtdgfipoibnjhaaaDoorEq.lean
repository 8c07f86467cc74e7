/-
  Contracts of the laws' size checks and comparisons.
-/
import Derived.Test.YtdgfipoibnjhaaaDoorCopy
import Derived.StillTailTactics
import Derived.Deep.RegionHeld3
import Derived.Deep.QuietTactic
import Derived.BigQuiet
namespace Go.Proofs.YtdgfipoibnjhaaaDoor
set_option linter.unusedSimpArgs false
set_option linter.unusedVariables false
set_option maxRecDepth 100000
open Go.RowKit

/-- what is left of a size behind n more -/
def szf (left n : Int) : Int := if left - n < 0 then -1 else left - n
theorem szf_cases (left n : Int) : szf left n = -1 ∨ 0 ≤ szf left n := by unfold szf; split <;> omega
theorem szf_ok {n : Nat} (h : 0 ≤ szf 1048576 n) : n ≤ 1048576 := by unfold szf at h; split at h <;> omega





end Go.Proofs.YtdgfipoibnjhaaaDoor
