/-
  Contracts of the laws' size checks and comparisons.
-/
import Derived.Test.YtdgfipoibnjhaaaDoorGOp1
import Derived.StillTailTactics
import Derived.Deep.RegionHeld3
import Derived.Deep.QuietTactic
import Derived.BigQuiet
namespace Go.Proofs.YtdgfipoibnjhaaaDoor
set_option linter.unusedSimpArgs false
set_option linter.unusedVariables false
set_option maxRecDepth 100000
open Go.RowKit

end Go.Proofs.YtdgfipoibnjhaaaDoor
