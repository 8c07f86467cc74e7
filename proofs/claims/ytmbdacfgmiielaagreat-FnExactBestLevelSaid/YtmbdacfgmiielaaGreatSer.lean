/-
  Contracts of SerialRight, the reference's and the program's.
-/
import Derived.Test.YtmbdacfgmiielaaGreatGSort16
import Derived.Deep.RegionHeld3
import Derived.StillTailTactics
namespace Go.Proofs.YtmbdacfgmiielaaGreat
set_option linter.unusedSimpArgs false
set_option linter.unusedVariables false
set_option maxRecDepth 100000
open Go.RowKit

end Go.Proofs.YtmbdacfgmiielaaGreat
