/-
  Contracts of SerialRight, the reference's and the program's.
-/
import Derived.Test.YtdgfipoibnjhaaaSame7
import Derived.Deep.RegionHeld3
import Derived.StillTailTactics
namespace Go.Proofs.Ytdgfipoibnjhaaa
set_option linter.unusedSimpArgs false
set_option linter.unusedVariables false
set_option maxRecDepth 100000
open Go.RowKit

end Go.Proofs.Ytdgfipoibnjhaaa
