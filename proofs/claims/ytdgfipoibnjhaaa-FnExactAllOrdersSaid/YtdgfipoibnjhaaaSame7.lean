/-
  Contract of the reference's comparison of lists of different numbers; the same as sorting both.
-/
import Derived.Test.YtdgfipoibnjhaaaInstF
import Derived.Test.YtdgfipoibnjhaaaSort
namespace Go.Proofs.Ytdgfipoibnjhaaa
set_option linter.unusedSimpArgs false
set_option linter.unusedVariables false
set_option maxRecDepth 100000
open Go.RowKit

end Go.Proofs.Ytdgfipoibnjhaaa
