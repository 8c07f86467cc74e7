/-
  slices.Sorted(slices.Values(xs)): a new slice with the same numbers, ascending; slices.Equal.
-/
import Derived.Test.YtdgfipoibnjhaaaVals
import Derived.Test.YtdgfipoibnjhaaaRes
import Derived.Lib.SlKeysI
import Derived.Shelf.Sort.Plain
import Derived.Shelf.Slices.In.SortNone
import Derived.Sort.EveryDepth
import Derived.Deep.QuietTactic
import Derived.BigQuiet
namespace Go.Proofs.Ytdgfipoibnjhaaa
set_option linter.unusedSimpArgs false
set_option linter.unusedVariables false
set_option maxRecDepth 100000
open Go.RowKit Go.Shelf Go.Sort

end Go.Proofs.Ytdgfipoibnjhaaa
