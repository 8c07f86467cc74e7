/-
  Plain facts: the first serial order that goes on from a beginning.
-/
import Derived.Test.YtdgfipoibnjhaaaSer
namespace Go.Proofs.Ytdgfipoibnjhaaa
set_option linter.unusedSimpArgs false
set_option linter.unusedVariables false
set_option maxRecDepth 100000

/-- what is left of all numbers behind a beginning -/
def left (all pre : List Int) : List Int := all.filter fun x => decide (x ∉ pre)
end Go.Proofs.Ytdgfipoibnjhaaa
