/-
  Contracts of FirstOrders, the reference's and the program's.
-/
import Derived.Test.YtdgfipoibnjhaaaInst
import Derived.Test.YtdgfipoibnjhaaaLstO
import Derived.Test.YtdgfipoibnjhaaaOwnH
namespace Go.Proofs.Ytdgfipoibnjhaaa
set_option linter.unusedSimpArgs false
set_option linter.unusedVariables false
set_option maxRecDepth 100000
open Go.RowKit

def firstV (h : List TxnT) : List (List Int) := if histv h = true then [instd h 0, instd h 1, instd h 2] else []
/-- the first k orders -/
def firstT (h : List TxnT) (k : Nat) : List (List Int) := (List.range k).map fun i : Nat => instd h ((i : Nat) : Int)
theorem firstT_succ (h : List TxnT) (k : Nat) : firstT h (k + 1) = firstT h k ++ [instd h (k : Int)] := by simp [firstT, List.range_succ]
theorem infoRow : (Try.prog.info? 39).map (fun i => (i.zero, i.size, i.bytes)) = some (some (.slice none 0 0), 1, 24) := by kernel_rfl
end Go.Proofs.Ytdgfipoibnjhaaa
