/-
  Contracts of WriterOf, the reference's and the program's.
-/
import Derived.Test.YtdgfipoibnjhaaaWr
namespace Go.Proofs.Ytdgfipoibnjhaaa
set_option linter.unusedSimpArgs false
set_option linter.unusedVariables false
set_option maxRecDepth 100000
open Go.RowKit

def isW (key val : Int) (p : Nat × T3) : Bool := decide (p.2 = (⟨2, key, val⟩ : T3))
/-- the number of the transaction that writes a value to a key, or -1 -/
def wrN (h : List TxnT) (key val : Int) : Int := (((prs h).find? (isW key val)).map fun p => (p.1 : Int)).getD (-1)
end Go.Proofs.Ytdgfipoibnjhaaa
