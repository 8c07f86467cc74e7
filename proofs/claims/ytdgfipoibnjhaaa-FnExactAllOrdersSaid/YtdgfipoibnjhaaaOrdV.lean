/-
  Contracts of OrdersValid, the reference's and the program's.
-/
import Derived.Test.YtdgfipoibnjhaaaSame7
import Derived.Test.YtdgfipoibnjhaaaLst
import Derived.Deep.RegionHeld3
namespace Go.Proofs.Ytdgfipoibnjhaaa
set_option linter.unusedSimpArgs false
set_option linter.unusedVariables false
set_option maxRecDepth 100000
open Go.RowKit

/-- whether the orders are of the installed values -/
def ordV (h : List TxnT) (R : List (List Int)) : Bool := histv h && decide (R.length = 3) && (List.range 3).all fun k => l7v (R.getD k []) (instd h ((k : Nat) : Int))
theorem ordV_true {h : List TxnT} {R : List (List Int)} (hv : histv h = true) (hl : R.length = 3) (ha : ∀ (k : Nat) l, k < 3 → R[k]? = some l → l7v l (instd h ((k : Nat) : Int)) = true) : ordV h R = true := by
  unfold ordV
  rw [Bool.and_eq_true, Bool.and_eq_true, List.all_eq_true]
  refine ⟨⟨hv, decide_eq_true hl⟩, fun k hk => ?_⟩
  have hk3 := List.mem_range.1 hk
  have e : R[k]? = some R[k] := List.getElem?_eq_getElem (by omega)
  rw [List.getD_eq_getElem?_getD, e]
  exact ha k _ hk3 e
end Go.Proofs.Ytdgfipoibnjhaaa
