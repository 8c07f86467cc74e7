/-
  A world in which the listed variables hold what the rows list: for the rows' witnesses.
-/
import Derived.Test.YtdgfipoibnjhaaaDoorLaw
import Derived.Test.YtdgfipoibnjhaaaDoorCards
import Derived.Test.YtdgfipoibnjhaaaDoorTie
import Derived.OpenShut
import Derived.Deep.DeepHandedRow
import Derived.Lib.LaidTab
namespace Go.Proofs.YtdgfipoibnjhaaaDoor.Law
set_option linter.unusedSimpArgs false
set_option linter.unusedVariables false
set_option maxRecDepth 100000
open Go.ChangeShapes Go.WideShapes Go.ChangeAt Go.RowKit Go.Joins

theorem bytes_cap {P : Program} {w : World} {r : Reach} {b : Nat} {t e : TypeId} {A : Option Addr} {n c : Nat} (hs : P.underlying t = some (.slice e)) (h : Value.okWide P w r b t (.slice A n c)) : n ≤ c := by
  simp only [Value.okWide, hs, Cell.okWide, Cell.ok] at h
  cases A with
  | none =>
    have : n = 0 := by
      cases n with
      | zero => rfl
      | succ n => simp at h
    omega
  | some a => exact h.1
def tabCells {H : Type} (d : DataW H) : Array Value := match d with
  | .agg l => (l.map fun x => match x with | .lit (.int k n) => Value.int k n | _ => undef).toArray
  | _ => #[]
def layTab (cs : Array Value) : Obj → Obj
  | .cells _ t frozen => .cells cs t frozen
  | o => o
noncomputable def laidWorld (os : Os) : World :=
  let w0 := World.holding Tryd.prog os ⟨#[], #[], []⟩
  { w0 with heap := (((w0.heap.modify 0 (layTab (tabCells (H := Unit) Rows.laid_internal_strconv_uint64pow10))).modify 1 (layTab (tabCells (H := Unit) Rows.laid_math_bits_deBruijn32tab))).modify 2 (layTab (tabCells (H := Unit) Rows.laid_math_bits_deBruijn64tab))) }
end Go.Proofs.YtdgfipoibnjhaaaDoor.Law
