/-
  A world in which the listed variables hold what the rows list: for the rows' witnesses.
-/
import Derived.Test.YtdidlffbobgejaaDoorLaw
import Derived.Test.YtdidlffbobgejaaDoorCards
import Derived.Test.YtdidlffbobgejaaDoorTie
import Derived.OpenShut
import Derived.Deep.DeepHandedRow
import Derived.Lib.LaidTab
namespace Go.Proofs.YtdidlffbobgejaaDoor.Law
set_option linter.unusedSimpArgs false
set_option linter.unusedVariables false
set_option maxRecDepth 100000
open Go.ChangeShapes Go.WideShapes Go.ChangeAt Go.RowKit Go.Joins

theorem bytes_cap {P : Program} {w : World} {r : Reach} {b : Nat} {t e : TypeId} {A : Option Addr} {n c : Nat} (hs : P.underlying t = some (.slice e)) (h : Value.okWide P w r b t (.slice A n c)) : n ≤ c := by
  simp only [Value.okWide, hs, Cell.okWide, Cell.ok] at h
  cases A with
  | none =>
    have : n = 0 := by
      cases n with
      | zero => rfl
      | succ n => simp at h
    omega
  | some a => exact h.1
def tabCells {H : Type} (d : DataW H) : Array Value := match d with
  | .agg l => (l.map fun x => match x with | .lit (.int k n) => Value.int k n | _ => undef).toArray
  | _ => #[]
def layTab (cs : Array Value) : Obj → Obj
  | .cells _ t frozen => .cells cs t frozen
  | o => o
noncomputable def laidWorld (os : Os) : World :=
  let w0 := World.holding Tryd.prog os ⟨#[], #[], []⟩
  { w0 with heap := (Array.push (Array.push (((((w0.heap.modify 0 (layTab #[.iface 123 (.pointer (some ⟨w0.heap.size + 0, 0, none⟩))])).modify 1 (layTab #[.iface 123 (.pointer (some ⟨w0.heap.size + 1, 0, none⟩))])).modify 2 (layTab (tabCells (H := Unit) Rows.laid_math_bits_deBruijn32tab))).modify 3 (layTab (tabCells (H := Unit) Rows.laid_math_bits_deBruijn64tab))).modify 4 (layTab (tabCells (H := Unit) Rows.laid_internal_strconv_uint64pow10))) (Obj.cells #[.string ⟨#[105, 110, 118, 97, 108, 105, 100, 32, 115, 121, 110, 116, 97, 120]⟩] 125 (0, 0))) (Obj.cells #[.string ⟨#[118, 97, 108, 117, 101, 32, 111, 117, 116, 32, 111, 102, 32, 114, 97, 110, 103, 101]⟩] 125 (0, 0))) }
end Go.Proofs.YtdidlffbobgejaaDoor.Law
