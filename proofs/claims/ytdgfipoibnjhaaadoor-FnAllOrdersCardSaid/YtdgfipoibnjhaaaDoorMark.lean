/-
  Contracts of the laws' marks: what was written stands, and nothing else has turned.
-/
import Derived.Test.YtdgfipoibnjhaaaDoorOwn
namespace Go.Proofs.YtdgfipoibnjhaaaDoor
set_option linter.unusedSimpArgs false
set_option linter.unusedVariables false
set_option maxRecDepth 100000
open Go.RowKit

def marks3 (k : Int) (n : Nat) : List T3 := (List.range n).map fun i : Nat => ⟨k + 3 * (i : Int), k + 3 * (i : Int) + 1, k + 3 * (i : Int) + 1 + 1⟩
section
variable {S : Nat → Prop} {w w' : World} {A : Option Addr} {xs : List T3} {b off i : Nat}
theorem Ops.grown {row : Option Nat} (h : Ops S w A xs) (hg : w.grownBy w' row) (hS : ∀ b, S b → b < w.heap.size → some b ≠ row) : Ops S w' A xs :=
  SlAt.keep h (kept_3 _ _) hg.size (fun p hp hlt => World.cell?_of_block (hg.block p.block hlt (hS _ hp hlt)))
theorem grown_trans {a b c : World} {row : Option Nat} (h : a.grownBy b row) (k : b.grownBy c row) : a.grownBy c row :=
  ⟨k.os.trans h.os, k.tape.trans h.tape, k.output.trans h.output, Nat.le_trans h.size k.size, fun i hi hne => (k.block i (Nat.lt_of_lt_of_le hi h.size) hne).trans (h.block i hi hne)⟩
theorem grown_set {a : World} {g o : Nat} (u : Value) : a.grownBy (a.setCell ⟨g, o, none⟩ u) (some g) :=
  ⟨rfl, rfl, rfl, by simp [World.setCell], fun _ _ hne => Below.heap_setCell a ⟨g, o, none⟩ u _ (fun e => hne (by rw [e]))⟩
theorem grown_refl (a : World) (row : Option Nat) : a.grownBy a row := ⟨rfl, rfl, rfl, Nat.le_refl _, fun _ _ _ => rfl⟩
theorem grown_ext {a b : World} (h : Ext a b) (row : Option Nat) : a.grownBy b row := ⟨h.os, h.tape, h.output, h.size, fun k hk _ => h.block k hk⟩
end

def rowOf (A : Option Addr) : Option Nat := A.map (·.block)
end Go.Proofs.YtdgfipoibnjhaaaDoor
