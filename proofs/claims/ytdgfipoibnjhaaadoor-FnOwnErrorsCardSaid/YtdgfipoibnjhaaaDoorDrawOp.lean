/-
  Contracts of drawn operations.
-/
import Derived.Test.YtdgfipoibnjhaaaDoorDraw
import Derived.Test.YtdgfipoibnjhaaaDoorAlive
namespace Go.Proofs.YtdgfipoibnjhaaaDoor
set_option linter.unusedSimpArgs false
set_option linter.unusedVariables false
set_option maxRecDepth 100000
open Go.RowKit

/-- a drawn operation: some operation with small numbers; old memory is as it was -/
def DrewOp (w : World) (e : Ending) (w' : World) : Prop := ∃ x : T3, e = .returned (.agg #[.int .i64 x.a, .int .i64 x.b, .int .i64 x.c]) ∧ SmallOp x ∧ Ext w w'
theorem grown_new {w w1 w2 : World} {r : Nat} (hE : Ext w w1) (hr : w.heap.size ≤ r) (h : w1.grownBy w2 (some r)) : Ext w w2 :=
  ⟨h.os.trans hE.os, h.tape.trans hE.tape, h.output.trans hE.output, Nat.le_trans hE.size h.size, fun k hk => (h.block k (Nat.lt_of_lt_of_le hk hE.size) (fun e => by have := Option.some.inj e; omega)).trans (hE.block k hk)⟩
end Go.Proofs.YtdgfipoibnjhaaaDoor
