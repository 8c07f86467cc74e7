/-
  No cell of these rows narrows 'for every input' (looked for: loops, veiled, ifaces, maps, wideKeys, modest, calm, conditions, laid).
  DERIVED. THE GIVEN ROWS OF THIS SEAT. 5 by the template 'for every input the law returns true; each argument reads behind the call as it read before'; 0 by the template 'total and deterministic' (their statements: YtknphamfindohaaTotals.lean).
  GIVEN WITH THE SEED: the statements are not yours to turn. If you find one false, say at which input.
  Laid BY PROGRAM, IN A SANDBOX (cutbox-rows.mjs): the forced cells as the released guide's own fill.sh prints them over the translation a17a43c389db07eb… (all of the seat's roots in one cut). By AI agents, Wed Nov 11 2026. No macro, syntax, notation, axiom, sorry.
-/
import Derived.Test.YtknphamfindohaaChecked
import GoSem.Claim
import GoSem.ClaimJoined
import GoSem.ClaimMapViews
import Derived.JoinedTies
import Derived.KernelRfl
namespace Go.Proofs.Ytknphamfindohaa
/- THE CELL 'sum', in the pinned program and in every row, IS THE sha256 OF THE DUMP (.gsa) THAT YtknphamfindohaaProg.lean LOADS. Nothing in Lean hashes anything: it is a label: what it is worth is what the hold of that sum in a sandbox is worth. -/
noncomputable def Try.pinned : Pinned := { name := "ytknphamfindohaa", sum := "a17a43c389db07ebc3384c3e6f4e96b0dd677bec39622e90f4494a82eaa0deea", checked := Try.checked }
namespace Rows
def none {H : Type} : Left H := { results := [], args := [] }

/-- 'laws.FnExactFirstOrders': WHATEVER THE INPUT: true; the input reads as it did. -/
def fnExactFirstOrdersSpec : ChangeSpec := { name := "fnExactFirstOrders", fn := fun _ => fun
  | [d] => { results := [.lit (.bool true)], args := [d] }
  | _ => none }
def fnExactFirstOrdersRow : OpenClaim := { program := "ytknphamfindohaa", sum := "a17a43c389db07ebc3384c3e6f4e96b0dd677bec39622e90f4494a82eaa0deea", func := "loop.example/historychecker/laws.FnExactFirstOrders", spec := "fnExactFirstOrders", unfollowed := true, recurses := true, plainKeys := false, apart := false }
def FnExactFirstOrdersSaid : Prop := fnExactFirstOrdersRow.holds Try.pinned (OpenSpec.ofChange fnExactFirstOrdersSpec)

/-- ITS FALSE NEIGHBOUR: 'it returns false'. Refute it at one input. -/
def fnExactFirstOrdersWrong : ChangeSpec := { name := "fnExactFirstOrders", fn := fun _ => fun
  | [d] => { results := [.lit (.bool false)], args := [d] }
  | _ => none }
def FnExactFirstOrdersWrongFalsely : Prop := fnExactFirstOrdersRow.holds Try.pinned (OpenSpec.ofChange fnExactFirstOrdersWrong)

/-- 'laws.FnExactSessionEdges': WHATEVER THE INPUT: true; the input reads as it did. -/
def fnExactSessionEdgesSpec : ChangeSpec := { name := "fnExactSessionEdges", fn := fun _ => fun
  | [d] => { results := [.lit (.bool true)], args := [d] }
  | _ => none }
def fnExactSessionEdgesRow : OpenClaim := { program := "ytknphamfindohaa", sum := "a17a43c389db07ebc3384c3e6f4e96b0dd677bec39622e90f4494a82eaa0deea", func := "loop.example/historychecker/laws.FnExactSessionEdges", spec := "fnExactSessionEdges", unfollowed := true, recurses := true, plainKeys := false, apart := false }
def FnExactSessionEdgesSaid : Prop := fnExactSessionEdgesRow.holds Try.pinned (OpenSpec.ofChange fnExactSessionEdgesSpec)

/-- ITS FALSE NEIGHBOUR: 'it returns false'. Refute it at one input. -/
def fnExactSessionEdgesWrong : ChangeSpec := { name := "fnExactSessionEdges", fn := fun _ => fun
  | [d] => { results := [.lit (.bool false)], args := [d] }
  | _ => none }
def FnExactSessionEdgesWrongFalsely : Prop := fnExactSessionEdgesRow.holds Try.pinned (OpenSpec.ofChange fnExactSessionEdgesWrong)

/-- 'laws.FnExactOrdersValid': WHATEVER THE INPUT: true; the input reads as it did. -/
def fnExactOrdersValidSpec : ChangeSpec := { name := "fnExactOrdersValid", fn := fun _ => fun
  | [d1, d2] => { results := [.lit (.bool true)], args := [d1, d2] }
  | _ => none }
def fnExactOrdersValidRow : OpenClaim := { program := "ytknphamfindohaa", sum := "a17a43c389db07ebc3384c3e6f4e96b0dd677bec39622e90f4494a82eaa0deea", func := "loop.example/historychecker/laws.FnExactOrdersValid", spec := "fnExactOrdersValid", unfollowed := true, recurses := true, plainKeys := false, apart := false }
def FnExactOrdersValidSaid : Prop := fnExactOrdersValidRow.holds Try.pinned (OpenSpec.ofChange fnExactOrdersValidSpec)

/-- ITS FALSE NEIGHBOUR: 'it returns false'. Refute it at one input. -/
def fnExactOrdersValidWrong : ChangeSpec := { name := "fnExactOrdersValid", fn := fun _ => fun
  | [d1, d2] => { results := [.lit (.bool false)], args := [d1, d2] }
  | _ => none }
def FnExactOrdersValidWrongFalsely : Prop := fnExactOrdersValidRow.holds Try.pinned (OpenSpec.ofChange fnExactOrdersValidWrong)

/-- 'laws.FnExactSerialRight': WHATEVER THE INPUT: true; the input reads as it did. -/
def fnExactSerialRightSpec : ChangeSpec := { name := "fnExactSerialRight", fn := fun _ => fun
  | [d1, d2] => { results := [.lit (.bool true)], args := [d1, d2] }
  | _ => none }
def fnExactSerialRightRow : OpenClaim := { program := "ytknphamfindohaa", sum := "a17a43c389db07ebc3384c3e6f4e96b0dd677bec39622e90f4494a82eaa0deea", func := "loop.example/historychecker/laws.FnExactSerialRight", spec := "fnExactSerialRight", unfollowed := true, recurses := true, plainKeys := false, apart := false }
def FnExactSerialRightSaid : Prop := fnExactSerialRightRow.holds Try.pinned (OpenSpec.ofChange fnExactSerialRightSpec)

/-- ITS FALSE NEIGHBOUR: 'it returns false'. Refute it at one input. -/
def fnExactSerialRightWrong : ChangeSpec := { name := "fnExactSerialRight", fn := fun _ => fun
  | [d1, d2] => { results := [.lit (.bool false)], args := [d1, d2] }
  | _ => none }
def FnExactSerialRightWrongFalsely : Prop := fnExactSerialRightRow.holds Try.pinned (OpenSpec.ofChange fnExactSerialRightWrong)

/-- 'laws.FnExactSerialOrders': WHATEVER THE INPUT: true; the input reads as it did. -/
def fnExactSerialOrdersSpec : ChangeSpec := { name := "fnExactSerialOrders", fn := fun _ => fun
  | [d1, d2] => { results := [.lit (.bool true)], args := [d1, d2] }
  | _ => none }
def fnExactSerialOrdersRow : OpenClaim := { program := "ytknphamfindohaa", sum := "a17a43c389db07ebc3384c3e6f4e96b0dd677bec39622e90f4494a82eaa0deea", func := "loop.example/historychecker/laws.FnExactSerialOrders", spec := "fnExactSerialOrders", unfollowed := true, recurses := true, plainKeys := false, apart := false }
def FnExactSerialOrdersSaid : Prop := fnExactSerialOrdersRow.holds Try.pinned (OpenSpec.ofChange fnExactSerialOrdersSpec)

/-- ITS FALSE NEIGHBOUR: 'it returns false'. Refute it at one input. -/
def fnExactSerialOrdersWrong : ChangeSpec := { name := "fnExactSerialOrders", fn := fun _ => fun
  | [d1, d2] => { results := [.lit (.bool false)], args := [d1, d2] }
  | _ => none }
def FnExactSerialOrdersWrongFalsely : Prop := fnExactSerialOrdersRow.holds Try.pinned (OpenSpec.ofChange fnExactSerialOrdersWrong)

/- THE SECOND FORM. 'bulk': how many values and letters a reading holds, each counted each time it is reached (what is shared counts as often as it is met; a slice's spare places count too). A statement '..UptoSaid' is the law's where the arguments, and the package variables that the reading takes, are together of bulk at most 1048576: NARROWER than '..Said'. Prove '..Said' where nothing that the law and all that it calls make is longer than what came in: it says more and counts as full. Else prove '..UptoSaid'. A law counts once. -/
mutual
def uptoBulk {H : Type} : DataW H → Nat
  | .lit (.string bytes) => bytes.length + 1
  | .lit _ => 1
  | .nil => 1
  | .ptr d => uptoBulk d + 1
  | .slice elems spare => uptoBulkAll elems + uptoBulkAll spare + 1
  | .agg parts => uptoBulkAll parts + 1
  | .iface _ d => uptoBulk d + 1
  | .map entries => uptoBulkEntries entries + 1
  | .held _ => 1
def uptoBulkAll {H : Type} : List (DataW H) → Nat
  | [] => 0
  | d :: r => uptoBulk d + uptoBulkAll r
def uptoBulkEntries {H : Type} : List (Lit × DataW H) → Nat
  | [] => 0
  | x :: r => uptoBulkEntry x + uptoBulkEntries r
def uptoBulkEntry {H : Type} : Lit × DataW H → Nat
  | (.string bytes, d) => bytes.length + uptoBulk d + 1
  | (_, d) => uptoBulk d + 1
 end
def uptoSmall : (H : Type) → List (DataW H) → Bool := fun _ ds => decide (uptoBulkAll ds ≤ 1048576)
def OpenSpec.upto (s : _root_.Go.ChangeSpec) : _root_.Go.OpenSpec := { _root_.Go.OpenSpec.ofChange s with cond := some uptoSmall }

/-- 'laws.FnExactFirstOrders', WHERE WHAT IT READS IS OF BULK AT MOST 1048576: true; the input reads as it did. -/
def fnExactFirstOrdersUptoRow : OpenClaim := { program := "ytknphamfindohaa", sum := "a17a43c389db07ebc3384c3e6f4e96b0dd677bec39622e90f4494a82eaa0deea", func := "loop.example/historychecker/laws.FnExactFirstOrders", spec := "fnExactFirstOrders", unfollowed := true, recurses := true, plainKeys := false, apart := false, narrowed := true }
def FnExactFirstOrdersUptoSaid : Prop := fnExactFirstOrdersUptoRow.holds Try.pinned (OpenSpec.upto fnExactFirstOrdersSpec)

/-- 'laws.FnExactSessionEdges', WHERE WHAT IT READS IS OF BULK AT MOST 1048576: true; the input reads as it did. -/
def fnExactSessionEdgesUptoRow : OpenClaim := { program := "ytknphamfindohaa", sum := "a17a43c389db07ebc3384c3e6f4e96b0dd677bec39622e90f4494a82eaa0deea", func := "loop.example/historychecker/laws.FnExactSessionEdges", spec := "fnExactSessionEdges", unfollowed := true, recurses := true, plainKeys := false, apart := false, narrowed := true }
def FnExactSessionEdgesUptoSaid : Prop := fnExactSessionEdgesUptoRow.holds Try.pinned (OpenSpec.upto fnExactSessionEdgesSpec)

/-- 'laws.FnExactOrdersValid', WHERE WHAT IT READS IS OF BULK AT MOST 1048576: true; the input reads as it did. -/
def fnExactOrdersValidUptoRow : OpenClaim := { program := "ytknphamfindohaa", sum := "a17a43c389db07ebc3384c3e6f4e96b0dd677bec39622e90f4494a82eaa0deea", func := "loop.example/historychecker/laws.FnExactOrdersValid", spec := "fnExactOrdersValid", unfollowed := true, recurses := true, plainKeys := false, apart := false, narrowed := true }
def FnExactOrdersValidUptoSaid : Prop := fnExactOrdersValidUptoRow.holds Try.pinned (OpenSpec.upto fnExactOrdersValidSpec)

/-- 'laws.FnExactSerialRight', WHERE WHAT IT READS IS OF BULK AT MOST 1048576: true; the input reads as it did. -/
def fnExactSerialRightUptoRow : OpenClaim := { program := "ytknphamfindohaa", sum := "a17a43c389db07ebc3384c3e6f4e96b0dd677bec39622e90f4494a82eaa0deea", func := "loop.example/historychecker/laws.FnExactSerialRight", spec := "fnExactSerialRight", unfollowed := true, recurses := true, plainKeys := false, apart := false, narrowed := true }
def FnExactSerialRightUptoSaid : Prop := fnExactSerialRightUptoRow.holds Try.pinned (OpenSpec.upto fnExactSerialRightSpec)

/-- 'laws.FnExactSerialOrders', WHERE WHAT IT READS IS OF BULK AT MOST 1048576: true; the input reads as it did. -/
def fnExactSerialOrdersUptoRow : OpenClaim := { program := "ytknphamfindohaa", sum := "a17a43c389db07ebc3384c3e6f4e96b0dd677bec39622e90f4494a82eaa0deea", func := "loop.example/historychecker/laws.FnExactSerialOrders", spec := "fnExactSerialOrders", unfollowed := true, recurses := true, plainKeys := false, apart := false, narrowed := true }
def FnExactSerialOrdersUptoSaid : Prop := fnExactSerialOrdersUptoRow.holds Try.pinned (OpenSpec.upto fnExactSerialOrdersSpec)

end Rows
end Go.Proofs.Ytknphamfindohaa
