/-
  No cell of these rows narrows 'for every input' (looked for: loops, veiled, ifaces, maps, wideKeys, modest, calm, conditions, laid).
  DERIVED. THE GIVEN ROWS OF THIS SEAT. 6 by the template 'for every input the law returns true; each argument reads behind the call as it read before'; 0 by the template 'total and deterministic' (their statements: YtknionbfdipmgaaTotals.lean).
  GIVEN WITH THE SEED: the statements are not yours to turn. If you find one false, say at which input.
  Laid BY PROGRAM, IN A SANDBOX (cutbox-rows.mjs): the forced cells as the released guide's own fill.sh prints them over the translation c59337e7c3370b26… (all of the seat's roots in one cut). By AI agents, Wed Nov 11 2026. No macro, syntax, notation, axiom, sorry.
-/
import Derived.Test.YtknionbfdipmgaaChecked
import GoSem.Claim
import GoSem.ClaimJoined
import GoSem.ClaimMapViews
import Derived.JoinedTies
import Derived.KernelRfl
namespace Go.Proofs.Ytknionbfdipmgaa
/- THE CELL 'sum', in the pinned program and in every row, IS THE sha256 OF THE DUMP (.gsa) THAT YtknionbfdipmgaaProg.lean LOADS. Nothing in Lean hashes anything: it is a label: what it is worth is what the hold of that sum in a sandbox is worth. -/
noncomputable def Try.pinned : Pinned := { name := "ytknionbfdipmgaa", sum := "c59337e7c3370b26be484ce6415d8cbb884cfe0b9f44efdb26f9aaef49ec95c0", checked := Try.checked }
namespace Rows
def none {H : Type} : Left H := { results := [], args := [] }

/-- 'laws.FnExactHistoryValid': WHATEVER THE INPUT: true; the input reads as it did. -/
def fnExactHistoryValidSpec : ChangeSpec := { name := "fnExactHistoryValid", fn := fun _ => fun
  | [d] => { results := [.lit (.bool true)], args := [d] }
  | _ => none }
def fnExactHistoryValidRow : OpenClaim := { program := "ytknionbfdipmgaa", sum := "c59337e7c3370b26be484ce6415d8cbb884cfe0b9f44efdb26f9aaef49ec95c0", func := "loop.example/historychecker/laws.FnExactHistoryValid", spec := "fnExactHistoryValid", unfollowed := true, recurses := true, plainKeys := false, apart := false }
def FnExactHistoryValidSaid : Prop := fnExactHistoryValidRow.holds Try.pinned (OpenSpec.ofChange fnExactHistoryValidSpec)

/-- ITS FALSE NEIGHBOUR: 'it returns false'. Refute it at one input. -/
def fnExactHistoryValidWrong : ChangeSpec := { name := "fnExactHistoryValid", fn := fun _ => fun
  | [d] => { results := [.lit (.bool false)], args := [d] }
  | _ => none }
def FnExactHistoryValidWrongFalsely : Prop := fnExactHistoryValidRow.holds Try.pinned (OpenSpec.ofChange fnExactHistoryValidWrong)

/-- 'laws.FnExactWriterOf': WHATEVER THE INPUT: true; the input reads as it did. -/
def fnExactWriterOfSpec : ChangeSpec := { name := "fnExactWriterOf", fn := fun _ => fun
  | [d1, d2, d3] => { results := [.lit (.bool true)], args := [d1, d2, d3] }
  | _ => none }
def fnExactWriterOfRow : OpenClaim := { program := "ytknionbfdipmgaa", sum := "c59337e7c3370b26be484ce6415d8cbb884cfe0b9f44efdb26f9aaef49ec95c0", func := "loop.example/historychecker/laws.FnExactWriterOf", spec := "fnExactWriterOf", unfollowed := true, recurses := true, plainKeys := false, apart := false }
def FnExactWriterOfSaid : Prop := fnExactWriterOfRow.holds Try.pinned (OpenSpec.ofChange fnExactWriterOfSpec)

/-- ITS FALSE NEIGHBOUR: 'it returns false'. Refute it at one input. -/
def fnExactWriterOfWrong : ChangeSpec := { name := "fnExactWriterOf", fn := fun _ => fun
  | [d1, d2, d3] => { results := [.lit (.bool false)], args := [d1, d2, d3] }
  | _ => none }
def FnExactWriterOfWrongFalsely : Prop := fnExactWriterOfRow.holds Try.pinned (OpenSpec.ofChange fnExactWriterOfWrong)

/-- 'laws.FnExactDoneTxns': WHATEVER THE INPUT: true; the input reads as it did. -/
def fnExactDoneTxnsSpec : ChangeSpec := { name := "fnExactDoneTxns", fn := fun _ => fun
  | [d] => { results := [.lit (.bool true)], args := [d] }
  | _ => none }
def fnExactDoneTxnsRow : OpenClaim := { program := "ytknionbfdipmgaa", sum := "c59337e7c3370b26be484ce6415d8cbb884cfe0b9f44efdb26f9aaef49ec95c0", func := "loop.example/historychecker/laws.FnExactDoneTxns", spec := "fnExactDoneTxns", unfollowed := true, recurses := true, plainKeys := false, apart := false }
def FnExactDoneTxnsSaid : Prop := fnExactDoneTxnsRow.holds Try.pinned (OpenSpec.ofChange fnExactDoneTxnsSpec)

/-- ITS FALSE NEIGHBOUR: 'it returns false'. Refute it at one input. -/
def fnExactDoneTxnsWrong : ChangeSpec := { name := "fnExactDoneTxns", fn := fun _ => fun
  | [d] => { results := [.lit (.bool false)], args := [d] }
  | _ => none }
def FnExactDoneTxnsWrongFalsely : Prop := fnExactDoneTxnsRow.holds Try.pinned (OpenSpec.ofChange fnExactDoneTxnsWrong)

/-- 'laws.FnExactLastValue': WHATEVER THE INPUT: true; the input reads as it did. -/
def fnExactLastValueSpec : ChangeSpec := { name := "fnExactLastValue", fn := fun _ => fun
  | [d1, d2, d3] => { results := [.lit (.bool true)], args := [d1, d2, d3] }
  | _ => none }
def fnExactLastValueRow : OpenClaim := { program := "ytknionbfdipmgaa", sum := "c59337e7c3370b26be484ce6415d8cbb884cfe0b9f44efdb26f9aaef49ec95c0", func := "loop.example/historychecker/laws.FnExactLastValue", spec := "fnExactLastValue", unfollowed := true, recurses := true, plainKeys := false, apart := false }
def FnExactLastValueSaid : Prop := fnExactLastValueRow.holds Try.pinned (OpenSpec.ofChange fnExactLastValueSpec)

/-- ITS FALSE NEIGHBOUR: 'it returns false'. Refute it at one input. -/
def fnExactLastValueWrong : ChangeSpec := { name := "fnExactLastValue", fn := fun _ => fun
  | [d1, d2, d3] => { results := [.lit (.bool false)], args := [d1, d2, d3] }
  | _ => none }
def FnExactLastValueWrongFalsely : Prop := fnExactLastValueRow.holds Try.pinned (OpenSpec.ofChange fnExactLastValueWrong)

/-- 'laws.FnExactOwnErrors': WHATEVER THE INPUT: true; the input reads as it did. -/
def fnExactOwnErrorsSpec : ChangeSpec := { name := "fnExactOwnErrors", fn := fun _ => fun
  | [d] => { results := [.lit (.bool true)], args := [d] }
  | _ => none }
def fnExactOwnErrorsRow : OpenClaim := { program := "ytknionbfdipmgaa", sum := "c59337e7c3370b26be484ce6415d8cbb884cfe0b9f44efdb26f9aaef49ec95c0", func := "loop.example/historychecker/laws.FnExactOwnErrors", spec := "fnExactOwnErrors", unfollowed := true, recurses := true, plainKeys := false, apart := false }
def FnExactOwnErrorsSaid : Prop := fnExactOwnErrorsRow.holds Try.pinned (OpenSpec.ofChange fnExactOwnErrorsSpec)

/-- ITS FALSE NEIGHBOUR: 'it returns false'. Refute it at one input. -/
def fnExactOwnErrorsWrong : ChangeSpec := { name := "fnExactOwnErrors", fn := fun _ => fun
  | [d] => { results := [.lit (.bool false)], args := [d] }
  | _ => none }
def FnExactOwnErrorsWrongFalsely : Prop := fnExactOwnErrorsRow.holds Try.pinned (OpenSpec.ofChange fnExactOwnErrorsWrong)

/-- 'laws.FnExactInstalled': WHATEVER THE INPUT: true; the input reads as it did. -/
def fnExactInstalledSpec : ChangeSpec := { name := "fnExactInstalled", fn := fun _ => fun
  | [d1, d2] => { results := [.lit (.bool true)], args := [d1, d2] }
  | _ => none }
def fnExactInstalledRow : OpenClaim := { program := "ytknionbfdipmgaa", sum := "c59337e7c3370b26be484ce6415d8cbb884cfe0b9f44efdb26f9aaef49ec95c0", func := "loop.example/historychecker/laws.FnExactInstalled", spec := "fnExactInstalled", unfollowed := true, recurses := true, plainKeys := false, apart := false }
def FnExactInstalledSaid : Prop := fnExactInstalledRow.holds Try.pinned (OpenSpec.ofChange fnExactInstalledSpec)

/-- ITS FALSE NEIGHBOUR: 'it returns false'. Refute it at one input. -/
def fnExactInstalledWrong : ChangeSpec := { name := "fnExactInstalled", fn := fun _ => fun
  | [d1, d2] => { results := [.lit (.bool false)], args := [d1, d2] }
  | _ => none }
def FnExactInstalledWrongFalsely : Prop := fnExactInstalledRow.holds Try.pinned (OpenSpec.ofChange fnExactInstalledWrong)

/- THE SECOND FORM. 'bulk': how many values and letters a reading holds, each counted each time it is reached (what is shared counts as often as it is met; a slice's spare places count too). A statement '..UptoSaid' is the law's where the arguments, and the package variables that the reading takes, are together of bulk at most 1048576: NARROWER than '..Said'. Prove '..Said' where nothing that the law and all that it calls make is longer than what came in: it says more and counts as full. Else prove '..UptoSaid'. A law counts once. -/
mutual
def uptoBulk {H : Type} : DataW H → Nat
  | .lit (.string bytes) => bytes.length + 1
  | .lit _ => 1
  | .nil => 1
  | .ptr d => uptoBulk d + 1
  | .slice elems spare => uptoBulkAll elems + uptoBulkAll spare + 1
  | .agg parts => uptoBulkAll parts + 1
  | .iface _ d => uptoBulk d + 1
  | .map entries => uptoBulkEntries entries + 1
  | .held _ => 1
def uptoBulkAll {H : Type} : List (DataW H) → Nat
  | [] => 0
  | d :: r => uptoBulk d + uptoBulkAll r
def uptoBulkEntries {H : Type} : List (Lit × DataW H) → Nat
  | [] => 0
  | x :: r => uptoBulkEntry x + uptoBulkEntries r
def uptoBulkEntry {H : Type} : Lit × DataW H → Nat
  | (.string bytes, d) => bytes.length + uptoBulk d + 1
  | (_, d) => uptoBulk d + 1
 end
def uptoSmall : (H : Type) → List (DataW H) → Bool := fun _ ds => decide (uptoBulkAll ds ≤ 1048576)
def OpenSpec.upto (s : _root_.Go.ChangeSpec) : _root_.Go.OpenSpec := { _root_.Go.OpenSpec.ofChange s with cond := some uptoSmall }

/-- 'laws.FnExactHistoryValid', WHERE WHAT IT READS IS OF BULK AT MOST 1048576: true; the input reads as it did. -/
def fnExactHistoryValidUptoRow : OpenClaim := { program := "ytknionbfdipmgaa", sum := "c59337e7c3370b26be484ce6415d8cbb884cfe0b9f44efdb26f9aaef49ec95c0", func := "loop.example/historychecker/laws.FnExactHistoryValid", spec := "fnExactHistoryValid", unfollowed := true, recurses := true, plainKeys := false, apart := false, narrowed := true }
def FnExactHistoryValidUptoSaid : Prop := fnExactHistoryValidUptoRow.holds Try.pinned (OpenSpec.upto fnExactHistoryValidSpec)

/-- 'laws.FnExactWriterOf', WHERE WHAT IT READS IS OF BULK AT MOST 1048576: true; the input reads as it did. -/
def fnExactWriterOfUptoRow : OpenClaim := { program := "ytknionbfdipmgaa", sum := "c59337e7c3370b26be484ce6415d8cbb884cfe0b9f44efdb26f9aaef49ec95c0", func := "loop.example/historychecker/laws.FnExactWriterOf", spec := "fnExactWriterOf", unfollowed := true, recurses := true, plainKeys := false, apart := false, narrowed := true }
def FnExactWriterOfUptoSaid : Prop := fnExactWriterOfUptoRow.holds Try.pinned (OpenSpec.upto fnExactWriterOfSpec)

/-- 'laws.FnExactDoneTxns', WHERE WHAT IT READS IS OF BULK AT MOST 1048576: true; the input reads as it did. -/
def fnExactDoneTxnsUptoRow : OpenClaim := { program := "ytknionbfdipmgaa", sum := "c59337e7c3370b26be484ce6415d8cbb884cfe0b9f44efdb26f9aaef49ec95c0", func := "loop.example/historychecker/laws.FnExactDoneTxns", spec := "fnExactDoneTxns", unfollowed := true, recurses := true, plainKeys := false, apart := false, narrowed := true }
def FnExactDoneTxnsUptoSaid : Prop := fnExactDoneTxnsUptoRow.holds Try.pinned (OpenSpec.upto fnExactDoneTxnsSpec)

/-- 'laws.FnExactLastValue', WHERE WHAT IT READS IS OF BULK AT MOST 1048576: true; the input reads as it did. -/
def fnExactLastValueUptoRow : OpenClaim := { program := "ytknionbfdipmgaa", sum := "c59337e7c3370b26be484ce6415d8cbb884cfe0b9f44efdb26f9aaef49ec95c0", func := "loop.example/historychecker/laws.FnExactLastValue", spec := "fnExactLastValue", unfollowed := true, recurses := true, plainKeys := false, apart := false, narrowed := true }
def FnExactLastValueUptoSaid : Prop := fnExactLastValueUptoRow.holds Try.pinned (OpenSpec.upto fnExactLastValueSpec)

/-- 'laws.FnExactOwnErrors', WHERE WHAT IT READS IS OF BULK AT MOST 1048576: true; the input reads as it did. -/
def fnExactOwnErrorsUptoRow : OpenClaim := { program := "ytknionbfdipmgaa", sum := "c59337e7c3370b26be484ce6415d8cbb884cfe0b9f44efdb26f9aaef49ec95c0", func := "loop.example/historychecker/laws.FnExactOwnErrors", spec := "fnExactOwnErrors", unfollowed := true, recurses := true, plainKeys := false, apart := false, narrowed := true }
def FnExactOwnErrorsUptoSaid : Prop := fnExactOwnErrorsUptoRow.holds Try.pinned (OpenSpec.upto fnExactOwnErrorsSpec)

/-- 'laws.FnExactInstalled', WHERE WHAT IT READS IS OF BULK AT MOST 1048576: true; the input reads as it did. -/
def fnExactInstalledUptoRow : OpenClaim := { program := "ytknionbfdipmgaa", sum := "c59337e7c3370b26be484ce6415d8cbb884cfe0b9f44efdb26f9aaef49ec95c0", func := "loop.example/historychecker/laws.FnExactInstalled", spec := "fnExactInstalled", unfollowed := true, recurses := true, plainKeys := false, apart := false, narrowed := true }
def FnExactInstalledUptoSaid : Prop := fnExactInstalledUptoRow.holds Try.pinned (OpenSpec.upto fnExactInstalledSpec)

end Rows
end Go.Proofs.Ytknionbfdipmgaa
