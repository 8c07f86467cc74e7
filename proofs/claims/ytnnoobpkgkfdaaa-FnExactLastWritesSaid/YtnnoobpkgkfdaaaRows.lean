/-
  No cell of these rows narrows 'for every input' (looked for: loops, veiled, ifaces, maps, wideKeys, modest, calm, conditions, laid).
  DERIVED. THE GIVEN ROWS OF THIS SEAT. 6 by the template 'for every input the law returns true; each argument reads behind the call as it read before'; 0 by the template 'total and deterministic' (their statements: YtnnoobpkgkfdaaaTotals.lean).
  GIVEN WITH THE SEED: the statements are not yours to turn. If you find one false, say at which input.
  Laid BY PROGRAM, IN A SANDBOX (cutbox-rows.mjs): the forced cells as the released guide's own fill.sh prints them over the translation 306516a6a7cebf4f… (all of the seat's roots in one cut). By AI agents, Wed Nov 11 2026. No macro, syntax, notation, axiom, sorry.
-/
import Derived.Test.YtnnoobpkgkfdaaaChecked
import GoSem.Claim
import GoSem.ClaimJoined
import GoSem.ClaimMapViews
import Derived.JoinedTies
import Derived.KernelRfl
namespace Go.Proofs.Ytnnoobpkgkfdaaa
/- THE CELL 'sum', in the pinned program and in every row, IS THE sha256 OF THE DUMP (.gsa) THAT YtnnoobpkgkfdaaaProg.lean LOADS. Nothing in Lean hashes anything: it is a label: what it is worth is what the hold of that sum in a sandbox is worth. -/
noncomputable def Try.pinned : Pinned := { name := "ytnnoobpkgkfdaaa", sum := "306516a6a7cebf4fd7614d44c1539821dbe74e5975217843cfb9a5f8380fb710", checked := Try.checked }
namespace Rows
def none {H : Type} : Left H := { results := [], args := [] }

/-- 'laws.FnExactConstants': WHATEVER THE INPUT: true; the input reads as it did. -/
def fnExactConstantsSpec : ChangeSpec := { name := "fnExactConstants", fn := fun _ => fun
  | [] => { results := [.lit (.bool true)], args := [] }
  | _ => none }
def fnExactConstantsRow : OpenClaim := { program := "ytnnoobpkgkfdaaa", sum := "306516a6a7cebf4fd7614d44c1539821dbe74e5975217843cfb9a5f8380fb710", func := "loop.example/historychecker/laws.FnExactConstants", spec := "fnExactConstants", apart := false }
def FnExactConstantsSaid : Prop := fnExactConstantsRow.holds Try.pinned (OpenSpec.ofChange fnExactConstantsSpec)

/-- ITS FALSE NEIGHBOUR: 'it returns false'. Refute it at one input. -/
def fnExactConstantsWrong : ChangeSpec := { name := "fnExactConstants", fn := fun _ => fun
  | [] => { results := [.lit (.bool false)], args := [] }
  | _ => none }
def FnExactConstantsWrongFalsely : Prop := fnExactConstantsRow.holds Try.pinned (OpenSpec.ofChange fnExactConstantsWrong)

/-- 'laws.FnExactOpValid': WHATEVER THE INPUT: true; the input reads as it did. -/
def fnExactOpValidSpec : ChangeSpec := { name := "fnExactOpValid", fn := fun _ => fun
  | [d] => { results := [.lit (.bool true)], args := [d] }
  | _ => none }
def fnExactOpValidRow : OpenClaim := { program := "ytnnoobpkgkfdaaa", sum := "306516a6a7cebf4fd7614d44c1539821dbe74e5975217843cfb9a5f8380fb710", func := "loop.example/historychecker/laws.FnExactOpValid", spec := "fnExactOpValid", apart := false }
def FnExactOpValidSaid : Prop := fnExactOpValidRow.holds Try.pinned (OpenSpec.ofChange fnExactOpValidSpec)

/-- ITS FALSE NEIGHBOUR: 'it returns false'. Refute it at one input. -/
def fnExactOpValidWrong : ChangeSpec := { name := "fnExactOpValid", fn := fun _ => fun
  | [d] => { results := [.lit (.bool false)], args := [d] }
  | _ => none }
def FnExactOpValidWrongFalsely : Prop := fnExactOpValidRow.holds Try.pinned (OpenSpec.ofChange fnExactOpValidWrong)

/-- 'laws.FnExactEdgesValid': WHATEVER THE INPUT: true; the input reads as it did. -/
def fnExactEdgesValidSpec : ChangeSpec := { name := "fnExactEdgesValid", fn := fun _ => fun
  | [d1, d2] => { results := [.lit (.bool true)], args := [d1, d2] }
  | _ => none }
def fnExactEdgesValidRow : OpenClaim := { program := "ytnnoobpkgkfdaaa", sum := "306516a6a7cebf4fd7614d44c1539821dbe74e5975217843cfb9a5f8380fb710", func := "loop.example/historychecker/laws.FnExactEdgesValid", spec := "fnExactEdgesValid", unfollowed := true, recurses := true, apart := false }
def FnExactEdgesValidSaid : Prop := fnExactEdgesValidRow.holds Try.pinned (OpenSpec.ofChange fnExactEdgesValidSpec)

/-- ITS FALSE NEIGHBOUR: 'it returns false'. Refute it at one input. -/
def fnExactEdgesValidWrong : ChangeSpec := { name := "fnExactEdgesValid", fn := fun _ => fun
  | [d1, d2] => { results := [.lit (.bool false)], args := [d1, d2] }
  | _ => none }
def FnExactEdgesValidWrongFalsely : Prop := fnExactEdgesValidRow.holds Try.pinned (OpenSpec.ofChange fnExactEdgesValidWrong)

/-- 'laws.FnExactTxnValid': WHATEVER THE INPUT: true; the input reads as it did. -/
def fnExactTxnValidSpec : ChangeSpec := { name := "fnExactTxnValid", fn := fun _ => fun
  | [d] => { results := [.lit (.bool true)], args := [d] }
  | _ => none }
def fnExactTxnValidRow : OpenClaim := { program := "ytnnoobpkgkfdaaa", sum := "306516a6a7cebf4fd7614d44c1539821dbe74e5975217843cfb9a5f8380fb710", func := "loop.example/historychecker/laws.FnExactTxnValid", spec := "fnExactTxnValid", unfollowed := true, recurses := true, apart := false }
def FnExactTxnValidSaid : Prop := fnExactTxnValidRow.holds Try.pinned (OpenSpec.ofChange fnExactTxnValidSpec)

/-- ITS FALSE NEIGHBOUR: 'it returns false'. Refute it at one input. -/
def fnExactTxnValidWrong : ChangeSpec := { name := "fnExactTxnValid", fn := fun _ => fun
  | [d] => { results := [.lit (.bool false)], args := [d] }
  | _ => none }
def FnExactTxnValidWrongFalsely : Prop := fnExactTxnValidRow.holds Try.pinned (OpenSpec.ofChange fnExactTxnValidWrong)

/-- 'laws.FnExactLastWrites': WHATEVER THE INPUT: true; the input reads as it did. -/
def fnExactLastWritesSpec : ChangeSpec := { name := "fnExactLastWrites", fn := fun _ => fun
  | [d] => { results := [.lit (.bool true)], args := [d] }
  | _ => none }
def fnExactLastWritesRow : OpenClaim := { program := "ytnnoobpkgkfdaaa", sum := "306516a6a7cebf4fd7614d44c1539821dbe74e5975217843cfb9a5f8380fb710", func := "loop.example/historychecker/laws.FnExactLastWrites", spec := "fnExactLastWrites", unfollowed := true, recurses := true, apart := false }
def FnExactLastWritesSaid : Prop := fnExactLastWritesRow.holds Try.pinned (OpenSpec.ofChange fnExactLastWritesSpec)

/-- ITS FALSE NEIGHBOUR: 'it returns false'. Refute it at one input. -/
def fnExactLastWritesWrong : ChangeSpec := { name := "fnExactLastWrites", fn := fun _ => fun
  | [d] => { results := [.lit (.bool false)], args := [d] }
  | _ => none }
def FnExactLastWritesWrongFalsely : Prop := fnExactLastWritesRow.holds Try.pinned (OpenSpec.ofChange fnExactLastWritesWrong)

/-- 'laws.FnExactFirstReads': WHATEVER THE INPUT: true; the input reads as it did. -/
def fnExactFirstReadsSpec : ChangeSpec := { name := "fnExactFirstReads", fn := fun _ => fun
  | [d] => { results := [.lit (.bool true)], args := [d] }
  | _ => none }
def fnExactFirstReadsRow : OpenClaim := { program := "ytnnoobpkgkfdaaa", sum := "306516a6a7cebf4fd7614d44c1539821dbe74e5975217843cfb9a5f8380fb710", func := "loop.example/historychecker/laws.FnExactFirstReads", spec := "fnExactFirstReads", unfollowed := true, recurses := true, apart := false }
def FnExactFirstReadsSaid : Prop := fnExactFirstReadsRow.holds Try.pinned (OpenSpec.ofChange fnExactFirstReadsSpec)

/-- ITS FALSE NEIGHBOUR: 'it returns false'. Refute it at one input. -/
def fnExactFirstReadsWrong : ChangeSpec := { name := "fnExactFirstReads", fn := fun _ => fun
  | [d] => { results := [.lit (.bool false)], args := [d] }
  | _ => none }
def FnExactFirstReadsWrongFalsely : Prop := fnExactFirstReadsRow.holds Try.pinned (OpenSpec.ofChange fnExactFirstReadsWrong)

/- THE SECOND FORM. 'bulk': how many values and letters a reading holds, each counted each time it is reached (what is shared counts as often as it is met; a slice's spare places count too). A statement '..UptoSaid' is the law's where the arguments, and the package variables that the reading takes, are together of bulk at most 1048576: NARROWER than '..Said'. Prove '..Said' where nothing that the law and all that it calls make is longer than what came in: it says more and counts as full. Else prove '..UptoSaid'. A law counts once. -/
mutual
def uptoBulk {H : Type} : DataW H → Nat
  | .lit (.string bytes) => bytes.length + 1
  | .lit _ => 1
  | .nil => 1
  | .ptr d => uptoBulk d + 1
  | .slice elems spare => uptoBulkAll elems + uptoBulkAll spare + 1
  | .agg parts => uptoBulkAll parts + 1
  | .iface _ d => uptoBulk d + 1
  | .map entries => uptoBulkEntries entries + 1
  | .held _ => 1
def uptoBulkAll {H : Type} : List (DataW H) → Nat
  | [] => 0
  | d :: r => uptoBulk d + uptoBulkAll r
def uptoBulkEntries {H : Type} : List (Lit × DataW H) → Nat
  | [] => 0
  | x :: r => uptoBulkEntry x + uptoBulkEntries r
def uptoBulkEntry {H : Type} : Lit × DataW H → Nat
  | (.string bytes, d) => bytes.length + uptoBulk d + 1
  | (_, d) => uptoBulk d + 1
 end
def uptoSmall : (H : Type) → List (DataW H) → Bool := fun _ ds => decide (uptoBulkAll ds ≤ 1048576)
def OpenSpec.upto (s : _root_.Go.ChangeSpec) : _root_.Go.OpenSpec := { _root_.Go.OpenSpec.ofChange s with cond := some uptoSmall }

/-- 'laws.FnExactConstants', WHERE WHAT IT READS IS OF BULK AT MOST 1048576: true; the input reads as it did. -/
def fnExactConstantsUptoRow : OpenClaim := { program := "ytnnoobpkgkfdaaa", sum := "306516a6a7cebf4fd7614d44c1539821dbe74e5975217843cfb9a5f8380fb710", func := "loop.example/historychecker/laws.FnExactConstants", spec := "fnExactConstants", apart := false, narrowed := true }
def FnExactConstantsUptoSaid : Prop := fnExactConstantsUptoRow.holds Try.pinned (OpenSpec.upto fnExactConstantsSpec)

/-- 'laws.FnExactOpValid', WHERE WHAT IT READS IS OF BULK AT MOST 1048576: true; the input reads as it did. -/
def fnExactOpValidUptoRow : OpenClaim := { program := "ytnnoobpkgkfdaaa", sum := "306516a6a7cebf4fd7614d44c1539821dbe74e5975217843cfb9a5f8380fb710", func := "loop.example/historychecker/laws.FnExactOpValid", spec := "fnExactOpValid", apart := false, narrowed := true }
def FnExactOpValidUptoSaid : Prop := fnExactOpValidUptoRow.holds Try.pinned (OpenSpec.upto fnExactOpValidSpec)

/-- 'laws.FnExactEdgesValid', WHERE WHAT IT READS IS OF BULK AT MOST 1048576: true; the input reads as it did. -/
def fnExactEdgesValidUptoRow : OpenClaim := { program := "ytnnoobpkgkfdaaa", sum := "306516a6a7cebf4fd7614d44c1539821dbe74e5975217843cfb9a5f8380fb710", func := "loop.example/historychecker/laws.FnExactEdgesValid", spec := "fnExactEdgesValid", unfollowed := true, recurses := true, apart := false, narrowed := true }
def FnExactEdgesValidUptoSaid : Prop := fnExactEdgesValidUptoRow.holds Try.pinned (OpenSpec.upto fnExactEdgesValidSpec)

/-- 'laws.FnExactTxnValid', WHERE WHAT IT READS IS OF BULK AT MOST 1048576: true; the input reads as it did. -/
def fnExactTxnValidUptoRow : OpenClaim := { program := "ytnnoobpkgkfdaaa", sum := "306516a6a7cebf4fd7614d44c1539821dbe74e5975217843cfb9a5f8380fb710", func := "loop.example/historychecker/laws.FnExactTxnValid", spec := "fnExactTxnValid", unfollowed := true, recurses := true, apart := false, narrowed := true }
def FnExactTxnValidUptoSaid : Prop := fnExactTxnValidUptoRow.holds Try.pinned (OpenSpec.upto fnExactTxnValidSpec)

/-- 'laws.FnExactLastWrites', WHERE WHAT IT READS IS OF BULK AT MOST 1048576: true; the input reads as it did. -/
def fnExactLastWritesUptoRow : OpenClaim := { program := "ytnnoobpkgkfdaaa", sum := "306516a6a7cebf4fd7614d44c1539821dbe74e5975217843cfb9a5f8380fb710", func := "loop.example/historychecker/laws.FnExactLastWrites", spec := "fnExactLastWrites", unfollowed := true, recurses := true, apart := false, narrowed := true }
def FnExactLastWritesUptoSaid : Prop := fnExactLastWritesUptoRow.holds Try.pinned (OpenSpec.upto fnExactLastWritesSpec)

/-- 'laws.FnExactFirstReads', WHERE WHAT IT READS IS OF BULK AT MOST 1048576: true; the input reads as it did. -/
def fnExactFirstReadsUptoRow : OpenClaim := { program := "ytnnoobpkgkfdaaa", sum := "306516a6a7cebf4fd7614d44c1539821dbe74e5975217843cfb9a5f8380fb710", func := "loop.example/historychecker/laws.FnExactFirstReads", spec := "fnExactFirstReads", unfollowed := true, recurses := true, apart := false, narrowed := true }
def FnExactFirstReadsUptoSaid : Prop := fnExactFirstReadsUptoRow.holds Try.pinned (OpenSpec.upto fnExactFirstReadsSpec)

end Rows
end Go.Proofs.Ytnnoobpkgkfdaaa
