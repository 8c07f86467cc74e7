/-
  NARROWER THAN 'FOR EVERY INPUT', by the rows' own cells (each row's printed sentence says how): FnOpValid: laid · FnTxnValid: laid · FnLastWrites: laid · FnFirstReads: laid · FnHistoryValid: laid · FnWriterOf: laid · FnDoneTxns: laid · FnOwnErrors: laid · FnLastValue: laid · FnInstalled: laid.
  DERIVED. THE GIVEN ROWS OF THIS SEAT. 10 by the template 'for every input the law returns true; each argument reads behind the call as it read before'; 0 by the template 'total and deterministic' (their statements: YtagmlbhmojgnlaaDoorTotals.lean).
  GIVEN WITH THE SEED: the statements are not yours to turn. If you find one false, say at which input.
  Laid BY PROGRAM, IN A SANDBOX (cutbox-rows.mjs): the forced cells as the released guide's own fill.sh prints them over the translation e60bffa8f96c0f14… (all of the seat's roots in one cut). By AI agents, Wed Nov 11 2026. No macro, syntax, notation, axiom, sorry.
-/
import Derived.Test.YtagmlbhmojgnlaaDoorChecked
import GoSem.Claim
import GoSem.ClaimJoined
import GoSem.ClaimMapViews
import Derived.JoinedTies
import Derived.KernelRfl
namespace Go.Proofs.YtagmlbhmojgnlaaDoor
/- THE CELL 'sum', in the pinned program and in every row, IS THE sha256 OF THE DUMP (.gsa) THAT YtagmlbhmojgnlaaDoorProg.lean LOADS. Nothing in Lean hashes anything: it is a label: what it is worth is what the hold of that sum in a sandbox is worth. -/
noncomputable def Tryd.pinned : Pinned := { name := "ytagmlbhmojgnlaadoor", sum := "e60bffa8f96c0f14f5fcc8f08762cb94200c481b4867adee5fc7cb66fcae1ffb", checked := Tryd.checked }
namespace Rows
def none {H : Type} : Left H := { results := [], args := [] }

/- WHAT THE LISTED PACKAGE-LEVEL VARIABLES READ AS WHEN THE CALL BEGINS. Each datum BY PROGRAM (the guide's laid-datum.mjs) off the statement by which the dump's own 'gosem.cut.vars' lays the variable. In a bare row this is a premise. The card (YtagmlbhmojgnlaaDoorCards.lean) ties it to the program's text. -/
def laid_math_bits_deBruijn32tab {H : Type} : DataW H := .agg [.lit (.int .u8 0), .lit (.int .u8 1), .lit (.int .u8 28), .lit (.int .u8 2), .lit (.int .u8 29), .lit (.int .u8 14), .lit (.int .u8 24), .lit (.int .u8 3), .lit (.int .u8 30), .lit (.int .u8 22), .lit (.int .u8 20), .lit (.int .u8 15), .lit (.int .u8 25), .lit (.int .u8 17), .lit (.int .u8 4), .lit (.int .u8 8), .lit (.int .u8 31), .lit (.int .u8 27), .lit (.int .u8 13), .lit (.int .u8 23), .lit (.int .u8 21), .lit (.int .u8 19), .lit (.int .u8 16), .lit (.int .u8 7), .lit (.int .u8 26), .lit (.int .u8 12), .lit (.int .u8 18), .lit (.int .u8 6), .lit (.int .u8 11), .lit (.int .u8 5), .lit (.int .u8 10), .lit (.int .u8 9)]
def laid_math_bits_deBruijn64tab {H : Type} : DataW H := .agg [.lit (.int .u8 0), .lit (.int .u8 1), .lit (.int .u8 56), .lit (.int .u8 2), .lit (.int .u8 57), .lit (.int .u8 49), .lit (.int .u8 28), .lit (.int .u8 3), .lit (.int .u8 61), .lit (.int .u8 58), .lit (.int .u8 42), .lit (.int .u8 50), .lit (.int .u8 38), .lit (.int .u8 29), .lit (.int .u8 17), .lit (.int .u8 4), .lit (.int .u8 62), .lit (.int .u8 47), .lit (.int .u8 59), .lit (.int .u8 36), .lit (.int .u8 45), .lit (.int .u8 43), .lit (.int .u8 51), .lit (.int .u8 22), .lit (.int .u8 53), .lit (.int .u8 39), .lit (.int .u8 33), .lit (.int .u8 30), .lit (.int .u8 24), .lit (.int .u8 18), .lit (.int .u8 12), .lit (.int .u8 5), .lit (.int .u8 63), .lit (.int .u8 55), .lit (.int .u8 48), .lit (.int .u8 27), .lit (.int .u8 60), .lit (.int .u8 41), .lit (.int .u8 37), .lit (.int .u8 16), .lit (.int .u8 46), .lit (.int .u8 35), .lit (.int .u8 44), .lit (.int .u8 21), .lit (.int .u8 52), .lit (.int .u8 32), .lit (.int .u8 23), .lit (.int .u8 11), .lit (.int .u8 54), .lit (.int .u8 26), .lit (.int .u8 40), .lit (.int .u8 15), .lit (.int .u8 34), .lit (.int .u8 20), .lit (.int .u8 31), .lit (.int .u8 10), .lit (.int .u8 25), .lit (.int .u8 14), .lit (.int .u8 19), .lit (.int .u8 9), .lit (.int .u8 13), .lit (.int .u8 8), .lit (.int .u8 7), .lit (.int .u8 6)]
def laid_internal_strconv_uint64pow10 {H : Type} : DataW H := .agg [.lit (.int .u64 1), .lit (.int .u64 10), .lit (.int .u64 100), .lit (.int .u64 1000), .lit (.int .u64 10000), .lit (.int .u64 100000), .lit (.int .u64 1000000), .lit (.int .u64 10000000), .lit (.int .u64 100000000), .lit (.int .u64 1000000000), .lit (.int .u64 10000000000), .lit (.int .u64 100000000000), .lit (.int .u64 1000000000000), .lit (.int .u64 10000000000000), .lit (.int .u64 100000000000000), .lit (.int .u64 1000000000000000), .lit (.int .u64 10000000000000000), .lit (.int .u64 100000000000000000), .lit (.int .u64 1000000000000000000), .lit (.int .u64 10000000000000000000)]

/-- 'laws.FnOpValid': WHATEVER THE INPUT: true; the input reads as it did. -/
def fnOpValidSpec : ChangeSpec := { name := "fnOpValid", fn := fun _ => fun
  | [d] => { results := [.lit (.bool true)], args := [d] }
  | _ => none }
def fnOpValidRow : OpenClaim := { program := "ytagmlbhmojgnlaadoor", sum := "e60bffa8f96c0f14f5fcc8f08762cb94200c481b4867adee5fc7cb66fcae1ffb", func := "loop.example/historychecker/laws.FnOpValid", spec := "fnOpValid", named := ["internal/strconv.uint64pow10", "math/bits.deBruijn32tab", "math/bits.deBruijn64tab"], plainKeys := false, apart := false, laid := [("math/bits.deBruijn32tab", laid_math_bits_deBruijn32tab), ("math/bits.deBruijn64tab", laid_math_bits_deBruijn64tab), ("internal/strconv.uint64pow10", laid_internal_strconv_uint64pow10)] }
def FnOpValidSaid : Prop := fnOpValidRow.holds Tryd.pinned (OpenSpec.ofChange fnOpValidSpec)

/-- ITS FALSE NEIGHBOUR: 'it returns false'. Refute it at one input. -/
def fnOpValidWrong : ChangeSpec := { name := "fnOpValid", fn := fun _ => fun
  | [d] => { results := [.lit (.bool false)], args := [d] }
  | _ => none }
def FnOpValidWrongFalsely : Prop := fnOpValidRow.holds Tryd.pinned (OpenSpec.ofChange fnOpValidWrong)

/-- 'laws.FnTxnValid': WHATEVER THE INPUT: true; the input reads as it did. -/
def fnTxnValidSpec : ChangeSpec := { name := "fnTxnValid", fn := fun _ => fun
  | [d] => { results := [.lit (.bool true)], args := [d] }
  | _ => none }
def fnTxnValidRow : OpenClaim := { program := "ytagmlbhmojgnlaadoor", sum := "e60bffa8f96c0f14f5fcc8f08762cb94200c481b4867adee5fc7cb66fcae1ffb", func := "loop.example/historychecker/laws.FnTxnValid", spec := "fnTxnValid", unfollowed := true, recurses := true, named := ["internal/strconv.uint64pow10", "math/bits.deBruijn32tab", "math/bits.deBruijn64tab"], plainKeys := false, apart := false, laid := [("math/bits.deBruijn32tab", laid_math_bits_deBruijn32tab), ("math/bits.deBruijn64tab", laid_math_bits_deBruijn64tab), ("internal/strconv.uint64pow10", laid_internal_strconv_uint64pow10)] }
def FnTxnValidSaid : Prop := fnTxnValidRow.holds Tryd.pinned (OpenSpec.ofChange fnTxnValidSpec)

/-- ITS FALSE NEIGHBOUR: 'it returns false'. Refute it at one input. -/
def fnTxnValidWrong : ChangeSpec := { name := "fnTxnValid", fn := fun _ => fun
  | [d] => { results := [.lit (.bool false)], args := [d] }
  | _ => none }
def FnTxnValidWrongFalsely : Prop := fnTxnValidRow.holds Tryd.pinned (OpenSpec.ofChange fnTxnValidWrong)

/-- 'laws.FnLastWrites': WHATEVER THE INPUT: true; the input reads as it did. -/
def fnLastWritesSpec : ChangeSpec := { name := "fnLastWrites", fn := fun _ => fun
  | [d] => { results := [.lit (.bool true)], args := [d] }
  | _ => none }
def fnLastWritesRow : OpenClaim := { program := "ytagmlbhmojgnlaadoor", sum := "e60bffa8f96c0f14f5fcc8f08762cb94200c481b4867adee5fc7cb66fcae1ffb", func := "loop.example/historychecker/laws.FnLastWrites", spec := "fnLastWrites", unfollowed := true, recurses := true, named := ["internal/strconv.uint64pow10", "math/bits.deBruijn32tab", "math/bits.deBruijn64tab"], plainKeys := false, apart := false, laid := [("math/bits.deBruijn32tab", laid_math_bits_deBruijn32tab), ("math/bits.deBruijn64tab", laid_math_bits_deBruijn64tab), ("internal/strconv.uint64pow10", laid_internal_strconv_uint64pow10)] }
def FnLastWritesSaid : Prop := fnLastWritesRow.holds Tryd.pinned (OpenSpec.ofChange fnLastWritesSpec)

/-- ITS FALSE NEIGHBOUR: 'it returns false'. Refute it at one input. -/
def fnLastWritesWrong : ChangeSpec := { name := "fnLastWrites", fn := fun _ => fun
  | [d] => { results := [.lit (.bool false)], args := [d] }
  | _ => none }
def FnLastWritesWrongFalsely : Prop := fnLastWritesRow.holds Tryd.pinned (OpenSpec.ofChange fnLastWritesWrong)

/-- 'laws.FnFirstReads': WHATEVER THE INPUT: true; the input reads as it did. -/
def fnFirstReadsSpec : ChangeSpec := { name := "fnFirstReads", fn := fun _ => fun
  | [d] => { results := [.lit (.bool true)], args := [d] }
  | _ => none }
def fnFirstReadsRow : OpenClaim := { program := "ytagmlbhmojgnlaadoor", sum := "e60bffa8f96c0f14f5fcc8f08762cb94200c481b4867adee5fc7cb66fcae1ffb", func := "loop.example/historychecker/laws.FnFirstReads", spec := "fnFirstReads", unfollowed := true, recurses := true, named := ["internal/strconv.uint64pow10", "math/bits.deBruijn32tab", "math/bits.deBruijn64tab"], plainKeys := false, apart := false, laid := [("math/bits.deBruijn32tab", laid_math_bits_deBruijn32tab), ("math/bits.deBruijn64tab", laid_math_bits_deBruijn64tab), ("internal/strconv.uint64pow10", laid_internal_strconv_uint64pow10)] }
def FnFirstReadsSaid : Prop := fnFirstReadsRow.holds Tryd.pinned (OpenSpec.ofChange fnFirstReadsSpec)

/-- ITS FALSE NEIGHBOUR: 'it returns false'. Refute it at one input. -/
def fnFirstReadsWrong : ChangeSpec := { name := "fnFirstReads", fn := fun _ => fun
  | [d] => { results := [.lit (.bool false)], args := [d] }
  | _ => none }
def FnFirstReadsWrongFalsely : Prop := fnFirstReadsRow.holds Tryd.pinned (OpenSpec.ofChange fnFirstReadsWrong)

/-- 'laws.FnHistoryValid': WHATEVER THE INPUT: true; the input reads as it did. -/
def fnHistoryValidSpec : ChangeSpec := { name := "fnHistoryValid", fn := fun _ => fun
  | [d] => { results := [.lit (.bool true)], args := [d] }
  | _ => none }
def fnHistoryValidRow : OpenClaim := { program := "ytagmlbhmojgnlaadoor", sum := "e60bffa8f96c0f14f5fcc8f08762cb94200c481b4867adee5fc7cb66fcae1ffb", func := "loop.example/historychecker/laws.FnHistoryValid", spec := "fnHistoryValid", unfollowed := true, recurses := true, named := ["internal/strconv.uint64pow10", "math/bits.deBruijn32tab", "math/bits.deBruijn64tab"], plainKeys := false, apart := false, laid := [("math/bits.deBruijn32tab", laid_math_bits_deBruijn32tab), ("math/bits.deBruijn64tab", laid_math_bits_deBruijn64tab), ("internal/strconv.uint64pow10", laid_internal_strconv_uint64pow10)] }
def FnHistoryValidSaid : Prop := fnHistoryValidRow.holds Tryd.pinned (OpenSpec.ofChange fnHistoryValidSpec)

/-- ITS FALSE NEIGHBOUR: 'it returns false'. Refute it at one input. -/
def fnHistoryValidWrong : ChangeSpec := { name := "fnHistoryValid", fn := fun _ => fun
  | [d] => { results := [.lit (.bool false)], args := [d] }
  | _ => none }
def FnHistoryValidWrongFalsely : Prop := fnHistoryValidRow.holds Tryd.pinned (OpenSpec.ofChange fnHistoryValidWrong)

/-- 'laws.FnWriterOf': WHATEVER THE INPUT: true; the input reads as it did. -/
def fnWriterOfSpec : ChangeSpec := { name := "fnWriterOf", fn := fun _ => fun
  | [d] => { results := [.lit (.bool true)], args := [d] }
  | _ => none }
def fnWriterOfRow : OpenClaim := { program := "ytagmlbhmojgnlaadoor", sum := "e60bffa8f96c0f14f5fcc8f08762cb94200c481b4867adee5fc7cb66fcae1ffb", func := "loop.example/historychecker/laws.FnWriterOf", spec := "fnWriterOf", unfollowed := true, recurses := true, named := ["internal/strconv.uint64pow10", "math/bits.deBruijn32tab", "math/bits.deBruijn64tab"], plainKeys := false, apart := false, laid := [("math/bits.deBruijn32tab", laid_math_bits_deBruijn32tab), ("math/bits.deBruijn64tab", laid_math_bits_deBruijn64tab), ("internal/strconv.uint64pow10", laid_internal_strconv_uint64pow10)] }
def FnWriterOfSaid : Prop := fnWriterOfRow.holds Tryd.pinned (OpenSpec.ofChange fnWriterOfSpec)

/-- ITS FALSE NEIGHBOUR: 'it returns false'. Refute it at one input. -/
def fnWriterOfWrong : ChangeSpec := { name := "fnWriterOf", fn := fun _ => fun
  | [d] => { results := [.lit (.bool false)], args := [d] }
  | _ => none }
def FnWriterOfWrongFalsely : Prop := fnWriterOfRow.holds Tryd.pinned (OpenSpec.ofChange fnWriterOfWrong)

/-- 'laws.FnDoneTxns': WHATEVER THE INPUT: true; the input reads as it did. -/
def fnDoneTxnsSpec : ChangeSpec := { name := "fnDoneTxns", fn := fun _ => fun
  | [d] => { results := [.lit (.bool true)], args := [d] }
  | _ => none }
def fnDoneTxnsRow : OpenClaim := { program := "ytagmlbhmojgnlaadoor", sum := "e60bffa8f96c0f14f5fcc8f08762cb94200c481b4867adee5fc7cb66fcae1ffb", func := "loop.example/historychecker/laws.FnDoneTxns", spec := "fnDoneTxns", unfollowed := true, recurses := true, named := ["internal/strconv.uint64pow10", "math/bits.deBruijn32tab", "math/bits.deBruijn64tab"], plainKeys := false, apart := false, laid := [("math/bits.deBruijn32tab", laid_math_bits_deBruijn32tab), ("math/bits.deBruijn64tab", laid_math_bits_deBruijn64tab), ("internal/strconv.uint64pow10", laid_internal_strconv_uint64pow10)] }
def FnDoneTxnsSaid : Prop := fnDoneTxnsRow.holds Tryd.pinned (OpenSpec.ofChange fnDoneTxnsSpec)

/-- ITS FALSE NEIGHBOUR: 'it returns false'. Refute it at one input. -/
def fnDoneTxnsWrong : ChangeSpec := { name := "fnDoneTxns", fn := fun _ => fun
  | [d] => { results := [.lit (.bool false)], args := [d] }
  | _ => none }
def FnDoneTxnsWrongFalsely : Prop := fnDoneTxnsRow.holds Tryd.pinned (OpenSpec.ofChange fnDoneTxnsWrong)

/-- 'laws.FnOwnErrors': WHATEVER THE INPUT: true; the input reads as it did. -/
def fnOwnErrorsSpec : ChangeSpec := { name := "fnOwnErrors", fn := fun _ => fun
  | [d] => { results := [.lit (.bool true)], args := [d] }
  | _ => none }
def fnOwnErrorsRow : OpenClaim := { program := "ytagmlbhmojgnlaadoor", sum := "e60bffa8f96c0f14f5fcc8f08762cb94200c481b4867adee5fc7cb66fcae1ffb", func := "loop.example/historychecker/laws.FnOwnErrors", spec := "fnOwnErrors", unfollowed := true, recurses := true, named := ["internal/strconv.uint64pow10", "math/bits.deBruijn32tab", "math/bits.deBruijn64tab"], plainKeys := false, apart := false, laid := [("math/bits.deBruijn32tab", laid_math_bits_deBruijn32tab), ("math/bits.deBruijn64tab", laid_math_bits_deBruijn64tab), ("internal/strconv.uint64pow10", laid_internal_strconv_uint64pow10)] }
def FnOwnErrorsSaid : Prop := fnOwnErrorsRow.holds Tryd.pinned (OpenSpec.ofChange fnOwnErrorsSpec)

/-- ITS FALSE NEIGHBOUR: 'it returns false'. Refute it at one input. -/
def fnOwnErrorsWrong : ChangeSpec := { name := "fnOwnErrors", fn := fun _ => fun
  | [d] => { results := [.lit (.bool false)], args := [d] }
  | _ => none }
def FnOwnErrorsWrongFalsely : Prop := fnOwnErrorsRow.holds Tryd.pinned (OpenSpec.ofChange fnOwnErrorsWrong)

/-- 'laws.FnLastValue': WHATEVER THE INPUT: true; the input reads as it did. -/
def fnLastValueSpec : ChangeSpec := { name := "fnLastValue", fn := fun _ => fun
  | [d] => { results := [.lit (.bool true)], args := [d] }
  | _ => none }
def fnLastValueRow : OpenClaim := { program := "ytagmlbhmojgnlaadoor", sum := "e60bffa8f96c0f14f5fcc8f08762cb94200c481b4867adee5fc7cb66fcae1ffb", func := "loop.example/historychecker/laws.FnLastValue", spec := "fnLastValue", unfollowed := true, recurses := true, named := ["internal/strconv.uint64pow10", "math/bits.deBruijn32tab", "math/bits.deBruijn64tab"], plainKeys := false, apart := false, laid := [("math/bits.deBruijn32tab", laid_math_bits_deBruijn32tab), ("math/bits.deBruijn64tab", laid_math_bits_deBruijn64tab), ("internal/strconv.uint64pow10", laid_internal_strconv_uint64pow10)] }
def FnLastValueSaid : Prop := fnLastValueRow.holds Tryd.pinned (OpenSpec.ofChange fnLastValueSpec)

/-- ITS FALSE NEIGHBOUR: 'it returns false'. Refute it at one input. -/
def fnLastValueWrong : ChangeSpec := { name := "fnLastValue", fn := fun _ => fun
  | [d] => { results := [.lit (.bool false)], args := [d] }
  | _ => none }
def FnLastValueWrongFalsely : Prop := fnLastValueRow.holds Tryd.pinned (OpenSpec.ofChange fnLastValueWrong)

/-- 'laws.FnInstalled': WHATEVER THE INPUT: true; the input reads as it did. -/
def fnInstalledSpec : ChangeSpec := { name := "fnInstalled", fn := fun _ => fun
  | [d] => { results := [.lit (.bool true)], args := [d] }
  | _ => none }
def fnInstalledRow : OpenClaim := { program := "ytagmlbhmojgnlaadoor", sum := "e60bffa8f96c0f14f5fcc8f08762cb94200c481b4867adee5fc7cb66fcae1ffb", func := "loop.example/historychecker/laws.FnInstalled", spec := "fnInstalled", unfollowed := true, recurses := true, named := ["internal/strconv.uint64pow10", "math/bits.deBruijn32tab", "math/bits.deBruijn64tab"], plainKeys := false, apart := false, laid := [("math/bits.deBruijn32tab", laid_math_bits_deBruijn32tab), ("math/bits.deBruijn64tab", laid_math_bits_deBruijn64tab), ("internal/strconv.uint64pow10", laid_internal_strconv_uint64pow10)] }
def FnInstalledSaid : Prop := fnInstalledRow.holds Tryd.pinned (OpenSpec.ofChange fnInstalledSpec)

/-- ITS FALSE NEIGHBOUR: 'it returns false'. Refute it at one input. -/
def fnInstalledWrong : ChangeSpec := { name := "fnInstalled", fn := fun _ => fun
  | [d] => { results := [.lit (.bool false)], args := [d] }
  | _ => none }
def FnInstalledWrongFalsely : Prop := fnInstalledRow.holds Tryd.pinned (OpenSpec.ofChange fnInstalledWrong)

/- THE SECOND FORM. 'bulk': how many values and letters a reading holds, each counted each time it is reached (what is shared counts as often as it is met; a slice's spare places count too). A statement '..UptoSaid' is the law's where the arguments, and the package variables that the reading takes, are together of bulk at most 1048576: NARROWER than '..Said'. Prove '..Said' where nothing that the law and all that it calls make is longer than what came in: it says more and counts as full. Else prove '..UptoSaid'. A law counts once. -/
mutual
def uptoBulk {H : Type} : DataW H → Nat
  | .lit (.string bytes) => bytes.length + 1
  | .lit _ => 1
  | .nil => 1
  | .ptr d => uptoBulk d + 1
  | .slice elems spare => uptoBulkAll elems + uptoBulkAll spare + 1
  | .agg parts => uptoBulkAll parts + 1
  | .iface _ d => uptoBulk d + 1
  | .map entries => uptoBulkEntries entries + 1
  | .held _ => 1
def uptoBulkAll {H : Type} : List (DataW H) → Nat
  | [] => 0
  | d :: r => uptoBulk d + uptoBulkAll r
def uptoBulkEntries {H : Type} : List (Lit × DataW H) → Nat
  | [] => 0
  | x :: r => uptoBulkEntry x + uptoBulkEntries r
def uptoBulkEntry {H : Type} : Lit × DataW H → Nat
  | (.string bytes, d) => bytes.length + uptoBulk d + 1
  | (_, d) => uptoBulk d + 1
 end
def uptoSmall : (H : Type) → List (DataW H) → Bool := fun _ ds => decide (uptoBulkAll ds ≤ 1048576)
def OpenSpec.upto (s : _root_.Go.ChangeSpec) : _root_.Go.OpenSpec := { _root_.Go.OpenSpec.ofChange s with cond := some uptoSmall }

/-- 'laws.FnOpValid', WHERE WHAT IT READS IS OF BULK AT MOST 1048576: true; the input reads as it did. -/
def fnOpValidUptoRow : OpenClaim := { program := "ytagmlbhmojgnlaadoor", sum := "e60bffa8f96c0f14f5fcc8f08762cb94200c481b4867adee5fc7cb66fcae1ffb", func := "loop.example/historychecker/laws.FnOpValid", spec := "fnOpValid", named := ["internal/strconv.uint64pow10", "math/bits.deBruijn32tab", "math/bits.deBruijn64tab"], plainKeys := false, apart := false, laid := [("math/bits.deBruijn32tab", laid_math_bits_deBruijn32tab), ("math/bits.deBruijn64tab", laid_math_bits_deBruijn64tab), ("internal/strconv.uint64pow10", laid_internal_strconv_uint64pow10)], narrowed := true }
def FnOpValidUptoSaid : Prop := fnOpValidUptoRow.holds Tryd.pinned (OpenSpec.upto fnOpValidSpec)

/-- 'laws.FnTxnValid', WHERE WHAT IT READS IS OF BULK AT MOST 1048576: true; the input reads as it did. -/
def fnTxnValidUptoRow : OpenClaim := { program := "ytagmlbhmojgnlaadoor", sum := "e60bffa8f96c0f14f5fcc8f08762cb94200c481b4867adee5fc7cb66fcae1ffb", func := "loop.example/historychecker/laws.FnTxnValid", spec := "fnTxnValid", unfollowed := true, recurses := true, named := ["internal/strconv.uint64pow10", "math/bits.deBruijn32tab", "math/bits.deBruijn64tab"], plainKeys := false, apart := false, laid := [("math/bits.deBruijn32tab", laid_math_bits_deBruijn32tab), ("math/bits.deBruijn64tab", laid_math_bits_deBruijn64tab), ("internal/strconv.uint64pow10", laid_internal_strconv_uint64pow10)], narrowed := true }
def FnTxnValidUptoSaid : Prop := fnTxnValidUptoRow.holds Tryd.pinned (OpenSpec.upto fnTxnValidSpec)

/-- 'laws.FnLastWrites', WHERE WHAT IT READS IS OF BULK AT MOST 1048576: true; the input reads as it did. -/
def fnLastWritesUptoRow : OpenClaim := { program := "ytagmlbhmojgnlaadoor", sum := "e60bffa8f96c0f14f5fcc8f08762cb94200c481b4867adee5fc7cb66fcae1ffb", func := "loop.example/historychecker/laws.FnLastWrites", spec := "fnLastWrites", unfollowed := true, recurses := true, named := ["internal/strconv.uint64pow10", "math/bits.deBruijn32tab", "math/bits.deBruijn64tab"], plainKeys := false, apart := false, laid := [("math/bits.deBruijn32tab", laid_math_bits_deBruijn32tab), ("math/bits.deBruijn64tab", laid_math_bits_deBruijn64tab), ("internal/strconv.uint64pow10", laid_internal_strconv_uint64pow10)], narrowed := true }
def FnLastWritesUptoSaid : Prop := fnLastWritesUptoRow.holds Tryd.pinned (OpenSpec.upto fnLastWritesSpec)

/-- 'laws.FnFirstReads', WHERE WHAT IT READS IS OF BULK AT MOST 1048576: true; the input reads as it did. -/
def fnFirstReadsUptoRow : OpenClaim := { program := "ytagmlbhmojgnlaadoor", sum := "e60bffa8f96c0f14f5fcc8f08762cb94200c481b4867adee5fc7cb66fcae1ffb", func := "loop.example/historychecker/laws.FnFirstReads", spec := "fnFirstReads", unfollowed := true, recurses := true, named := ["internal/strconv.uint64pow10", "math/bits.deBruijn32tab", "math/bits.deBruijn64tab"], plainKeys := false, apart := false, laid := [("math/bits.deBruijn32tab", laid_math_bits_deBruijn32tab), ("math/bits.deBruijn64tab", laid_math_bits_deBruijn64tab), ("internal/strconv.uint64pow10", laid_internal_strconv_uint64pow10)], narrowed := true }
def FnFirstReadsUptoSaid : Prop := fnFirstReadsUptoRow.holds Tryd.pinned (OpenSpec.upto fnFirstReadsSpec)

/-- 'laws.FnHistoryValid', WHERE WHAT IT READS IS OF BULK AT MOST 1048576: true; the input reads as it did. -/
def fnHistoryValidUptoRow : OpenClaim := { program := "ytagmlbhmojgnlaadoor", sum := "e60bffa8f96c0f14f5fcc8f08762cb94200c481b4867adee5fc7cb66fcae1ffb", func := "loop.example/historychecker/laws.FnHistoryValid", spec := "fnHistoryValid", unfollowed := true, recurses := true, named := ["internal/strconv.uint64pow10", "math/bits.deBruijn32tab", "math/bits.deBruijn64tab"], plainKeys := false, apart := false, laid := [("math/bits.deBruijn32tab", laid_math_bits_deBruijn32tab), ("math/bits.deBruijn64tab", laid_math_bits_deBruijn64tab), ("internal/strconv.uint64pow10", laid_internal_strconv_uint64pow10)], narrowed := true }
def FnHistoryValidUptoSaid : Prop := fnHistoryValidUptoRow.holds Tryd.pinned (OpenSpec.upto fnHistoryValidSpec)

/-- 'laws.FnWriterOf', WHERE WHAT IT READS IS OF BULK AT MOST 1048576: true; the input reads as it did. -/
def fnWriterOfUptoRow : OpenClaim := { program := "ytagmlbhmojgnlaadoor", sum := "e60bffa8f96c0f14f5fcc8f08762cb94200c481b4867adee5fc7cb66fcae1ffb", func := "loop.example/historychecker/laws.FnWriterOf", spec := "fnWriterOf", unfollowed := true, recurses := true, named := ["internal/strconv.uint64pow10", "math/bits.deBruijn32tab", "math/bits.deBruijn64tab"], plainKeys := false, apart := false, laid := [("math/bits.deBruijn32tab", laid_math_bits_deBruijn32tab), ("math/bits.deBruijn64tab", laid_math_bits_deBruijn64tab), ("internal/strconv.uint64pow10", laid_internal_strconv_uint64pow10)], narrowed := true }
def FnWriterOfUptoSaid : Prop := fnWriterOfUptoRow.holds Tryd.pinned (OpenSpec.upto fnWriterOfSpec)

/-- 'laws.FnDoneTxns', WHERE WHAT IT READS IS OF BULK AT MOST 1048576: true; the input reads as it did. -/
def fnDoneTxnsUptoRow : OpenClaim := { program := "ytagmlbhmojgnlaadoor", sum := "e60bffa8f96c0f14f5fcc8f08762cb94200c481b4867adee5fc7cb66fcae1ffb", func := "loop.example/historychecker/laws.FnDoneTxns", spec := "fnDoneTxns", unfollowed := true, recurses := true, named := ["internal/strconv.uint64pow10", "math/bits.deBruijn32tab", "math/bits.deBruijn64tab"], plainKeys := false, apart := false, laid := [("math/bits.deBruijn32tab", laid_math_bits_deBruijn32tab), ("math/bits.deBruijn64tab", laid_math_bits_deBruijn64tab), ("internal/strconv.uint64pow10", laid_internal_strconv_uint64pow10)], narrowed := true }
def FnDoneTxnsUptoSaid : Prop := fnDoneTxnsUptoRow.holds Tryd.pinned (OpenSpec.upto fnDoneTxnsSpec)

/-- 'laws.FnOwnErrors', WHERE WHAT IT READS IS OF BULK AT MOST 1048576: true; the input reads as it did. -/
def fnOwnErrorsUptoRow : OpenClaim := { program := "ytagmlbhmojgnlaadoor", sum := "e60bffa8f96c0f14f5fcc8f08762cb94200c481b4867adee5fc7cb66fcae1ffb", func := "loop.example/historychecker/laws.FnOwnErrors", spec := "fnOwnErrors", unfollowed := true, recurses := true, named := ["internal/strconv.uint64pow10", "math/bits.deBruijn32tab", "math/bits.deBruijn64tab"], plainKeys := false, apart := false, laid := [("math/bits.deBruijn32tab", laid_math_bits_deBruijn32tab), ("math/bits.deBruijn64tab", laid_math_bits_deBruijn64tab), ("internal/strconv.uint64pow10", laid_internal_strconv_uint64pow10)], narrowed := true }
def FnOwnErrorsUptoSaid : Prop := fnOwnErrorsUptoRow.holds Tryd.pinned (OpenSpec.upto fnOwnErrorsSpec)

/-- 'laws.FnLastValue', WHERE WHAT IT READS IS OF BULK AT MOST 1048576: true; the input reads as it did. -/
def fnLastValueUptoRow : OpenClaim := { program := "ytagmlbhmojgnlaadoor", sum := "e60bffa8f96c0f14f5fcc8f08762cb94200c481b4867adee5fc7cb66fcae1ffb", func := "loop.example/historychecker/laws.FnLastValue", spec := "fnLastValue", unfollowed := true, recurses := true, named := ["internal/strconv.uint64pow10", "math/bits.deBruijn32tab", "math/bits.deBruijn64tab"], plainKeys := false, apart := false, laid := [("math/bits.deBruijn32tab", laid_math_bits_deBruijn32tab), ("math/bits.deBruijn64tab", laid_math_bits_deBruijn64tab), ("internal/strconv.uint64pow10", laid_internal_strconv_uint64pow10)], narrowed := true }
def FnLastValueUptoSaid : Prop := fnLastValueUptoRow.holds Tryd.pinned (OpenSpec.upto fnLastValueSpec)

/-- 'laws.FnInstalled', WHERE WHAT IT READS IS OF BULK AT MOST 1048576: true; the input reads as it did. -/
def fnInstalledUptoRow : OpenClaim := { program := "ytagmlbhmojgnlaadoor", sum := "e60bffa8f96c0f14f5fcc8f08762cb94200c481b4867adee5fc7cb66fcae1ffb", func := "loop.example/historychecker/laws.FnInstalled", spec := "fnInstalled", unfollowed := true, recurses := true, named := ["internal/strconv.uint64pow10", "math/bits.deBruijn32tab", "math/bits.deBruijn64tab"], plainKeys := false, apart := false, laid := [("math/bits.deBruijn32tab", laid_math_bits_deBruijn32tab), ("math/bits.deBruijn64tab", laid_math_bits_deBruijn64tab), ("internal/strconv.uint64pow10", laid_internal_strconv_uint64pow10)], narrowed := true }
def FnInstalledUptoSaid : Prop := fnInstalledUptoRow.holds Tryd.pinned (OpenSpec.upto fnInstalledSpec)

end Rows
end Go.Proofs.YtagmlbhmojgnlaaDoor
