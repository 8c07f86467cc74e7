/-
  DERIVED. GIVEN WITH THE SEED: THE CARDS: each row of YtnkaenjohkcfbaaDoorRows.lean that lists a variable, with what it lists TIED to the program's text (the seventh form; the later family's looks); each row that meets fmt, with fmt's text TOLD by the authors' own Lean function (tested against real Go, not proved from fmt's source: count such statements apart). THE CARD IS WHAT COUNTS. Prove the row's statement (the work); the ties are given (YtnkaenjohkcfbaaDoorTie.lean); close each card by the builder's one call (the guide's Derived/Test/ToyasCard.lean, 'card_holds'). Laid BY PROGRAM, IN A SANDBOX (cutbox-door.mjs). By AI agents, Wed Nov 11 2026. No macro, syntax, notation, axiom, sorry.
-/
import Derived.Test.YtnkaenjohkcfbaaDoorRows
import GoSem.ClaimSeven
namespace Go.Proofs.YtnkaenjohkcfbaaDoor
namespace Rows

/-- THE TIED CARD OF 'laws.FnBadReads'. -/
def fnBadReadsCard : Claim7 := { stood := { row := fnBadReadsRow, standIns := [], harness := (true, "161fcdeee597119c5ceaf692dfced354f88075b87ce5baa545a61ab9786400e8"), looks := false }, kinds := [], alts := [], laidByText := true, laidKinds := [.data, .data, .data], laidTests := true, laidLooks := .later }
def FnBadReadsCardSaid : Prop := Claim7.holds Tryd.pinned (.plain (OpenSpec.ofChange fnBadReadsSpec)) fnBadReadsCard

/-- THE TIED CARD OF 'laws.FnAbortedReads'. -/
def fnAbortedReadsCard : Claim7 := { stood := { row := fnAbortedReadsRow, standIns := [], harness := (true, "161fcdeee597119c5ceaf692dfced354f88075b87ce5baa545a61ab9786400e8"), looks := false }, kinds := [], alts := [], laidByText := true, laidKinds := [.data, .data, .data], laidTests := true, laidLooks := .later }
def FnAbortedReadsCardSaid : Prop := Claim7.holds Tryd.pinned (.plain (OpenSpec.ofChange fnAbortedReadsSpec)) fnAbortedReadsCard

/-- THE SECOND FORM's CARD OF 'laws.FnBadReads'. -/
def fnBadReadsUptoCard : Claim7 := { stood := { row := fnBadReadsUptoRow, standIns := [], harness := (true, "161fcdeee597119c5ceaf692dfced354f88075b87ce5baa545a61ab9786400e8"), looks := false }, kinds := [], alts := [], laidByText := true, laidKinds := [.data, .data, .data], laidTests := true, laidLooks := .later }
def FnBadReadsUptoCardSaid : Prop := Claim7.holds Tryd.pinned (.plain (OpenSpec.upto fnBadReadsSpec)) fnBadReadsUptoCard

/-- THE SECOND FORM's CARD OF 'laws.FnAbortedReads'. -/
def fnAbortedReadsUptoCard : Claim7 := { stood := { row := fnAbortedReadsUptoRow, standIns := [], harness := (true, "161fcdeee597119c5ceaf692dfced354f88075b87ce5baa545a61ab9786400e8"), looks := false }, kinds := [], alts := [], laidByText := true, laidKinds := [.data, .data, .data], laidTests := true, laidLooks := .later }
def FnAbortedReadsUptoCardSaid : Prop := Claim7.holds Tryd.pinned (.plain (OpenSpec.upto fnAbortedReadsSpec)) fnAbortedReadsUptoCard
end Rows
end Go.Proofs.YtnkaenjohkcfbaaDoor
