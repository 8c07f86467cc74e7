/-
  DERIVED. GIVEN WITH THE SEED: THE CARDS: each row of YtagmlbhmojgnlaaDoorRows.lean that lists a variable, with what it lists TIED to the program's text (the seventh form; the later family's looks); each row that meets fmt, with fmt's text TOLD by the authors' own Lean function (tested against real Go, not proved from fmt's source: count such statements apart). THE CARD IS WHAT COUNTS. Prove the row's statement (the work); the ties are given (YtagmlbhmojgnlaaDoorTie.lean); close each card by the builder's one call (the guide's Derived/Test/ToyasCard.lean, 'card_holds'). Laid BY PROGRAM, IN A SANDBOX (cutbox-door.mjs). By AI agents, Wed Nov 11 2026. No macro, syntax, notation, axiom, sorry.
-/
import Derived.Test.YtagmlbhmojgnlaaDoorRows
import GoSem.ClaimSeven
namespace Go.Proofs.YtagmlbhmojgnlaaDoor
namespace Rows

/-- THE TIED CARD OF 'laws.FnOpValid'. -/
def fnOpValidCard : Claim7 := { stood := { row := fnOpValidRow, standIns := [], harness := (true, "17a35abad7d76b48e882bc7ff91e133fb4fb352079714490631db23d22f77d93"), looks := false }, kinds := [], alts := [], laidByText := true, laidKinds := [.data, .data, .data], laidTests := true, laidLooks := .later }
def FnOpValidCardSaid : Prop := Claim7.holds Tryd.pinned (.plain (OpenSpec.ofChange fnOpValidSpec)) fnOpValidCard

/-- THE TIED CARD OF 'laws.FnTxnValid'. -/
def fnTxnValidCard : Claim7 := { stood := { row := fnTxnValidRow, standIns := [], harness := (true, "17a35abad7d76b48e882bc7ff91e133fb4fb352079714490631db23d22f77d93"), looks := false }, kinds := [], alts := [], laidByText := true, laidKinds := [.data, .data, .data], laidTests := true, laidLooks := .later }
def FnTxnValidCardSaid : Prop := Claim7.holds Tryd.pinned (.plain (OpenSpec.ofChange fnTxnValidSpec)) fnTxnValidCard

/-- THE TIED CARD OF 'laws.FnLastWrites'. -/
def fnLastWritesCard : Claim7 := { stood := { row := fnLastWritesRow, standIns := [], harness := (true, "17a35abad7d76b48e882bc7ff91e133fb4fb352079714490631db23d22f77d93"), looks := false }, kinds := [], alts := [], laidByText := true, laidKinds := [.data, .data, .data], laidTests := true, laidLooks := .later }
def FnLastWritesCardSaid : Prop := Claim7.holds Tryd.pinned (.plain (OpenSpec.ofChange fnLastWritesSpec)) fnLastWritesCard

/-- THE TIED CARD OF 'laws.FnFirstReads'. -/
def fnFirstReadsCard : Claim7 := { stood := { row := fnFirstReadsRow, standIns := [], harness := (true, "17a35abad7d76b48e882bc7ff91e133fb4fb352079714490631db23d22f77d93"), looks := false }, kinds := [], alts := [], laidByText := true, laidKinds := [.data, .data, .data], laidTests := true, laidLooks := .later }
def FnFirstReadsCardSaid : Prop := Claim7.holds Tryd.pinned (.plain (OpenSpec.ofChange fnFirstReadsSpec)) fnFirstReadsCard

/-- THE TIED CARD OF 'laws.FnHistoryValid'. -/
def fnHistoryValidCard : Claim7 := { stood := { row := fnHistoryValidRow, standIns := [], harness := (true, "17a35abad7d76b48e882bc7ff91e133fb4fb352079714490631db23d22f77d93"), looks := false }, kinds := [], alts := [], laidByText := true, laidKinds := [.data, .data, .data], laidTests := true, laidLooks := .later }
def FnHistoryValidCardSaid : Prop := Claim7.holds Tryd.pinned (.plain (OpenSpec.ofChange fnHistoryValidSpec)) fnHistoryValidCard

/-- THE TIED CARD OF 'laws.FnWriterOf'. -/
def fnWriterOfCard : Claim7 := { stood := { row := fnWriterOfRow, standIns := [], harness := (true, "17a35abad7d76b48e882bc7ff91e133fb4fb352079714490631db23d22f77d93"), looks := false }, kinds := [], alts := [], laidByText := true, laidKinds := [.data, .data, .data], laidTests := true, laidLooks := .later }
def FnWriterOfCardSaid : Prop := Claim7.holds Tryd.pinned (.plain (OpenSpec.ofChange fnWriterOfSpec)) fnWriterOfCard

/-- THE TIED CARD OF 'laws.FnDoneTxns'. -/
def fnDoneTxnsCard : Claim7 := { stood := { row := fnDoneTxnsRow, standIns := [], harness := (true, "17a35abad7d76b48e882bc7ff91e133fb4fb352079714490631db23d22f77d93"), looks := false }, kinds := [], alts := [], laidByText := true, laidKinds := [.data, .data, .data], laidTests := true, laidLooks := .later }
def FnDoneTxnsCardSaid : Prop := Claim7.holds Tryd.pinned (.plain (OpenSpec.ofChange fnDoneTxnsSpec)) fnDoneTxnsCard

/-- THE TIED CARD OF 'laws.FnOwnErrors'. -/
def fnOwnErrorsCard : Claim7 := { stood := { row := fnOwnErrorsRow, standIns := [], harness := (true, "17a35abad7d76b48e882bc7ff91e133fb4fb352079714490631db23d22f77d93"), looks := false }, kinds := [], alts := [], laidByText := true, laidKinds := [.data, .data, .data], laidTests := true, laidLooks := .later }
def FnOwnErrorsCardSaid : Prop := Claim7.holds Tryd.pinned (.plain (OpenSpec.ofChange fnOwnErrorsSpec)) fnOwnErrorsCard

/-- THE TIED CARD OF 'laws.FnLastValue'. -/
def fnLastValueCard : Claim7 := { stood := { row := fnLastValueRow, standIns := [], harness := (true, "17a35abad7d76b48e882bc7ff91e133fb4fb352079714490631db23d22f77d93"), looks := false }, kinds := [], alts := [], laidByText := true, laidKinds := [.data, .data, .data], laidTests := true, laidLooks := .later }
def FnLastValueCardSaid : Prop := Claim7.holds Tryd.pinned (.plain (OpenSpec.ofChange fnLastValueSpec)) fnLastValueCard

/-- THE TIED CARD OF 'laws.FnInstalled'. -/
def fnInstalledCard : Claim7 := { stood := { row := fnInstalledRow, standIns := [], harness := (true, "17a35abad7d76b48e882bc7ff91e133fb4fb352079714490631db23d22f77d93"), looks := false }, kinds := [], alts := [], laidByText := true, laidKinds := [.data, .data, .data], laidTests := true, laidLooks := .later }
def FnInstalledCardSaid : Prop := Claim7.holds Tryd.pinned (.plain (OpenSpec.ofChange fnInstalledSpec)) fnInstalledCard

/-- THE SECOND FORM's CARD OF 'laws.FnOpValid'. -/
def fnOpValidUptoCard : Claim7 := { stood := { row := fnOpValidUptoRow, standIns := [], harness := (true, "17a35abad7d76b48e882bc7ff91e133fb4fb352079714490631db23d22f77d93"), looks := false }, kinds := [], alts := [], laidByText := true, laidKinds := [.data, .data, .data], laidTests := true, laidLooks := .later }
def FnOpValidUptoCardSaid : Prop := Claim7.holds Tryd.pinned (.plain (OpenSpec.upto fnOpValidSpec)) fnOpValidUptoCard

/-- THE SECOND FORM's CARD OF 'laws.FnTxnValid'. -/
def fnTxnValidUptoCard : Claim7 := { stood := { row := fnTxnValidUptoRow, standIns := [], harness := (true, "17a35abad7d76b48e882bc7ff91e133fb4fb352079714490631db23d22f77d93"), looks := false }, kinds := [], alts := [], laidByText := true, laidKinds := [.data, .data, .data], laidTests := true, laidLooks := .later }
def FnTxnValidUptoCardSaid : Prop := Claim7.holds Tryd.pinned (.plain (OpenSpec.upto fnTxnValidSpec)) fnTxnValidUptoCard

/-- THE SECOND FORM's CARD OF 'laws.FnLastWrites'. -/
def fnLastWritesUptoCard : Claim7 := { stood := { row := fnLastWritesUptoRow, standIns := [], harness := (true, "17a35abad7d76b48e882bc7ff91e133fb4fb352079714490631db23d22f77d93"), looks := false }, kinds := [], alts := [], laidByText := true, laidKinds := [.data, .data, .data], laidTests := true, laidLooks := .later }
def FnLastWritesUptoCardSaid : Prop := Claim7.holds Tryd.pinned (.plain (OpenSpec.upto fnLastWritesSpec)) fnLastWritesUptoCard

/-- THE SECOND FORM's CARD OF 'laws.FnFirstReads'. -/
def fnFirstReadsUptoCard : Claim7 := { stood := { row := fnFirstReadsUptoRow, standIns := [], harness := (true, "17a35abad7d76b48e882bc7ff91e133fb4fb352079714490631db23d22f77d93"), looks := false }, kinds := [], alts := [], laidByText := true, laidKinds := [.data, .data, .data], laidTests := true, laidLooks := .later }
def FnFirstReadsUptoCardSaid : Prop := Claim7.holds Tryd.pinned (.plain (OpenSpec.upto fnFirstReadsSpec)) fnFirstReadsUptoCard

/-- THE SECOND FORM's CARD OF 'laws.FnHistoryValid'. -/
def fnHistoryValidUptoCard : Claim7 := { stood := { row := fnHistoryValidUptoRow, standIns := [], harness := (true, "17a35abad7d76b48e882bc7ff91e133fb4fb352079714490631db23d22f77d93"), looks := false }, kinds := [], alts := [], laidByText := true, laidKinds := [.data, .data, .data], laidTests := true, laidLooks := .later }
def FnHistoryValidUptoCardSaid : Prop := Claim7.holds Tryd.pinned (.plain (OpenSpec.upto fnHistoryValidSpec)) fnHistoryValidUptoCard

/-- THE SECOND FORM's CARD OF 'laws.FnWriterOf'. -/
def fnWriterOfUptoCard : Claim7 := { stood := { row := fnWriterOfUptoRow, standIns := [], harness := (true, "17a35abad7d76b48e882bc7ff91e133fb4fb352079714490631db23d22f77d93"), looks := false }, kinds := [], alts := [], laidByText := true, laidKinds := [.data, .data, .data], laidTests := true, laidLooks := .later }
def FnWriterOfUptoCardSaid : Prop := Claim7.holds Tryd.pinned (.plain (OpenSpec.upto fnWriterOfSpec)) fnWriterOfUptoCard

/-- THE SECOND FORM's CARD OF 'laws.FnDoneTxns'. -/
def fnDoneTxnsUptoCard : Claim7 := { stood := { row := fnDoneTxnsUptoRow, standIns := [], harness := (true, "17a35abad7d76b48e882bc7ff91e133fb4fb352079714490631db23d22f77d93"), looks := false }, kinds := [], alts := [], laidByText := true, laidKinds := [.data, .data, .data], laidTests := true, laidLooks := .later }
def FnDoneTxnsUptoCardSaid : Prop := Claim7.holds Tryd.pinned (.plain (OpenSpec.upto fnDoneTxnsSpec)) fnDoneTxnsUptoCard

/-- THE SECOND FORM's CARD OF 'laws.FnOwnErrors'. -/
def fnOwnErrorsUptoCard : Claim7 := { stood := { row := fnOwnErrorsUptoRow, standIns := [], harness := (true, "17a35abad7d76b48e882bc7ff91e133fb4fb352079714490631db23d22f77d93"), looks := false }, kinds := [], alts := [], laidByText := true, laidKinds := [.data, .data, .data], laidTests := true, laidLooks := .later }
def FnOwnErrorsUptoCardSaid : Prop := Claim7.holds Tryd.pinned (.plain (OpenSpec.upto fnOwnErrorsSpec)) fnOwnErrorsUptoCard

/-- THE SECOND FORM's CARD OF 'laws.FnLastValue'. -/
def fnLastValueUptoCard : Claim7 := { stood := { row := fnLastValueUptoRow, standIns := [], harness := (true, "17a35abad7d76b48e882bc7ff91e133fb4fb352079714490631db23d22f77d93"), looks := false }, kinds := [], alts := [], laidByText := true, laidKinds := [.data, .data, .data], laidTests := true, laidLooks := .later }
def FnLastValueUptoCardSaid : Prop := Claim7.holds Tryd.pinned (.plain (OpenSpec.upto fnLastValueSpec)) fnLastValueUptoCard

/-- THE SECOND FORM's CARD OF 'laws.FnInstalled'. -/
def fnInstalledUptoCard : Claim7 := { stood := { row := fnInstalledUptoRow, standIns := [], harness := (true, "17a35abad7d76b48e882bc7ff91e133fb4fb352079714490631db23d22f77d93"), looks := false }, kinds := [], alts := [], laidByText := true, laidKinds := [.data, .data, .data], laidTests := true, laidLooks := .later }
def FnInstalledUptoCardSaid : Prop := Claim7.holds Tryd.pinned (.plain (OpenSpec.upto fnInstalledSpec)) fnInstalledUptoCard
end Rows
end Go.Proofs.YtagmlbhmojgnlaaDoor
