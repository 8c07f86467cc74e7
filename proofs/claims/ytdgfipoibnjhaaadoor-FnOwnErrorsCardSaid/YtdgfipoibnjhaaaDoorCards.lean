/-
  DERIVED. GIVEN WITH THE SEED: THE CARDS: each row of YtdgfipoibnjhaaaDoorRows.lean that lists a variable, with what it lists TIED to the program's text (the seventh form; the later family's looks); each row that meets fmt, with fmt's text TOLD by the authors' own Lean function (tested against real Go, not proved from fmt's source: count such statements apart). THE CARD IS WHAT COUNTS. Prove the row's statement (the work); the ties are given (YtdgfipoibnjhaaaDoorTie.lean); close each card by the builder's one call (the guide's Derived/Test/ToyasCard.lean, 'card_holds'). Laid BY PROGRAM, IN A SANDBOX (cutbox-door.mjs). By AI agents, Wed Nov 11 2026. No macro, syntax, notation, axiom, sorry.
-/
import Derived.Test.YtdgfipoibnjhaaaDoorRows
import GoSem.ClaimSeven
namespace Go.Proofs.YtdgfipoibnjhaaaDoor
namespace Rows

/-- THE TIED CARD OF 'laws.FnOwnErrors'. -/
def fnOwnErrorsCard : Claim7 := { stood := { row := fnOwnErrorsRow, standIns := [], harness := (true, "3d15780ceea1764aa47756016227bd6634e3e84f5909c38b3c1e227ae3ebac1a"), looks := false }, kinds := [], alts := [], laidByText := true, laidKinds := [.data, .data, .data], laidTests := true, laidLooks := .later }
def FnOwnErrorsCardSaid : Prop := Claim7.holds Tryd.pinned (.plain (OpenSpec.ofChange fnOwnErrorsSpec)) fnOwnErrorsCard

/-- THE TIED CARD OF 'laws.FnOrdersValid'. -/
def fnOrdersValidCard : Claim7 := { stood := { row := fnOrdersValidRow, standIns := [], harness := (true, "3d15780ceea1764aa47756016227bd6634e3e84f5909c38b3c1e227ae3ebac1a"), looks := false }, kinds := [], alts := [], laidByText := true, laidKinds := [.data, .data, .data], laidTests := true, laidLooks := .later }
def FnOrdersValidCardSaid : Prop := Claim7.holds Tryd.pinned (.plain (OpenSpec.ofChange fnOrdersValidSpec)) fnOrdersValidCard

/-- THE TIED CARD OF 'laws.FnSerialRight'. -/
def fnSerialRightCard : Claim7 := { stood := { row := fnSerialRightRow, standIns := [], harness := (true, "3d15780ceea1764aa47756016227bd6634e3e84f5909c38b3c1e227ae3ebac1a"), looks := false }, kinds := [], alts := [], laidByText := true, laidKinds := [.data, .data, .data], laidTests := true, laidLooks := .later }
def FnSerialRightCardSaid : Prop := Claim7.holds Tryd.pinned (.plain (OpenSpec.ofChange fnSerialRightSpec)) fnSerialRightCard

/-- THE TIED CARD OF 'laws.FnFirstOrders'. -/
def fnFirstOrdersCard : Claim7 := { stood := { row := fnFirstOrdersRow, standIns := [], harness := (true, "3d15780ceea1764aa47756016227bd6634e3e84f5909c38b3c1e227ae3ebac1a"), looks := false }, kinds := [], alts := [], laidByText := true, laidKinds := [.data, .data, .data], laidTests := true, laidLooks := .later }
def FnFirstOrdersCardSaid : Prop := Claim7.holds Tryd.pinned (.plain (OpenSpec.ofChange fnFirstOrdersSpec)) fnFirstOrdersCard

/-- THE TIED CARD OF 'laws.FnAllOrders'. -/
def fnAllOrdersCard : Claim7 := { stood := { row := fnAllOrdersRow, standIns := [], harness := (true, "3d15780ceea1764aa47756016227bd6634e3e84f5909c38b3c1e227ae3ebac1a"), looks := false }, kinds := [], alts := [], laidByText := true, laidKinds := [.data, .data, .data], laidTests := true, laidLooks := .later }
def FnAllOrdersCardSaid : Prop := Claim7.holds Tryd.pinned (.plain (OpenSpec.ofChange fnAllOrdersSpec)) fnAllOrdersCard

/-- THE TIED CARD OF 'laws.FnAbortedReads'. -/
def fnAbortedReadsCard : Claim7 := { stood := { row := fnAbortedReadsRow, standIns := [], harness := (true, "3d15780ceea1764aa47756016227bd6634e3e84f5909c38b3c1e227ae3ebac1a"), looks := false }, kinds := [], alts := [], laidByText := true, laidKinds := [.data, .data, .data], laidTests := true, laidLooks := .later }
def FnAbortedReadsCardSaid : Prop := Claim7.holds Tryd.pinned (.plain (OpenSpec.ofChange fnAbortedReadsSpec)) fnAbortedReadsCard

/-- THE SECOND FORM's CARD OF 'laws.FnOwnErrors'. -/
def fnOwnErrorsUptoCard : Claim7 := { stood := { row := fnOwnErrorsUptoRow, standIns := [], harness := (true, "3d15780ceea1764aa47756016227bd6634e3e84f5909c38b3c1e227ae3ebac1a"), looks := false }, kinds := [], alts := [], laidByText := true, laidKinds := [.data, .data, .data], laidTests := true, laidLooks := .later }
def FnOwnErrorsUptoCardSaid : Prop := Claim7.holds Tryd.pinned (.plain (OpenSpec.upto fnOwnErrorsSpec)) fnOwnErrorsUptoCard

/-- THE SECOND FORM's CARD OF 'laws.FnOrdersValid'. -/
def fnOrdersValidUptoCard : Claim7 := { stood := { row := fnOrdersValidUptoRow, standIns := [], harness := (true, "3d15780ceea1764aa47756016227bd6634e3e84f5909c38b3c1e227ae3ebac1a"), looks := false }, kinds := [], alts := [], laidByText := true, laidKinds := [.data, .data, .data], laidTests := true, laidLooks := .later }
def FnOrdersValidUptoCardSaid : Prop := Claim7.holds Tryd.pinned (.plain (OpenSpec.upto fnOrdersValidSpec)) fnOrdersValidUptoCard

/-- THE SECOND FORM's CARD OF 'laws.FnSerialRight'. -/
def fnSerialRightUptoCard : Claim7 := { stood := { row := fnSerialRightUptoRow, standIns := [], harness := (true, "3d15780ceea1764aa47756016227bd6634e3e84f5909c38b3c1e227ae3ebac1a"), looks := false }, kinds := [], alts := [], laidByText := true, laidKinds := [.data, .data, .data], laidTests := true, laidLooks := .later }
def FnSerialRightUptoCardSaid : Prop := Claim7.holds Tryd.pinned (.plain (OpenSpec.upto fnSerialRightSpec)) fnSerialRightUptoCard

/-- THE SECOND FORM's CARD OF 'laws.FnFirstOrders'. -/
def fnFirstOrdersUptoCard : Claim7 := { stood := { row := fnFirstOrdersUptoRow, standIns := [], harness := (true, "3d15780ceea1764aa47756016227bd6634e3e84f5909c38b3c1e227ae3ebac1a"), looks := false }, kinds := [], alts := [], laidByText := true, laidKinds := [.data, .data, .data], laidTests := true, laidLooks := .later }
def FnFirstOrdersUptoCardSaid : Prop := Claim7.holds Tryd.pinned (.plain (OpenSpec.upto fnFirstOrdersSpec)) fnFirstOrdersUptoCard

/-- THE SECOND FORM's CARD OF 'laws.FnAllOrders'. -/
def fnAllOrdersUptoCard : Claim7 := { stood := { row := fnAllOrdersUptoRow, standIns := [], harness := (true, "3d15780ceea1764aa47756016227bd6634e3e84f5909c38b3c1e227ae3ebac1a"), looks := false }, kinds := [], alts := [], laidByText := true, laidKinds := [.data, .data, .data], laidTests := true, laidLooks := .later }
def FnAllOrdersUptoCardSaid : Prop := Claim7.holds Tryd.pinned (.plain (OpenSpec.upto fnAllOrdersSpec)) fnAllOrdersUptoCard

/-- THE SECOND FORM's CARD OF 'laws.FnAbortedReads'. -/
def fnAbortedReadsUptoCard : Claim7 := { stood := { row := fnAbortedReadsUptoRow, standIns := [], harness := (true, "3d15780ceea1764aa47756016227bd6634e3e84f5909c38b3c1e227ae3ebac1a"), looks := false }, kinds := [], alts := [], laidByText := true, laidKinds := [.data, .data, .data], laidTests := true, laidLooks := .later }
def FnAbortedReadsUptoCardSaid : Prop := Claim7.holds Tryd.pinned (.plain (OpenSpec.upto fnAbortedReadsSpec)) fnAbortedReadsUptoCard
end Rows
end Go.Proofs.YtdgfipoibnjhaaaDoor
