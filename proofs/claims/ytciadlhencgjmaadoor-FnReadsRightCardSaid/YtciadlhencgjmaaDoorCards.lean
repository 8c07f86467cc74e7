/-
  DERIVED. GIVEN WITH THE SEED: THE CARDS: each row of YtciadlhencgjmaaDoorRows.lean that lists a variable, with what it lists TIED to the program's text (the seventh form; the later family's looks); each row that meets fmt, with fmt's text TOLD by the authors' own Lean function (tested against real Go, not proved from fmt's source: count such statements apart). THE CARD IS WHAT COUNTS. Prove the row's statement (the work); the ties are given (YtciadlhencgjmaaDoorTie.lean); close each card by the builder's one call (the guide's Derived/Test/ToyasCard.lean, 'card_holds'). Laid BY PROGRAM, IN A SANDBOX (cutbox-door.mjs). By AI agents, Wed Nov 11 2026. No macro, syntax, notation, axiom, sorry.
-/
import Derived.Test.YtciadlhencgjmaaDoorRows
import GoSem.ClaimSeven
namespace Go.Proofs.YtciadlhencgjmaaDoor
namespace Rows

/-- THE TIED CARD OF 'laws.FnExactOpText'. -/
def fnExactOpTextCard : Claim7 := { stood := { row := fnExactOpTextRow, standIns := [], harness := (true, "8f89b936e86b08b7d5f6b611641d7888c9c6c7b98f6ac260d0b7abeed615f162"), looks := false }, kinds := [], alts := [], laidByText := true, laidKinds := [.data, .data, .data], laidTests := true, laidLooks := .later }
def FnExactOpTextCardSaid : Prop := Claim7.holds Tryd.pinned (.plain (OpenSpec.ofChange fnExactOpTextSpec)) fnExactOpTextCard

/-- THE TIED CARD OF 'laws.FnExactTxnText'. -/
def fnExactTxnTextCard : Claim7 := { stood := { row := fnExactTxnTextRow, standIns := [], harness := (true, "8f89b936e86b08b7d5f6b611641d7888c9c6c7b98f6ac260d0b7abeed615f162"), looks := false }, kinds := [], alts := [], laidByText := true, laidKinds := [.data, .data, .data], laidTests := true, laidLooks := .later }
def FnExactTxnTextCardSaid : Prop := Claim7.holds Tryd.pinned (.plain (OpenSpec.ofChange fnExactTxnTextSpec)) fnExactTxnTextCard

/-- THE TIED CARD OF 'laws.FnExactHistoryText'. -/
def fnExactHistoryTextCard : Claim7 := { stood := { row := fnExactHistoryTextRow, standIns := [], harness := (true, "8f89b936e86b08b7d5f6b611641d7888c9c6c7b98f6ac260d0b7abeed615f162"), looks := false }, kinds := [], alts := [], laidByText := true, laidKinds := [.data, .data, .data], laidTests := true, laidLooks := .later }
def FnExactHistoryTextCardSaid : Prop := Claim7.holds Tryd.pinned (.plain (OpenSpec.ofChange fnExactHistoryTextSpec)) fnExactHistoryTextCard

/-- THE TIED CARD OF 'laws.FnBadReads'. -/
def fnBadReadsCard : Claim7 := { stood := { row := fnBadReadsRow, standIns := [], harness := (true, "8f89b936e86b08b7d5f6b611641d7888c9c6c7b98f6ac260d0b7abeed615f162"), looks := false }, kinds := [], alts := [], laidByText := true, laidKinds := [.data, .data, .data], laidTests := true, laidLooks := .later }
def FnBadReadsCardSaid : Prop := Claim7.holds Tryd.pinned (.plain (OpenSpec.ofChange fnBadReadsSpec)) fnBadReadsCard

/-- THE TIED CARD OF 'laws.FnReadsRight'. -/
def fnReadsRightCard : Claim7 := { stood := { row := fnReadsRightRow, standIns := [], harness := (true, "8f89b936e86b08b7d5f6b611641d7888c9c6c7b98f6ac260d0b7abeed615f162"), looks := false }, kinds := [], alts := [], laidByText := true, laidKinds := [.data, .data, .data], laidTests := true, laidLooks := .later }
def FnReadsRightCardSaid : Prop := Claim7.holds Tryd.pinned (.plain (OpenSpec.ofChange fnReadsRightSpec)) fnReadsRightCard

/-- THE SECOND FORM's CARD OF 'laws.FnExactOpText'. -/
def fnExactOpTextUptoCard : Claim7 := { stood := { row := fnExactOpTextUptoRow, standIns := [], harness := (true, "8f89b936e86b08b7d5f6b611641d7888c9c6c7b98f6ac260d0b7abeed615f162"), looks := false }, kinds := [], alts := [], laidByText := true, laidKinds := [.data, .data, .data], laidTests := true, laidLooks := .later }
def FnExactOpTextUptoCardSaid : Prop := Claim7.holds Tryd.pinned (.plain (OpenSpec.upto fnExactOpTextSpec)) fnExactOpTextUptoCard

/-- THE SECOND FORM's CARD OF 'laws.FnExactTxnText'. -/
def fnExactTxnTextUptoCard : Claim7 := { stood := { row := fnExactTxnTextUptoRow, standIns := [], harness := (true, "8f89b936e86b08b7d5f6b611641d7888c9c6c7b98f6ac260d0b7abeed615f162"), looks := false }, kinds := [], alts := [], laidByText := true, laidKinds := [.data, .data, .data], laidTests := true, laidLooks := .later }
def FnExactTxnTextUptoCardSaid : Prop := Claim7.holds Tryd.pinned (.plain (OpenSpec.upto fnExactTxnTextSpec)) fnExactTxnTextUptoCard

/-- THE SECOND FORM's CARD OF 'laws.FnExactHistoryText'. -/
def fnExactHistoryTextUptoCard : Claim7 := { stood := { row := fnExactHistoryTextUptoRow, standIns := [], harness := (true, "8f89b936e86b08b7d5f6b611641d7888c9c6c7b98f6ac260d0b7abeed615f162"), looks := false }, kinds := [], alts := [], laidByText := true, laidKinds := [.data, .data, .data], laidTests := true, laidLooks := .later }
def FnExactHistoryTextUptoCardSaid : Prop := Claim7.holds Tryd.pinned (.plain (OpenSpec.upto fnExactHistoryTextSpec)) fnExactHistoryTextUptoCard

/-- THE SECOND FORM's CARD OF 'laws.FnBadReads'. -/
def fnBadReadsUptoCard : Claim7 := { stood := { row := fnBadReadsUptoRow, standIns := [], harness := (true, "8f89b936e86b08b7d5f6b611641d7888c9c6c7b98f6ac260d0b7abeed615f162"), looks := false }, kinds := [], alts := [], laidByText := true, laidKinds := [.data, .data, .data], laidTests := true, laidLooks := .later }
def FnBadReadsUptoCardSaid : Prop := Claim7.holds Tryd.pinned (.plain (OpenSpec.upto fnBadReadsSpec)) fnBadReadsUptoCard

/-- THE SECOND FORM's CARD OF 'laws.FnReadsRight'. -/
def fnReadsRightUptoCard : Claim7 := { stood := { row := fnReadsRightUptoRow, standIns := [], harness := (true, "8f89b936e86b08b7d5f6b611641d7888c9c6c7b98f6ac260d0b7abeed615f162"), looks := false }, kinds := [], alts := [], laidByText := true, laidKinds := [.data, .data, .data], laidTests := true, laidLooks := .later }
def FnReadsRightUptoCardSaid : Prop := Claim7.holds Tryd.pinned (.plain (OpenSpec.upto fnReadsRightSpec)) fnReadsRightUptoCard
end Rows
end Go.Proofs.YtciadlhencgjmaaDoor
