/-
  DERIVED. GIVEN WITH THE SEED: THE CARDS: each row of YtdidlffbobgejaaDoorRows.lean that lists a variable, with what it lists TIED to the program's text (the seventh form; the later family's looks); each row that meets fmt, with fmt's text TOLD by the authors' own Lean function (tested against real Go, not proved from fmt's source: count such statements apart). THE CARD IS WHAT COUNTS. Prove the row's statement (the work); the ties are given (YtdidlffbobgejaaDoorTie.lean); close each card by the builder's one call (the guide's Derived/Test/ToyasCard.lean, 'card_holds'). Laid BY PROGRAM, IN A SANDBOX (cutbox-door.mjs). By AI agents, Wed Nov 11 2026. No macro, syntax, notation, axiom, sorry.
-/
import Derived.Test.YtdidlffbobgejaaDoorRows
import GoSem.ClaimSeven
namespace Go.Proofs.YtdidlffbobgejaaDoor
namespace Rows

/-- THE TIED CARD OF 'laws.FnExactReadOp'. -/
def fnExactReadOpCard : Claim7 := { stood := { row := fnExactReadOpRow, standIns := [], harness := (true, "1048376df10d1fc570b217fc2fa65958a4e7be7addd3f6d1633d7d62a1c303df"), looks := true }, kinds := [], alts := [], laidByText := true, laidKinds := [.data, .data, .data, .sentinel, .sentinel], laidTests := true, laidLooks := .later }
def FnExactReadOpCardSaid : Prop := Claim7.holds Tryd.pinned (.plain (OpenSpec.ofChange fnExactReadOpSpec)) fnExactReadOpCard

/-- THE TIED CARD OF 'laws.FnOpText'. -/
def fnOpTextCard : Claim7 := { stood := { row := fnOpTextRow, standIns := [], harness := (true, "1048376df10d1fc570b217fc2fa65958a4e7be7addd3f6d1633d7d62a1c303df"), looks := true }, kinds := [], alts := [], laidByText := true, laidKinds := [.data, .data, .data, .sentinel, .sentinel], laidTests := true, laidLooks := .later }
def FnOpTextCardSaid : Prop := Claim7.holds Tryd.pinned (.plain (OpenSpec.ofChange fnOpTextSpec)) fnOpTextCard

/-- THE TIED CARD OF 'laws.FnReadOp'. -/
def fnReadOpCard : Claim7 := { stood := { row := fnReadOpRow, standIns := [], harness := (true, "1048376df10d1fc570b217fc2fa65958a4e7be7addd3f6d1633d7d62a1c303df"), looks := true }, kinds := [], alts := [], laidByText := true, laidKinds := [.data, .data, .data, .sentinel, .sentinel], laidTests := true, laidLooks := .later }
def FnReadOpCardSaid : Prop := Claim7.holds Tryd.pinned (.plain (OpenSpec.ofChange fnReadOpSpec)) fnReadOpCard

/-- THE TIED CARD OF 'laws.FnExactReachFrom'. -/
def fnExactReachFromCard : Claim7 := { stood := { row := fnExactReachFromRow, standIns := [], harness := (true, "1048376df10d1fc570b217fc2fa65958a4e7be7addd3f6d1633d7d62a1c303df"), looks := true }, kinds := [], alts := [], laidByText := true, laidKinds := [.data, .data], laidTests := true, laidLooks := .later }
def FnExactReachFromCardSaid : Prop := Claim7.holds Tryd.pinned (.plain (OpenSpec.ofChange fnExactReachFromSpec)) fnExactReachFromCard

/-- THE TIED CARD OF 'laws.FnReachFrom'. -/
def fnReachFromCard : Claim7 := { stood := { row := fnReachFromRow, standIns := [], harness := (true, "1048376df10d1fc570b217fc2fa65958a4e7be7addd3f6d1633d7d62a1c303df"), looks := true }, kinds := [], alts := [], laidByText := true, laidKinds := [.data, .data, .data], laidTests := true, laidLooks := .later }
def FnReachFromCardSaid : Prop := Claim7.holds Tryd.pinned (.plain (OpenSpec.ofChange fnReachFromSpec)) fnReachFromCard

/-- THE SECOND FORM's CARD OF 'laws.FnExactReadOp'. -/
def fnExactReadOpUptoCard : Claim7 := { stood := { row := fnExactReadOpUptoRow, standIns := [], harness := (true, "1048376df10d1fc570b217fc2fa65958a4e7be7addd3f6d1633d7d62a1c303df"), looks := true }, kinds := [], alts := [], laidByText := true, laidKinds := [.data, .data, .data, .sentinel, .sentinel], laidTests := true, laidLooks := .later }
def FnExactReadOpUptoCardSaid : Prop := Claim7.holds Tryd.pinned (.plain (OpenSpec.upto fnExactReadOpSpec)) fnExactReadOpUptoCard

/-- THE SECOND FORM's CARD OF 'laws.FnOpText'. -/
def fnOpTextUptoCard : Claim7 := { stood := { row := fnOpTextUptoRow, standIns := [], harness := (true, "1048376df10d1fc570b217fc2fa65958a4e7be7addd3f6d1633d7d62a1c303df"), looks := true }, kinds := [], alts := [], laidByText := true, laidKinds := [.data, .data, .data, .sentinel, .sentinel], laidTests := true, laidLooks := .later }
def FnOpTextUptoCardSaid : Prop := Claim7.holds Tryd.pinned (.plain (OpenSpec.upto fnOpTextSpec)) fnOpTextUptoCard

/-- THE SECOND FORM's CARD OF 'laws.FnReadOp'. -/
def fnReadOpUptoCard : Claim7 := { stood := { row := fnReadOpUptoRow, standIns := [], harness := (true, "1048376df10d1fc570b217fc2fa65958a4e7be7addd3f6d1633d7d62a1c303df"), looks := true }, kinds := [], alts := [], laidByText := true, laidKinds := [.data, .data, .data, .sentinel, .sentinel], laidTests := true, laidLooks := .later }
def FnReadOpUptoCardSaid : Prop := Claim7.holds Tryd.pinned (.plain (OpenSpec.upto fnReadOpSpec)) fnReadOpUptoCard

/-- THE SECOND FORM's CARD OF 'laws.FnExactReachFrom'. -/
def fnExactReachFromUptoCard : Claim7 := { stood := { row := fnExactReachFromUptoRow, standIns := [], harness := (true, "1048376df10d1fc570b217fc2fa65958a4e7be7addd3f6d1633d7d62a1c303df"), looks := true }, kinds := [], alts := [], laidByText := true, laidKinds := [.data, .data], laidTests := true, laidLooks := .later }
def FnExactReachFromUptoCardSaid : Prop := Claim7.holds Tryd.pinned (.plain (OpenSpec.upto fnExactReachFromSpec)) fnExactReachFromUptoCard

/-- THE SECOND FORM's CARD OF 'laws.FnReachFrom'. -/
def fnReachFromUptoCard : Claim7 := { stood := { row := fnReachFromUptoRow, standIns := [], harness := (true, "1048376df10d1fc570b217fc2fa65958a4e7be7addd3f6d1633d7d62a1c303df"), looks := true }, kinds := [], alts := [], laidByText := true, laidKinds := [.data, .data, .data], laidTests := true, laidLooks := .later }
def FnReachFromUptoCardSaid : Prop := Claim7.holds Tryd.pinned (.plain (OpenSpec.upto fnReachFromSpec)) fnReachFromUptoCard
end Rows
end Go.Proofs.YtdidlffbobgejaaDoor
