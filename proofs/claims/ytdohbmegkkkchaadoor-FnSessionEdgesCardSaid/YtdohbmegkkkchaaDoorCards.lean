/-
  DERIVED. GIVEN WITH THE SEED: THE CARDS: each row of YtdohbmegkkkchaaDoorRows.lean that lists a variable, with what it lists TIED to the program's text (the seventh form; the later family's looks); each row that meets fmt, with fmt's text TOLD by the authors' own Lean function (tested against real Go, not proved from fmt's source: count such statements apart). THE CARD IS WHAT COUNTS. Prove the row's statement (the work); the ties are given (YtdohbmegkkkchaaDoorTie.lean); close each card by the builder's one call (the guide's Derived/Test/ToyasCard.lean, 'card_holds'). Laid BY PROGRAM, IN A SANDBOX (cutbox-door.mjs). By AI agents, Wed Nov 11 2026. No macro, syntax, notation, axiom, sorry.
-/
import Derived.Test.YtdohbmegkkkchaaDoorRows
import GoSem.ClaimSeven
namespace Go.Proofs.YtdohbmegkkkchaaDoor
namespace Rows

/-- THE TIED CARD OF 'laws.FnSessionEdges'. -/
def fnSessionEdgesCard : Claim7 := { stood := { row := fnSessionEdgesRow, standIns := [], harness := (true, "d624deffbf220b0a8b7c0606820278c0a85223e81b276dca0830adda36601219"), looks := false }, kinds := [], alts := [], laidByText := true, laidKinds := [.data, .data, .data], laidTests := true, laidLooks := .later }
def FnSessionEdgesCardSaid : Prop := Claim7.holds Tryd.pinned (.plain (OpenSpec.ofChange fnSessionEdgesSpec)) fnSessionEdgesCard

/-- THE TIED CARD OF 'laws.FnOrdersValid'. -/
def fnOrdersValidCard : Claim7 := { stood := { row := fnOrdersValidRow, standIns := [], harness := (true, "d624deffbf220b0a8b7c0606820278c0a85223e81b276dca0830adda36601219"), looks := false }, kinds := [], alts := [], laidByText := true, laidKinds := [.data, .data, .data], laidTests := true, laidLooks := .later }
def FnOrdersValidCardSaid : Prop := Claim7.holds Tryd.pinned (.plain (OpenSpec.ofChange fnOrdersValidSpec)) fnOrdersValidCard

/-- THE TIED CARD OF 'laws.FnSerialRight'. -/
def fnSerialRightCard : Claim7 := { stood := { row := fnSerialRightRow, standIns := [], harness := (true, "d624deffbf220b0a8b7c0606820278c0a85223e81b276dca0830adda36601219"), looks := false }, kinds := [], alts := [], laidByText := true, laidKinds := [.data, .data, .data], laidTests := true, laidLooks := .later }
def FnSerialRightCardSaid : Prop := Claim7.holds Tryd.pinned (.plain (OpenSpec.ofChange fnSerialRightSpec)) fnSerialRightCard

/-- THE TIED CARD OF 'laws.FnFirstOrders'. -/
def fnFirstOrdersCard : Claim7 := { stood := { row := fnFirstOrdersRow, standIns := [], harness := (true, "d624deffbf220b0a8b7c0606820278c0a85223e81b276dca0830adda36601219"), looks := false }, kinds := [], alts := [], laidByText := true, laidKinds := [.data, .data, .data], laidTests := true, laidLooks := .later }
def FnFirstOrdersCardSaid : Prop := Claim7.holds Tryd.pinned (.plain (OpenSpec.ofChange fnFirstOrdersSpec)) fnFirstOrdersCard

/-- THE TIED CARD OF 'laws.FnAllOrders'. -/
def fnAllOrdersCard : Claim7 := { stood := { row := fnAllOrdersRow, standIns := [], harness := (true, "d624deffbf220b0a8b7c0606820278c0a85223e81b276dca0830adda36601219"), looks := false }, kinds := [], alts := [], laidByText := true, laidKinds := [.data, .data, .data], laidTests := true, laidLooks := .later }
def FnAllOrdersCardSaid : Prop := Claim7.holds Tryd.pinned (.plain (OpenSpec.ofChange fnAllOrdersSpec)) fnAllOrdersCard

/-- THE SECOND FORM's CARD OF 'laws.FnSessionEdges'. -/
def fnSessionEdgesUptoCard : Claim7 := { stood := { row := fnSessionEdgesUptoRow, standIns := [], harness := (true, "d624deffbf220b0a8b7c0606820278c0a85223e81b276dca0830adda36601219"), looks := false }, kinds := [], alts := [], laidByText := true, laidKinds := [.data, .data, .data], laidTests := true, laidLooks := .later }
def FnSessionEdgesUptoCardSaid : Prop := Claim7.holds Tryd.pinned (.plain (OpenSpec.upto fnSessionEdgesSpec)) fnSessionEdgesUptoCard

/-- THE SECOND FORM's CARD OF 'laws.FnOrdersValid'. -/
def fnOrdersValidUptoCard : Claim7 := { stood := { row := fnOrdersValidUptoRow, standIns := [], harness := (true, "d624deffbf220b0a8b7c0606820278c0a85223e81b276dca0830adda36601219"), looks := false }, kinds := [], alts := [], laidByText := true, laidKinds := [.data, .data, .data], laidTests := true, laidLooks := .later }
def FnOrdersValidUptoCardSaid : Prop := Claim7.holds Tryd.pinned (.plain (OpenSpec.upto fnOrdersValidSpec)) fnOrdersValidUptoCard

/-- THE SECOND FORM's CARD OF 'laws.FnSerialRight'. -/
def fnSerialRightUptoCard : Claim7 := { stood := { row := fnSerialRightUptoRow, standIns := [], harness := (true, "d624deffbf220b0a8b7c0606820278c0a85223e81b276dca0830adda36601219"), looks := false }, kinds := [], alts := [], laidByText := true, laidKinds := [.data, .data, .data], laidTests := true, laidLooks := .later }
def FnSerialRightUptoCardSaid : Prop := Claim7.holds Tryd.pinned (.plain (OpenSpec.upto fnSerialRightSpec)) fnSerialRightUptoCard

/-- THE SECOND FORM's CARD OF 'laws.FnFirstOrders'. -/
def fnFirstOrdersUptoCard : Claim7 := { stood := { row := fnFirstOrdersUptoRow, standIns := [], harness := (true, "d624deffbf220b0a8b7c0606820278c0a85223e81b276dca0830adda36601219"), looks := false }, kinds := [], alts := [], laidByText := true, laidKinds := [.data, .data, .data], laidTests := true, laidLooks := .later }
def FnFirstOrdersUptoCardSaid : Prop := Claim7.holds Tryd.pinned (.plain (OpenSpec.upto fnFirstOrdersSpec)) fnFirstOrdersUptoCard

/-- THE SECOND FORM's CARD OF 'laws.FnAllOrders'. -/
def fnAllOrdersUptoCard : Claim7 := { stood := { row := fnAllOrdersUptoRow, standIns := [], harness := (true, "d624deffbf220b0a8b7c0606820278c0a85223e81b276dca0830adda36601219"), looks := false }, kinds := [], alts := [], laidByText := true, laidKinds := [.data, .data, .data], laidTests := true, laidLooks := .later }
def FnAllOrdersUptoCardSaid : Prop := Claim7.holds Tryd.pinned (.plain (OpenSpec.upto fnAllOrdersSpec)) fnAllOrdersUptoCard
end Rows
end Go.Proofs.YtdohbmegkkkchaaDoor
