/-
  DERIVED. GIVEN WITH THE SEED: THE CARDS: each row of YtgoolakphehabaaDoorRows.lean that lists a variable, with what it lists TIED to the program's text (the seventh form; the later family's looks); each row that meets fmt, with fmt's text TOLD by the authors' own Lean function (tested against real Go, not proved from fmt's source: count such statements apart). THE CARD IS WHAT COUNTS. Prove the row's statement (the work); the ties are given (YtgoolakphehabaaDoorTie.lean); close each card by the builder's one call (the guide's Derived/Test/ToyasCard.lean, 'card_holds'). Laid BY PROGRAM, IN A SANDBOX (cutbox-door.mjs). By AI agents, Wed Nov 11 2026. No macro, syntax, notation, axiom, sorry.
-/
import Derived.Test.YtgoolakphehabaaDoorRows
import GoSem.ClaimSeven
namespace Go.Proofs.YtgoolakphehabaaDoor
namespace Rows

/-- THE TIED CARD OF 'laws.FnEdgesValid'. -/
def fnEdgesValidCard : Claim7 := { stood := { row := fnEdgesValidRow, standIns := [], harness := (true, "94919de50dc61e76c8a8f0ec41523275ee0d1864c7a1643bff5aaa64368fd1d3"), looks := false }, kinds := [], alts := [], laidByText := true, laidKinds := [.data, .data, .data], laidTests := true, laidLooks := .later }
def FnEdgesValidCardSaid : Prop := Claim7.holds Tryd.pinned (.plain (OpenSpec.ofChange fnEdgesValidSpec)) fnEdgesValidCard

/-- THE TIED CARD OF 'laws.FnTopOrder'. -/
def fnTopOrderCard : Claim7 := { stood := { row := fnTopOrderRow, standIns := [], harness := (true, "94919de50dc61e76c8a8f0ec41523275ee0d1864c7a1643bff5aaa64368fd1d3"), looks := false }, kinds := [], alts := [], laidByText := true, laidKinds := [.data, .data, .data], laidTests := true, laidLooks := .later }
def FnTopOrderCardSaid : Prop := Claim7.holds Tryd.pinned (.plain (OpenSpec.ofChange fnTopOrderSpec)) fnTopOrderCard

/-- THE TIED CARD OF 'laws.FnEdgesMore'. -/
def fnEdgesMoreCard : Claim7 := { stood := { row := fnEdgesMoreRow, standIns := [], harness := (true, "94919de50dc61e76c8a8f0ec41523275ee0d1864c7a1643bff5aaa64368fd1d3"), looks := false }, kinds := [], alts := [], laidByText := true, laidKinds := [.data, .data, .data], laidTests := true, laidLooks := .later }
def FnEdgesMoreCardSaid : Prop := Claim7.holds Tryd.pinned (.plain (OpenSpec.ofChange fnEdgesMoreSpec)) fnEdgesMoreCard

/-- THE TIED CARD OF 'laws.FnAnomaliesOf'. -/
def fnAnomaliesOfCard : Claim7 := { stood := { row := fnAnomaliesOfRow, standIns := [], harness := (true, "94919de50dc61e76c8a8f0ec41523275ee0d1864c7a1643bff5aaa64368fd1d3"), looks := false }, kinds := [], alts := [], laidByText := true, laidKinds := [.data, .data, .data], laidTests := true, laidLooks := .later }
def FnAnomaliesOfCardSaid : Prop := Claim7.holds Tryd.pinned (.plain (OpenSpec.ofChange fnAnomaliesOfSpec)) fnAnomaliesOfCard

/-- THE SECOND FORM's CARD OF 'laws.FnEdgesValid'. -/
def fnEdgesValidUptoCard : Claim7 := { stood := { row := fnEdgesValidUptoRow, standIns := [], harness := (true, "94919de50dc61e76c8a8f0ec41523275ee0d1864c7a1643bff5aaa64368fd1d3"), looks := false }, kinds := [], alts := [], laidByText := true, laidKinds := [.data, .data, .data], laidTests := true, laidLooks := .later }
def FnEdgesValidUptoCardSaid : Prop := Claim7.holds Tryd.pinned (.plain (OpenSpec.upto fnEdgesValidSpec)) fnEdgesValidUptoCard

/-- THE SECOND FORM's CARD OF 'laws.FnTopOrder'. -/
def fnTopOrderUptoCard : Claim7 := { stood := { row := fnTopOrderUptoRow, standIns := [], harness := (true, "94919de50dc61e76c8a8f0ec41523275ee0d1864c7a1643bff5aaa64368fd1d3"), looks := false }, kinds := [], alts := [], laidByText := true, laidKinds := [.data, .data, .data], laidTests := true, laidLooks := .later }
def FnTopOrderUptoCardSaid : Prop := Claim7.holds Tryd.pinned (.plain (OpenSpec.upto fnTopOrderSpec)) fnTopOrderUptoCard

/-- THE SECOND FORM's CARD OF 'laws.FnEdgesMore'. -/
def fnEdgesMoreUptoCard : Claim7 := { stood := { row := fnEdgesMoreUptoRow, standIns := [], harness := (true, "94919de50dc61e76c8a8f0ec41523275ee0d1864c7a1643bff5aaa64368fd1d3"), looks := false }, kinds := [], alts := [], laidByText := true, laidKinds := [.data, .data, .data], laidTests := true, laidLooks := .later }
def FnEdgesMoreUptoCardSaid : Prop := Claim7.holds Tryd.pinned (.plain (OpenSpec.upto fnEdgesMoreSpec)) fnEdgesMoreUptoCard

/-- THE SECOND FORM's CARD OF 'laws.FnAnomaliesOf'. -/
def fnAnomaliesOfUptoCard : Claim7 := { stood := { row := fnAnomaliesOfUptoRow, standIns := [], harness := (true, "94919de50dc61e76c8a8f0ec41523275ee0d1864c7a1643bff5aaa64368fd1d3"), looks := false }, kinds := [], alts := [], laidByText := true, laidKinds := [.data, .data, .data], laidTests := true, laidLooks := .later }
def FnAnomaliesOfUptoCardSaid : Prop := Claim7.holds Tryd.pinned (.plain (OpenSpec.upto fnAnomaliesOfSpec)) fnAnomaliesOfUptoCard
end Rows
end Go.Proofs.YtgoolakphehabaaDoor
