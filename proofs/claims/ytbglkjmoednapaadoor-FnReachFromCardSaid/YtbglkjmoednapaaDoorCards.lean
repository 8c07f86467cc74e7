/-
  DERIVED. GIVEN WITH THE SEED: THE CARDS: each row of YtbglkjmoednapaaDoorRows.lean that lists a variable, with what it lists TIED to the program's text (the seventh form; the later family's looks); each row that meets fmt, with fmt's text TOLD by the authors' own Lean function (tested against real Go, not proved from fmt's source: count such statements apart). THE CARD IS WHAT COUNTS. Prove the row's statement (the work); the ties are given (YtbglkjmoednapaaDoorTie.lean); close each card by the builder's one call (the guide's Derived/Test/ToyasCard.lean, 'card_holds'). Laid BY PROGRAM, IN A SANDBOX (cutbox-door.mjs). By AI agents, Wed Nov 11 2026. No macro, syntax, notation, axiom, sorry.
-/
import Derived.Test.YtbglkjmoednapaaDoorRows
import GoSem.ClaimSeven
namespace Go.Proofs.YtbglkjmoednapaaDoor
namespace Rows

/-- THE TIED CARD OF 'laws.FnReachFrom'. -/
def fnReachFromCard : Claim7 := { stood := { row := fnReachFromRow, standIns := [], harness := (true, "b1595bd5ff011f7e3ebb2ed324cf08de81fb223bfd0d0ad61be625efc51fafd7"), looks := false }, kinds := [], alts := [], laidByText := true, laidKinds := [.data, .data, .data], laidTests := true, laidLooks := .later }
def FnReachFromCardSaid : Prop := Claim7.holds Tryd.pinned (.plain (OpenSpec.ofChange fnReachFromSpec)) fnReachFromCard

/-- THE TIED CARD OF 'laws.FnHasAnomaly'. -/
def fnHasAnomalyCard : Claim7 := { stood := { row := fnHasAnomalyRow, standIns := [], harness := (true, "b1595bd5ff011f7e3ebb2ed324cf08de81fb223bfd0d0ad61be625efc51fafd7"), looks := false }, kinds := [], alts := [], laidByText := true, laidKinds := [.data, .data, .data], laidTests := true, laidLooks := .later }
def FnHasAnomalyCardSaid : Prop := Claim7.holds Tryd.pinned (.plain (OpenSpec.ofChange fnHasAnomalySpec)) fnHasAnomalyCard

/-- THE SECOND FORM's CARD OF 'laws.FnReachFrom'. -/
def fnReachFromUptoCard : Claim7 := { stood := { row := fnReachFromUptoRow, standIns := [], harness := (true, "b1595bd5ff011f7e3ebb2ed324cf08de81fb223bfd0d0ad61be625efc51fafd7"), looks := false }, kinds := [], alts := [], laidByText := true, laidKinds := [.data, .data, .data], laidTests := true, laidLooks := .later }
def FnReachFromUptoCardSaid : Prop := Claim7.holds Tryd.pinned (.plain (OpenSpec.upto fnReachFromSpec)) fnReachFromUptoCard

/-- THE SECOND FORM's CARD OF 'laws.FnHasAnomaly'. -/
def fnHasAnomalyUptoCard : Claim7 := { stood := { row := fnHasAnomalyUptoRow, standIns := [], harness := (true, "b1595bd5ff011f7e3ebb2ed324cf08de81fb223bfd0d0ad61be625efc51fafd7"), looks := false }, kinds := [], alts := [], laidByText := true, laidKinds := [.data, .data, .data], laidTests := true, laidLooks := .later }
def FnHasAnomalyUptoCardSaid : Prop := Claim7.holds Tryd.pinned (.plain (OpenSpec.upto fnHasAnomalySpec)) fnHasAnomalyUptoCard
end Rows
end Go.Proofs.YtbglkjmoednapaaDoor
