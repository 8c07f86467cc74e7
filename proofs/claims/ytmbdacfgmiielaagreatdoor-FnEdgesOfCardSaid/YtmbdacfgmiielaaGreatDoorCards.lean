/-
  DERIVED. GIVEN WITH THE SEED: THE CARDS: each row of YtmbdacfgmiielaaGreatDoorRows.lean that lists a variable, with what it lists TIED to the program's text (the seventh form; the later family's looks); each row that meets fmt, with fmt's text TOLD by the authors' own Lean function (tested against real Go, not proved from fmt's source: count such statements apart). THE CARD IS WHAT COUNTS. Prove the row's statement (the work); the ties are given (YtmbdacfgmiielaaGreatDoorTie.lean); close each card by the builder's one call (the guide's Derived/Test/ToyasCard.lean, 'card_holds'). Laid BY PROGRAM, IN A SANDBOX (cutbox-door.mjs). By AI agents, Wed Nov 11 2026. No macro, syntax, notation, axiom, sorry.
-/
import Derived.Test.YtmbdacfgmiielaaGreatDoorRows
import GoSem.ClaimSeven
namespace Go.Proofs.YtmbdacfgmiielaaGreatDoor
namespace Rows

/-- THE TIED CARD OF 'laws.FnEdgesOf'. -/
def fnEdgesOfCard : Claim7 := { stood := { row := fnEdgesOfRow, standIns := [], harness := (true, "bb06088f54bb217b35163a9cdbd471af1a520c731f99f9ed1f03320eda5326ed"), looks := false }, kinds := [], alts := [], laidByText := true, laidKinds := [.data, .data, .data], laidTests := true, laidLooks := .later }
def FnEdgesOfCardSaid : Prop := Claim7.holds Tryz.pinned (.plain (OpenSpec.ofChange fnEdgesOfSpec)) fnEdgesOfCard

/-- THE TIED CARD OF 'laws.FnLevelAllows'. -/
def fnLevelAllowsCard : Claim7 := { stood := { row := fnLevelAllowsRow, standIns := [], harness := (true, "bb06088f54bb217b35163a9cdbd471af1a520c731f99f9ed1f03320eda5326ed"), looks := false }, kinds := [], alts := [], laidByText := true, laidKinds := [.data, .data, .data], laidTests := true, laidLooks := .later }
def FnLevelAllowsCardSaid : Prop := Claim7.holds Tryz.pinned (.plain (OpenSpec.ofChange fnLevelAllowsSpec)) fnLevelAllowsCard

/-- THE TIED CARD OF 'laws.FnLevelOf'. -/
def fnLevelOfCard : Claim7 := { stood := { row := fnLevelOfRow, standIns := [], harness := (true, "bb06088f54bb217b35163a9cdbd471af1a520c731f99f9ed1f03320eda5326ed"), looks := false }, kinds := [], alts := [], laidByText := true, laidKinds := [.data, .data, .data], laidTests := true, laidLooks := .later }
def FnLevelOfCardSaid : Prop := Claim7.holds Tryz.pinned (.plain (OpenSpec.ofChange fnLevelOfSpec)) fnLevelOfCard

/-- THE SECOND FORM's CARD OF 'laws.FnEdgesOf'. -/
def fnEdgesOfUptoCard : Claim7 := { stood := { row := fnEdgesOfUptoRow, standIns := [], harness := (true, "bb06088f54bb217b35163a9cdbd471af1a520c731f99f9ed1f03320eda5326ed"), looks := false }, kinds := [], alts := [], laidByText := true, laidKinds := [.data, .data, .data], laidTests := true, laidLooks := .later }
def FnEdgesOfUptoCardSaid : Prop := Claim7.holds Tryz.pinned (.plain (OpenSpec.upto fnEdgesOfSpec)) fnEdgesOfUptoCard

/-- THE SECOND FORM's CARD OF 'laws.FnLevelAllows'. -/
def fnLevelAllowsUptoCard : Claim7 := { stood := { row := fnLevelAllowsUptoRow, standIns := [], harness := (true, "bb06088f54bb217b35163a9cdbd471af1a520c731f99f9ed1f03320eda5326ed"), looks := false }, kinds := [], alts := [], laidByText := true, laidKinds := [.data, .data, .data], laidTests := true, laidLooks := .later }
def FnLevelAllowsUptoCardSaid : Prop := Claim7.holds Tryz.pinned (.plain (OpenSpec.upto fnLevelAllowsSpec)) fnLevelAllowsUptoCard

/-- THE SECOND FORM's CARD OF 'laws.FnLevelOf'. -/
def fnLevelOfUptoCard : Claim7 := { stood := { row := fnLevelOfUptoRow, standIns := [], harness := (true, "bb06088f54bb217b35163a9cdbd471af1a520c731f99f9ed1f03320eda5326ed"), looks := false }, kinds := [], alts := [], laidByText := true, laidKinds := [.data, .data, .data], laidTests := true, laidLooks := .later }
def FnLevelOfUptoCardSaid : Prop := Claim7.holds Tryz.pinned (.plain (OpenSpec.upto fnLevelOfSpec)) fnLevelOfUptoCard
end Rows
end Go.Proofs.YtmbdacfgmiielaaGreatDoor
