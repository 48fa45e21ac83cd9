/-
  DERIVED. GIVEN WITH THE SEED: THE CARDS: each row of YtlcilhmkbmgkeaaGreatDoorRows.lean that lists a variable, with what it lists TIED to the program's text (the seventh form; the later family's looks); each row that meets fmt, with fmt's text TOLD by the authors' own Lean function (tested against real Go, not proved from fmt's source: count such statements apart). THE CARD IS WHAT COUNTS. Prove the row's statement (the work); the ties are given (YtlcilhmkbmgkeaaGreatDoorTie.lean); close each card by the builder's one call (the guide's Derived/Test/ToyasCard.lean, 'card_holds'). Laid BY PROGRAM, IN A SANDBOX (cutbox-door.mjs). By AI agents, Wed Nov 11 2026. No macro, syntax, notation, axiom, sorry.
-/
import Derived.Test.YtlcilhmkbmgkeaaGreatDoorRows
import GoSem.ClaimSeven
namespace Go.Proofs.YtlcilhmkbmgkeaaGreatDoor
namespace Rows

/-- THE TIED CARD OF 'laws.FnExactSquadRun'. -/
def fnExactSquadRunCard : Claim7 := { stood := { row := fnExactSquadRunRow, standIns := [], harness := (true, "bce1cb28e7297ff9a322bfcae7caecf9ad9b5ce2e855101a2ed5f1d111d98cd0"), looks := false }, kinds := [], alts := [], laidByText := true, laidKinds := [.wider, .data], laidTests := true, laidLooks := .later }
def FnExactSquadRunCardSaid : Prop := Claim7.holds Tryz.pinned (.plain (OpenSpec.ofChange fnExactSquadRunSpec)) fnExactSquadRunCard

/-- THE TIED CARD OF 'laws.FnTaskPlaces'. -/
def fnTaskPlacesCard : Claim7 := { stood := { row := fnTaskPlacesRow, standIns := [], harness := (true, "bce1cb28e7297ff9a322bfcae7caecf9ad9b5ce2e855101a2ed5f1d111d98cd0"), looks := false }, kinds := [], alts := [], laidByText := true, laidKinds := [.data, .data], laidTests := true, laidLooks := .later }
def FnTaskPlacesCardSaid : Prop := Claim7.holds Tryz.pinned (.plain (OpenSpec.ofChange fnTaskPlacesSpec)) fnTaskPlacesCard

/-- THE SECOND FORM's CARD OF 'laws.FnExactSquadRun'. -/
def fnExactSquadRunUptoCard : Claim7 := { stood := { row := fnExactSquadRunUptoRow, standIns := [], harness := (true, "bce1cb28e7297ff9a322bfcae7caecf9ad9b5ce2e855101a2ed5f1d111d98cd0"), looks := false }, kinds := [], alts := [], laidByText := true, laidKinds := [.wider, .data], laidTests := true, laidLooks := .later }
def FnExactSquadRunUptoCardSaid : Prop := Claim7.holds Tryz.pinned (.plain (OpenSpec.upto fnExactSquadRunSpec)) fnExactSquadRunUptoCard

/-- THE SECOND FORM's CARD OF 'laws.FnTaskPlaces'. -/
def fnTaskPlacesUptoCard : Claim7 := { stood := { row := fnTaskPlacesUptoRow, standIns := [], harness := (true, "bce1cb28e7297ff9a322bfcae7caecf9ad9b5ce2e855101a2ed5f1d111d98cd0"), looks := false }, kinds := [], alts := [], laidByText := true, laidKinds := [.data, .data], laidTests := true, laidLooks := .later }
def FnTaskPlacesUptoCardSaid : Prop := Claim7.holds Tryz.pinned (.plain (OpenSpec.upto fnTaskPlacesSpec)) fnTaskPlacesUptoCard
end Rows
end Go.Proofs.YtlcilhmkbmgkeaaGreatDoor
