/-
  DERIVED. GIVEN WITH THE SEED: THE CARDS: each row of YtlcilhmkbmgkeaaDoorRows.lean that lists a variable, with what it lists TIED to the program's text (the seventh form; the later family's looks); each row that meets fmt, with fmt's text TOLD by the authors' own Lean function (tested against real Go, not proved from fmt's source: count such statements apart). THE CARD IS WHAT COUNTS. Prove the row's statement (the work); the ties are given (YtlcilhmkbmgkeaaDoorTie.lean); close each card by the builder's one call (the guide's Derived/Test/ToyasCard.lean, 'card_holds'). Laid BY PROGRAM, IN A SANDBOX (cutbox-door.mjs). By AI agents, Wed Nov 11 2026. No macro, syntax, notation, axiom, sorry.
-/
import Derived.Test.YtlcilhmkbmgkeaaDoorRows
import GoSem.ClaimSeven
namespace Go.Proofs.YtlcilhmkbmgkeaaDoor
namespace Rows

/-- THE TIED CARD OF 'laws.FnExactSquadNew'. -/
def fnExactSquadNewCard : Claim7 := { stood := { row := fnExactSquadNewRow, standIns := [], harness := (true, "0e7075a3b16ac369d7e93669a7858ed0958ef9dff14bf44efea7e388a7a6d758"), looks := false }, kinds := [], alts := [], laidByText := true, laidKinds := [.wider], laidTests := true, laidLooks := .later }
def FnExactSquadNewCardSaid : Prop := Claim7.holds Tryd.pinned (.plain (OpenSpec.ofChange fnExactSquadNewSpec)) fnExactSquadNewCard

/-- THE TIED CARD OF 'laws.FnMachineBin'. -/
def fnMachineBinCard : Claim7 := { stood := { row := fnMachineBinRow, standIns := [], harness := (true, "0e7075a3b16ac369d7e93669a7858ed0958ef9dff14bf44efea7e388a7a6d758"), looks := false }, kinds := [], alts := [], laidByText := true, laidKinds := [.wider, .data, .data, .data], laidTests := true, laidLooks := .later }
def FnMachineBinCardSaid : Prop := Claim7.holds Tryd.pinned (.plain (OpenSpec.ofChange fnMachineBinSpec)) fnMachineBinCard

/-- THE SECOND FORM's CARD OF 'laws.FnExactSquadNew'. -/
def fnExactSquadNewUptoCard : Claim7 := { stood := { row := fnExactSquadNewUptoRow, standIns := [], harness := (true, "0e7075a3b16ac369d7e93669a7858ed0958ef9dff14bf44efea7e388a7a6d758"), looks := false }, kinds := [], alts := [], laidByText := true, laidKinds := [.wider], laidTests := true, laidLooks := .later }
def FnExactSquadNewUptoCardSaid : Prop := Claim7.holds Tryd.pinned (.plain (OpenSpec.upto fnExactSquadNewSpec)) fnExactSquadNewUptoCard

/-- THE SECOND FORM's CARD OF 'laws.FnMachineBin'. -/
def fnMachineBinUptoCard : Claim7 := { stood := { row := fnMachineBinUptoRow, standIns := [], harness := (true, "0e7075a3b16ac369d7e93669a7858ed0958ef9dff14bf44efea7e388a7a6d758"), looks := false }, kinds := [], alts := [], laidByText := true, laidKinds := [.wider, .data, .data, .data], laidTests := true, laidLooks := .later }
def FnMachineBinUptoCardSaid : Prop := Claim7.holds Tryd.pinned (.plain (OpenSpec.upto fnMachineBinSpec)) fnMachineBinUptoCard
end Rows
end Go.Proofs.YtlcilhmkbmgkeaaDoor
