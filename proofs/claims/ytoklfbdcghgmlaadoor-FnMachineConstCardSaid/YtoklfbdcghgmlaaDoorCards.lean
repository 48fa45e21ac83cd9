/-
  DERIVED. GIVEN WITH THE SEED: THE CARDS: each row of YtoklfbdcghgmlaaDoorRows.lean that lists a variable, with what it lists TIED to the program's text (the seventh form; the later family's looks); each row that meets fmt, with fmt's text TOLD by the authors' own Lean function (tested against real Go, not proved from fmt's source: count such statements apart). THE CARD IS WHAT COUNTS. Prove the row's statement (the work); the ties are given (YtoklfbdcghgmlaaDoorTie.lean); close each card by the builder's one call (the guide's Derived/Test/ToyasCard.lean, 'card_holds'). Laid BY PROGRAM, IN A SANDBOX (cutbox-door.mjs). By AI agents, Wed Nov 11 2026. No macro, syntax, notation, axiom, sorry.
-/
import Derived.Test.YtoklfbdcghgmlaaDoorRows
import GoSem.ClaimSeven
namespace Go.Proofs.YtoklfbdcghgmlaaDoor
namespace Rows

/-- THE TIED CARD OF 'laws.FnExactHartNew'. -/
def fnExactHartNewCard : Claim7 := { stood := { row := fnExactHartNewRow, standIns := [], harness := (true, "6714078ebb4478d4d403befe1667e4ee34fc9532bbfc7447b532ffbe889bab48"), looks := false }, kinds := [], alts := [], laidByText := true, laidKinds := [.wider], laidTests := true, laidLooks := .later }
def FnExactHartNewCardSaid : Prop := Claim7.holds Tryd.pinned (.plain (OpenSpec.ofChange fnExactHartNewSpec)) fnExactHartNewCard

/-- THE TIED CARD OF 'laws.FnExactQuadInstrs'. -/
def fnExactQuadInstrsCard : Claim7 := { stood := { row := fnExactQuadInstrsRow, standIns := [], harness := (true, "6714078ebb4478d4d403befe1667e4ee34fc9532bbfc7447b532ffbe889bab48"), looks := false }, kinds := [], alts := [], laidByText := true, laidKinds := [.data, .data], laidTests := true, laidLooks := .later }
def FnExactQuadInstrsCardSaid : Prop := Claim7.holds Tryd.pinned (.plain (OpenSpec.ofChange fnExactQuadInstrsSpec)) fnExactQuadInstrsCard

/-- THE TIED CARD OF 'laws.FnQuadCall'. -/
def fnQuadCallCard : Claim7 := { stood := { row := fnQuadCallRow, standIns := [], harness := (true, "6714078ebb4478d4d403befe1667e4ee34fc9532bbfc7447b532ffbe889bab48"), looks := false }, kinds := [], alts := [], laidByText := true, laidKinds := [.data, .data], laidTests := true, laidLooks := .later }
def FnQuadCallCardSaid : Prop := Claim7.holds Tryd.pinned (.plain (OpenSpec.ofChange fnQuadCallSpec)) fnQuadCallCard

/-- THE TIED CARD OF 'laws.FnQuadInstrsColors'. -/
def fnQuadInstrsColorsCard : Claim7 := { stood := { row := fnQuadInstrsColorsRow, standIns := [], harness := (true, "6714078ebb4478d4d403befe1667e4ee34fc9532bbfc7447b532ffbe889bab48"), looks := false }, kinds := [], alts := [], laidByText := true, laidKinds := [.data, .data], laidTests := true, laidLooks := .later }
def FnQuadInstrsColorsCardSaid : Prop := Claim7.holds Tryd.pinned (.plain (OpenSpec.ofChange fnQuadInstrsColorsSpec)) fnQuadInstrsColorsCard

/-- THE TIED CARD OF 'laws.FnQuadInstrsOff'. -/
def fnQuadInstrsOffCard : Claim7 := { stood := { row := fnQuadInstrsOffRow, standIns := [], harness := (true, "6714078ebb4478d4d403befe1667e4ee34fc9532bbfc7447b532ffbe889bab48"), looks := false }, kinds := [], alts := [], laidByText := true, laidKinds := [.data, .data], laidTests := true, laidLooks := .later }
def FnQuadInstrsOffCardSaid : Prop := Claim7.holds Tryd.pinned (.plain (OpenSpec.ofChange fnQuadInstrsOffSpec)) fnQuadInstrsOffCard

/-- THE TIED CARD OF 'laws.FnMachineConst'. -/
def fnMachineConstCard : Claim7 := { stood := { row := fnMachineConstRow, standIns := [], harness := (true, "6714078ebb4478d4d403befe1667e4ee34fc9532bbfc7447b532ffbe889bab48"), looks := false }, kinds := [], alts := [], laidByText := true, laidKinds := [.wider, .data], laidTests := true, laidLooks := .later }
def FnMachineConstCardSaid : Prop := Claim7.holds Tryd.pinned (.plain (OpenSpec.ofChange fnMachineConstSpec)) fnMachineConstCard

/-- THE TIED CARD OF 'laws.FnExactTaskPlaces'. -/
def fnExactTaskPlacesCard : Claim7 := { stood := { row := fnExactTaskPlacesRow, standIns := [], harness := (true, "6714078ebb4478d4d403befe1667e4ee34fc9532bbfc7447b532ffbe889bab48"), looks := false }, kinds := [], alts := [], laidByText := true, laidKinds := [.data, .data], laidTests := true, laidLooks := .later }
def FnExactTaskPlacesCardSaid : Prop := Claim7.holds Tryd.pinned (.plain (OpenSpec.ofChange fnExactTaskPlacesSpec)) fnExactTaskPlacesCard

/-- THE TIED CARD OF 'laws.FnQuadInstrs'. -/
def fnQuadInstrsCard : Claim7 := { stood := { row := fnQuadInstrsRow, standIns := [], harness := (true, "6714078ebb4478d4d403befe1667e4ee34fc9532bbfc7447b532ffbe889bab48"), looks := false }, kinds := [], alts := [], laidByText := true, laidKinds := [.data, .data], laidTests := true, laidLooks := .later }
def FnQuadInstrsCardSaid : Prop := Claim7.holds Tryd.pinned (.plain (OpenSpec.ofChange fnQuadInstrsSpec)) fnQuadInstrsCard

/-- THE TIED CARD OF 'laws.FnExactTaskInstrs'. -/
def fnExactTaskInstrsCard : Claim7 := { stood := { row := fnExactTaskInstrsRow, standIns := [], harness := (true, "6714078ebb4478d4d403befe1667e4ee34fc9532bbfc7447b532ffbe889bab48"), looks := false }, kinds := [], alts := [], laidByText := true, laidKinds := [.data, .data], laidTests := true, laidLooks := .later }
def FnExactTaskInstrsCardSaid : Prop := Claim7.holds Tryd.pinned (.plain (OpenSpec.ofChange fnExactTaskInstrsSpec)) fnExactTaskInstrsCard

/-- THE TIED CARD OF 'laws.FnExactSquadNew'. -/
def fnExactSquadNewCard : Claim7 := { stood := { row := fnExactSquadNewRow, standIns := [], harness := (true, "6714078ebb4478d4d403befe1667e4ee34fc9532bbfc7447b532ffbe889bab48"), looks := false }, kinds := [], alts := [], laidByText := true, laidKinds := [.wider], laidTests := true, laidLooks := .later }
def FnExactSquadNewCardSaid : Prop := Claim7.holds Tryd.pinned (.plain (OpenSpec.ofChange fnExactSquadNewSpec)) fnExactSquadNewCard

/-- THE TIED CARD OF 'laws.FnMachineBin'. -/
def fnMachineBinCard : Claim7 := { stood := { row := fnMachineBinRow, standIns := [], harness := (true, "6714078ebb4478d4d403befe1667e4ee34fc9532bbfc7447b532ffbe889bab48"), looks := false }, kinds := [], alts := [], laidByText := true, laidKinds := [.wider, .data, .data, .data], laidTests := true, laidLooks := .later }
def FnMachineBinCardSaid : Prop := Claim7.holds Tryd.pinned (.plain (OpenSpec.ofChange fnMachineBinSpec)) fnMachineBinCard

/-- THE SECOND FORM's CARD OF 'laws.FnExactHartNew'. -/
def fnExactHartNewUptoCard : Claim7 := { stood := { row := fnExactHartNewUptoRow, standIns := [], harness := (true, "6714078ebb4478d4d403befe1667e4ee34fc9532bbfc7447b532ffbe889bab48"), looks := false }, kinds := [], alts := [], laidByText := true, laidKinds := [.wider], laidTests := true, laidLooks := .later }
def FnExactHartNewUptoCardSaid : Prop := Claim7.holds Tryd.pinned (.plain (OpenSpec.upto fnExactHartNewSpec)) fnExactHartNewUptoCard

/-- THE SECOND FORM's CARD OF 'laws.FnExactQuadInstrs'. -/
def fnExactQuadInstrsUptoCard : Claim7 := { stood := { row := fnExactQuadInstrsUptoRow, standIns := [], harness := (true, "6714078ebb4478d4d403befe1667e4ee34fc9532bbfc7447b532ffbe889bab48"), looks := false }, kinds := [], alts := [], laidByText := true, laidKinds := [.data, .data], laidTests := true, laidLooks := .later }
def FnExactQuadInstrsUptoCardSaid : Prop := Claim7.holds Tryd.pinned (.plain (OpenSpec.upto fnExactQuadInstrsSpec)) fnExactQuadInstrsUptoCard

/-- THE SECOND FORM's CARD OF 'laws.FnQuadCall'. -/
def fnQuadCallUptoCard : Claim7 := { stood := { row := fnQuadCallUptoRow, standIns := [], harness := (true, "6714078ebb4478d4d403befe1667e4ee34fc9532bbfc7447b532ffbe889bab48"), looks := false }, kinds := [], alts := [], laidByText := true, laidKinds := [.data, .data], laidTests := true, laidLooks := .later }
def FnQuadCallUptoCardSaid : Prop := Claim7.holds Tryd.pinned (.plain (OpenSpec.upto fnQuadCallSpec)) fnQuadCallUptoCard

/-- THE SECOND FORM's CARD OF 'laws.FnQuadInstrsColors'. -/
def fnQuadInstrsColorsUptoCard : Claim7 := { stood := { row := fnQuadInstrsColorsUptoRow, standIns := [], harness := (true, "6714078ebb4478d4d403befe1667e4ee34fc9532bbfc7447b532ffbe889bab48"), looks := false }, kinds := [], alts := [], laidByText := true, laidKinds := [.data, .data], laidTests := true, laidLooks := .later }
def FnQuadInstrsColorsUptoCardSaid : Prop := Claim7.holds Tryd.pinned (.plain (OpenSpec.upto fnQuadInstrsColorsSpec)) fnQuadInstrsColorsUptoCard

/-- THE SECOND FORM's CARD OF 'laws.FnQuadInstrsOff'. -/
def fnQuadInstrsOffUptoCard : Claim7 := { stood := { row := fnQuadInstrsOffUptoRow, standIns := [], harness := (true, "6714078ebb4478d4d403befe1667e4ee34fc9532bbfc7447b532ffbe889bab48"), looks := false }, kinds := [], alts := [], laidByText := true, laidKinds := [.data, .data], laidTests := true, laidLooks := .later }
def FnQuadInstrsOffUptoCardSaid : Prop := Claim7.holds Tryd.pinned (.plain (OpenSpec.upto fnQuadInstrsOffSpec)) fnQuadInstrsOffUptoCard

/-- THE SECOND FORM's CARD OF 'laws.FnMachineConst'. -/
def fnMachineConstUptoCard : Claim7 := { stood := { row := fnMachineConstUptoRow, standIns := [], harness := (true, "6714078ebb4478d4d403befe1667e4ee34fc9532bbfc7447b532ffbe889bab48"), looks := false }, kinds := [], alts := [], laidByText := true, laidKinds := [.wider, .data], laidTests := true, laidLooks := .later }
def FnMachineConstUptoCardSaid : Prop := Claim7.holds Tryd.pinned (.plain (OpenSpec.upto fnMachineConstSpec)) fnMachineConstUptoCard

/-- THE SECOND FORM's CARD OF 'laws.FnExactTaskPlaces'. -/
def fnExactTaskPlacesUptoCard : Claim7 := { stood := { row := fnExactTaskPlacesUptoRow, standIns := [], harness := (true, "6714078ebb4478d4d403befe1667e4ee34fc9532bbfc7447b532ffbe889bab48"), looks := false }, kinds := [], alts := [], laidByText := true, laidKinds := [.data, .data], laidTests := true, laidLooks := .later }
def FnExactTaskPlacesUptoCardSaid : Prop := Claim7.holds Tryd.pinned (.plain (OpenSpec.upto fnExactTaskPlacesSpec)) fnExactTaskPlacesUptoCard

/-- THE SECOND FORM's CARD OF 'laws.FnQuadInstrs'. -/
def fnQuadInstrsUptoCard : Claim7 := { stood := { row := fnQuadInstrsUptoRow, standIns := [], harness := (true, "6714078ebb4478d4d403befe1667e4ee34fc9532bbfc7447b532ffbe889bab48"), looks := false }, kinds := [], alts := [], laidByText := true, laidKinds := [.data, .data], laidTests := true, laidLooks := .later }
def FnQuadInstrsUptoCardSaid : Prop := Claim7.holds Tryd.pinned (.plain (OpenSpec.upto fnQuadInstrsSpec)) fnQuadInstrsUptoCard

/-- THE SECOND FORM's CARD OF 'laws.FnExactTaskInstrs'. -/
def fnExactTaskInstrsUptoCard : Claim7 := { stood := { row := fnExactTaskInstrsUptoRow, standIns := [], harness := (true, "6714078ebb4478d4d403befe1667e4ee34fc9532bbfc7447b532ffbe889bab48"), looks := false }, kinds := [], alts := [], laidByText := true, laidKinds := [.data, .data], laidTests := true, laidLooks := .later }
def FnExactTaskInstrsUptoCardSaid : Prop := Claim7.holds Tryd.pinned (.plain (OpenSpec.upto fnExactTaskInstrsSpec)) fnExactTaskInstrsUptoCard

/-- THE SECOND FORM's CARD OF 'laws.FnExactSquadNew'. -/
def fnExactSquadNewUptoCard : Claim7 := { stood := { row := fnExactSquadNewUptoRow, standIns := [], harness := (true, "6714078ebb4478d4d403befe1667e4ee34fc9532bbfc7447b532ffbe889bab48"), looks := false }, kinds := [], alts := [], laidByText := true, laidKinds := [.wider], laidTests := true, laidLooks := .later }
def FnExactSquadNewUptoCardSaid : Prop := Claim7.holds Tryd.pinned (.plain (OpenSpec.upto fnExactSquadNewSpec)) fnExactSquadNewUptoCard

/-- THE SECOND FORM's CARD OF 'laws.FnMachineBin'. -/
def fnMachineBinUptoCard : Claim7 := { stood := { row := fnMachineBinUptoRow, standIns := [], harness := (true, "6714078ebb4478d4d403befe1667e4ee34fc9532bbfc7447b532ffbe889bab48"), looks := false }, kinds := [], alts := [], laidByText := true, laidKinds := [.wider, .data, .data, .data], laidTests := true, laidLooks := .later }
def FnMachineBinUptoCardSaid : Prop := Claim7.holds Tryd.pinned (.plain (OpenSpec.upto fnMachineBinSpec)) fnMachineBinUptoCard
end Rows
end Go.Proofs.YtoklfbdcghgmlaaDoor
