/-
  DERIVED. GIVEN WITH THE SEED: THE PROGRAM's TIES (one call each: nine closed facts by the kernel) AND EACH ROW's TIE, after the 31st guide's Derived/Test/Toyas{Tie, Card}.lean. No idea stands in it: it is a product of the set-up. Laid BY PROGRAM, IN A SANDBOX (cutbox-door.mjs). By AI agents, Wed Nov 11 2026. No macro, syntax, notation, axiom, sorry.
-/
import Derived.Test.YtoklfbdcghgmlaaDoorRows
import Derived.LaidByTextLater
import Derived.SevenTiedAt
import Derived.LaidSub
import Derived.LaidOnce
namespace Go.Proofs.YtoklfbdcghgmlaaDoor
open Go
set_option maxRecDepth 100000
theorem seatTie1 : Tryd.prog.laidByTextLater [("loop.example/cothreads/impl.instrTable", Rows.laid_loop_example_cothreads_impl_instrTable), ("loop.example/cothreads/impl.colorRegs", Rows.laid_loop_example_cothreads_impl_colorRegs), ("loop.example/cothreads/impl.binInstrs", Rows.laid_loop_example_cothreads_impl_binInstrs), ("loop.example/cothreads/impl.machineOps", Rows.laid_loop_example_cothreads_impl_machineOps)] [.wider, .data, .data, .data] true :=
  Program.laidByTextLater_by_one 50 8 85 (by kernel_rfl) (by kernel_rfl) (by kernel_rfl) (by kernel_rfl) (by kernel_rfl) (by kernel_rfl) (fun _ _ => by kernel_rfl)
theorem noOwnUnsafe : Tryd.pinned.checked.prog.headLifts.contains "ownunsafe" = false := by kernel_rfl
theorem tie : Tryd.prog.laidByTextLater [("loop.example/cothreads/impl.instrTable", Rows.laid_loop_example_cothreads_impl_instrTable)] [.wider] true :=
  Program.laidByTextLater.sub seatTie1 ["loop.example/cothreads/impl.instrTable"] (by kernel_rfl) (by kernel_rfl)
theorem fnExactHartNew_row_tie : Rows.fnExactHartNewRow.laidByTextAt .later Tryd.pinned [.wider] true :=
  OpenClaim.laidByTextAt_later rfl rfl tie noOwnUnsafe
theorem fnExactSquadNew_row_tie : Rows.fnExactSquadNewRow.laidByTextAt .later Tryd.pinned [.wider] true :=
  OpenClaim.laidByTextAt_later rfl rfl tie noOwnUnsafe
theorem tie2 : Tryd.prog.laidByTextLater [("loop.example/cothreads/impl.colorRegs", Rows.laid_loop_example_cothreads_impl_colorRegs), ("loop.example/cothreads/impl.binInstrs", Rows.laid_loop_example_cothreads_impl_binInstrs)] [.data, .data] true :=
  Program.laidByTextLater.sub seatTie1 ["loop.example/cothreads/impl.colorRegs", "loop.example/cothreads/impl.binInstrs"] (by kernel_rfl) (by kernel_rfl)
theorem fnExactQuadInstrs_row_tie : Rows.fnExactQuadInstrsRow.laidByTextAt .later Tryd.pinned [.data, .data] true :=
  OpenClaim.laidByTextAt_later rfl rfl tie2 noOwnUnsafe
theorem fnQuadCall_row_tie : Rows.fnQuadCallRow.laidByTextAt .later Tryd.pinned [.data, .data] true :=
  OpenClaim.laidByTextAt_later rfl rfl tie2 noOwnUnsafe
theorem fnQuadInstrsColors_row_tie : Rows.fnQuadInstrsColorsRow.laidByTextAt .later Tryd.pinned [.data, .data] true :=
  OpenClaim.laidByTextAt_later rfl rfl tie2 noOwnUnsafe
theorem fnQuadInstrsOff_row_tie : Rows.fnQuadInstrsOffRow.laidByTextAt .later Tryd.pinned [.data, .data] true :=
  OpenClaim.laidByTextAt_later rfl rfl tie2 noOwnUnsafe
theorem fnExactTaskPlaces_row_tie : Rows.fnExactTaskPlacesRow.laidByTextAt .later Tryd.pinned [.data, .data] true :=
  OpenClaim.laidByTextAt_later rfl rfl tie2 noOwnUnsafe
theorem fnQuadInstrs_row_tie : Rows.fnQuadInstrsRow.laidByTextAt .later Tryd.pinned [.data, .data] true :=
  OpenClaim.laidByTextAt_later rfl rfl tie2 noOwnUnsafe
theorem fnExactTaskInstrs_row_tie : Rows.fnExactTaskInstrsRow.laidByTextAt .later Tryd.pinned [.data, .data] true :=
  OpenClaim.laidByTextAt_later rfl rfl tie2 noOwnUnsafe
theorem tie3 : Tryd.prog.laidByTextLater [("loop.example/cothreads/impl.instrTable", Rows.laid_loop_example_cothreads_impl_instrTable), ("loop.example/cothreads/impl.machineOps", Rows.laid_loop_example_cothreads_impl_machineOps)] [.wider, .data] true :=
  Program.laidByTextLater.sub seatTie1 ["loop.example/cothreads/impl.instrTable", "loop.example/cothreads/impl.machineOps"] (by kernel_rfl) (by kernel_rfl)
theorem fnMachineConst_row_tie : Rows.fnMachineConstRow.laidByTextAt .later Tryd.pinned [.wider, .data] true :=
  OpenClaim.laidByTextAt_later rfl rfl tie3 noOwnUnsafe
theorem tie4 : Tryd.prog.laidByTextLater [("loop.example/cothreads/impl.instrTable", Rows.laid_loop_example_cothreads_impl_instrTable), ("loop.example/cothreads/impl.colorRegs", Rows.laid_loop_example_cothreads_impl_colorRegs), ("loop.example/cothreads/impl.binInstrs", Rows.laid_loop_example_cothreads_impl_binInstrs), ("loop.example/cothreads/impl.machineOps", Rows.laid_loop_example_cothreads_impl_machineOps)] [.wider, .data, .data, .data] true :=
  Program.laidByTextLater.sub seatTie1 ["loop.example/cothreads/impl.instrTable", "loop.example/cothreads/impl.colorRegs", "loop.example/cothreads/impl.binInstrs", "loop.example/cothreads/impl.machineOps"] (by kernel_rfl) (by kernel_rfl)
theorem fnMachineBin_row_tie : Rows.fnMachineBinRow.laidByTextAt .later Tryd.pinned [.wider, .data, .data, .data] true :=
  OpenClaim.laidByTextAt_later rfl rfl tie4 noOwnUnsafe
theorem fnExactHartNewUpto_row_tie : Rows.fnExactHartNewUptoRow.laidByTextAt .later Tryd.pinned [.wider] true :=
  OpenClaim.laidByTextAt_later rfl rfl tie noOwnUnsafe
theorem fnExactQuadInstrsUpto_row_tie : Rows.fnExactQuadInstrsUptoRow.laidByTextAt .later Tryd.pinned [.data, .data] true :=
  OpenClaim.laidByTextAt_later rfl rfl tie2 noOwnUnsafe
theorem fnQuadCallUpto_row_tie : Rows.fnQuadCallUptoRow.laidByTextAt .later Tryd.pinned [.data, .data] true :=
  OpenClaim.laidByTextAt_later rfl rfl tie2 noOwnUnsafe
theorem fnQuadInstrsColorsUpto_row_tie : Rows.fnQuadInstrsColorsUptoRow.laidByTextAt .later Tryd.pinned [.data, .data] true :=
  OpenClaim.laidByTextAt_later rfl rfl tie2 noOwnUnsafe
theorem fnQuadInstrsOffUpto_row_tie : Rows.fnQuadInstrsOffUptoRow.laidByTextAt .later Tryd.pinned [.data, .data] true :=
  OpenClaim.laidByTextAt_later rfl rfl tie2 noOwnUnsafe
theorem fnMachineConstUpto_row_tie : Rows.fnMachineConstUptoRow.laidByTextAt .later Tryd.pinned [.wider, .data] true :=
  OpenClaim.laidByTextAt_later rfl rfl tie3 noOwnUnsafe
theorem fnExactTaskPlacesUpto_row_tie : Rows.fnExactTaskPlacesUptoRow.laidByTextAt .later Tryd.pinned [.data, .data] true :=
  OpenClaim.laidByTextAt_later rfl rfl tie2 noOwnUnsafe
theorem fnQuadInstrsUpto_row_tie : Rows.fnQuadInstrsUptoRow.laidByTextAt .later Tryd.pinned [.data, .data] true :=
  OpenClaim.laidByTextAt_later rfl rfl tie2 noOwnUnsafe
theorem fnExactTaskInstrsUpto_row_tie : Rows.fnExactTaskInstrsUptoRow.laidByTextAt .later Tryd.pinned [.data, .data] true :=
  OpenClaim.laidByTextAt_later rfl rfl tie2 noOwnUnsafe
theorem fnExactSquadNewUpto_row_tie : Rows.fnExactSquadNewUptoRow.laidByTextAt .later Tryd.pinned [.wider] true :=
  OpenClaim.laidByTextAt_later rfl rfl tie noOwnUnsafe
theorem fnMachineBinUpto_row_tie : Rows.fnMachineBinUptoRow.laidByTextAt .later Tryd.pinned [.wider, .data, .data, .data] true :=
  OpenClaim.laidByTextAt_later rfl rfl tie4 noOwnUnsafe
end Go.Proofs.YtoklfbdcghgmlaaDoor
