/-
  DERIVED. GIVEN WITH THE SEED: THE PROGRAM's TIES (one call each: nine closed facts by the kernel) AND EACH ROW's TIE, after the 31st guide's Derived/Test/Toyas{Tie, Card}.lean. No idea stands in it: it is a product of the set-up. Laid BY PROGRAM, IN A SANDBOX (cutbox-door.mjs). By AI agents, Wed Nov 11 2026. No macro, syntax, notation, axiom, sorry.
-/
import Derived.Test.YtlcilhmkbmgkeaaDoorRows
import Derived.LaidByTextLater
import Derived.SevenTiedAt
import Derived.LaidSub
import Derived.LaidOnce
namespace Go.Proofs.YtlcilhmkbmgkeaaDoor
open Go
set_option maxRecDepth 100000
theorem seatTie1 : Tryd.prog.laidByTextLater [("loop.example/cothreads/impl.instrTable", Rows.laid_loop_example_cothreads_impl_instrTable), ("loop.example/cothreads/impl.colorRegs", Rows.laid_loop_example_cothreads_impl_colorRegs), ("loop.example/cothreads/impl.binInstrs", Rows.laid_loop_example_cothreads_impl_binInstrs), ("loop.example/cothreads/impl.machineOps", Rows.laid_loop_example_cothreads_impl_machineOps)] [.wider, .data, .data, .data] true :=
  Program.laidByTextLater_by_one 50 8 85 (by kernel_rfl) (by kernel_rfl) (by kernel_rfl) (by kernel_rfl) (by kernel_rfl) (by kernel_rfl) (fun _ _ => by kernel_rfl)
theorem noOwnUnsafe : Tryd.pinned.checked.prog.headLifts.contains "ownunsafe" = false := by kernel_rfl
theorem tie : Tryd.prog.laidByTextLater [("loop.example/cothreads/impl.instrTable", Rows.laid_loop_example_cothreads_impl_instrTable)] [.wider] true :=
  Program.laidByTextLater.sub seatTie1 ["loop.example/cothreads/impl.instrTable"] (by kernel_rfl) (by kernel_rfl)
theorem fnExactSquadNew_row_tie : Rows.fnExactSquadNewRow.laidByTextAt .later Tryd.pinned [.wider] true :=
  OpenClaim.laidByTextAt_later rfl rfl tie noOwnUnsafe
theorem tie2 : Tryd.prog.laidByTextLater [("loop.example/cothreads/impl.instrTable", Rows.laid_loop_example_cothreads_impl_instrTable), ("loop.example/cothreads/impl.colorRegs", Rows.laid_loop_example_cothreads_impl_colorRegs), ("loop.example/cothreads/impl.binInstrs", Rows.laid_loop_example_cothreads_impl_binInstrs), ("loop.example/cothreads/impl.machineOps", Rows.laid_loop_example_cothreads_impl_machineOps)] [.wider, .data, .data, .data] true :=
  Program.laidByTextLater.sub seatTie1 ["loop.example/cothreads/impl.instrTable", "loop.example/cothreads/impl.colorRegs", "loop.example/cothreads/impl.binInstrs", "loop.example/cothreads/impl.machineOps"] (by kernel_rfl) (by kernel_rfl)
theorem fnMachineBin_row_tie : Rows.fnMachineBinRow.laidByTextAt .later Tryd.pinned [.wider, .data, .data, .data] true :=
  OpenClaim.laidByTextAt_later rfl rfl tie2 noOwnUnsafe
theorem fnExactSquadNewUpto_row_tie : Rows.fnExactSquadNewUptoRow.laidByTextAt .later Tryd.pinned [.wider] true :=
  OpenClaim.laidByTextAt_later rfl rfl tie noOwnUnsafe
theorem fnMachineBinUpto_row_tie : Rows.fnMachineBinUptoRow.laidByTextAt .later Tryd.pinned [.wider, .data, .data, .data] true :=
  OpenClaim.laidByTextAt_later rfl rfl tie2 noOwnUnsafe
end Go.Proofs.YtlcilhmkbmgkeaaDoor
