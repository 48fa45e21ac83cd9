/- The seat's part of each row: the listed tables, where a call begins, what stays. No conditions. -/
import Derived.Test.YtlcilhmkbmgkeaaGreatDoorRows
import Derived.Test.YtlcilhmkbmgkeaaGreatDoorTie
import Derived.Test.YtlcilhmkbmgkeaaGreatDoorCards
import Derived.Test.YtlcilhmkbmgkeaaGreatDoorNShell
import Derived.ProofKit
import Derived.LaidMore
import Derived.OpenShut
import Derived.Stop.Joined
import Derived.SevenTiedAt
import Derived.Test.YtlcilhmkbmgkeaaGreatDoorNZH
namespace Go.Proofs.YtlcilhmkbmgkeaaGreatDoor
open Go.ChangeShapes Go.WideShapes Go.ChangeAt Go.RowKit Go.Abs
set_option linter.unusedVariables false
set_option maxRecDepth 20000

theorem own : ownKnob Tryz.prog.godebug = none := by kernel_rfl
theorem laidOut : laidOutB Tryz.prog = true := by kernel_rfl
theorem gn3 : Tryz.prog.globalNamed "loop.example/cothreads/impl.colorRegs" = some 3 := by kernel_rfl
theorem gt3 : (Tryz.prog.globals[3]?).map (·.type) = some 141 := by kernel_rfl
theorem gn1 : Tryz.prog.globalNamed "loop.example/cothreads/impl.binInstrs" = some 1 := by kernel_rfl
theorem gt1 : (Tryz.prog.globals[1]?).map (·.type) = some 123 := by kernel_rfl

abbrev laid2 : List (String × DataW Unit) := [("loop.example/cothreads/impl.colorRegs", Rows.laid_loop_example_cothreads_impl_colorRegs), ("loop.example/cothreads/impl.binInstrs", Rows.laid_loop_example_cothreads_impl_binInstrs)]
abbrev vars2 : List String := ["loop.example/cothreads/impl.colorRegs", "loop.example/cothreads/impl.binInstrs"]

theorem of_laid {W : World} (h : laidMetH Tryz.prog laid2 W) : R G phi0 noObj W := by
  rw [MakeChecks.laidMetH_plain _ _ _ (by kernel_rfl)] at h
  obtain ⟨ps, ⟨g0, t0, cs0, f0, p0, q0, hg0, ht0, hv0, hd0, ⟨g1, t1, cs1, f1, p1, q1, hg1, ht1, hv1, hd1, _, _⟩, _⟩, _, _⟩ := h
  obtain rfl := Option.some.inj (gn3.symm.trans hg0)
  obtain rfl := Option.some.inj (gn1.symm.trans hg1)
  obtain rfl := Option.some.inj (gt3.symm.trans ht0)
  obtain rfl := Option.some.inj (gt1.symm.trans ht1)
  obtain ⟨c0, b0⟩ := tab_cells (l := [8, 9, 18, 19, 20, 21, 22, 23]) hg0 hv0 Tryz.underlying141 Tryz.underlying3 (by kernel_rfl) hd0
  obtain ⟨c1, b1⟩ := tab_cells (l := [7, 8, 6, 8, 11, 9, 10, 1, 2, 3, 4, 5]) hg1 hv1 Tryz.underlying123 Tryz.underlying3 (by kernel_rfl) hd1
  refine R_noObj fun g cs hg => ?_
  unfold G at hg
  split at hg
  · cases hg; exact tab_rel (own_noObj _) c1 b1
  · cases hg; exact tab_rel (own_noObj _) c0 b0
  · cases hg

theorem door_met (os : Os) (args : Array Value) : laidMetH Tryz.prog laid2 ((World.doorLaid Tryz.prog 400 os).forCall (fun _ _ => 0) ⟨#[], args, []⟩).memory :=
  laidMetH_of_parts3 (fuel := 8) (laidMet_of_run' 8 (by kernel_rfl) (by kernel_rfl)) (by kernel_rfl) (by kernel_rfl)

theorem vars_stay {H : Type} {enc : TypeId × Value → H} {W W' : World} (hb : Go.RowKit.Below W.heap.size W W') {gs : List (DataW H)} {ps : List MemPlace} (h : DataW.TrodVars enc Tryz.prog W (fun _ => true) vars2 gs ps) :
    DataW.TrodVars enc Tryz.prog W' (fun b => decide (b < W.heap.size)) vars2 gs ps := by
  refine var_stays laidOut hb (fun g t a b => ?_) (fun h => var_stays laidOut hb (fun g t a b => ?_) (fun {gs ps} h => ?_) h) h
  · obtain rfl := Option.some.inj (gn3.symm.trans a)
    obtain rfl := Option.some.inj (gt3.symm.trans b)
    exact ⟨by kernel_rfl, of_decide_eq_true (by kernel_rfl)⟩
  · obtain rfl := Option.some.inj (gn1.symm.trans a)
    obtain rfl := Option.some.inj (gt1.symm.trans b)
    exact ⟨by kernel_rfl, of_decide_eq_true (by kernel_rfl)⟩
  · cases gs with
    | nil => exact h
    | cons _ _ => exact h.elim

end Go.Proofs.YtlcilhmkbmgkeaaGreatDoor
