/- The seat's part of each row: the two listed tables, where a call begins, what stays. No conditions. -/
import Derived.Test.YtoklfbdcghgmlaaDoorRows
import Derived.Test.YtoklfbdcghgmlaaDoorTie
import Derived.Test.YtoklfbdcghgmlaaDoorCards
import Derived.Test.YtoklfbdcghgmlaaDoorNShell
import Derived.ProofKit
import Derived.LaidMore
import Derived.OpenShut
import Derived.Stop.Joined
import Derived.SevenTiedAt
import Derived.Test.YtoklfbdcghgmlaaDoorNDH
namespace Go.Proofs.YtoklfbdcghgmlaaDoor
open Go.ChangeShapes Go.WideShapes Go.ChangeAt Go.RowKit Go.Abs
set_option linter.unusedVariables false

theorem own : ownKnob Tryd.prog.godebug = none := by kernel_rfl
theorem laidOut : laidOutB Tryd.prog = true := by kernel_rfl
theorem gColors : Tryd.prog.globalNamed "loop.example/cothreads/impl.colorRegs" = some 3 := by kernel_rfl
theorem gBins : Tryd.prog.globalNamed "loop.example/cothreads/impl.binInstrs" = some 0 := by kernel_rfl
theorem tColors : (Tryd.prog.globals[3]?).map (·.type) = some 157 := by kernel_rfl
theorem tBins : (Tryd.prog.globals[0]?).map (·.type) = some 134 := by kernel_rfl

/-- the two listed tables -/
abbrev laid2 : List (String × DataW Unit) := [("loop.example/cothreads/impl.colorRegs", Rows.laid_loop_example_cothreads_impl_colorRegs), ("loop.example/cothreads/impl.binInstrs", Rows.laid_loop_example_cothreads_impl_binInstrs)]
abbrev vars2 : List String := ["loop.example/cothreads/impl.colorRegs", "loop.example/cothreads/impl.binInstrs"]

theorem of_laid {W : World} (h : laidMetH Tryd.prog laid2 W) : R G phi0 noObj W := by
  rw [MakeChecks.laidMetH_plain _ _ _ (by kernel_rfl)] at h
  obtain ⟨ps, ⟨g0, t0, cs0, f0, p0, q0, hg0, ht0, hv0, hd0, ⟨g1, t1, cs1, f1, p1, q1, hg1, ht1, hv1, hd1, _, _⟩, _⟩, _, _⟩ := h
  obtain rfl := Option.some.inj (gColors.symm.trans hg0)
  obtain rfl := Option.some.inj (gBins.symm.trans hg1)
  obtain rfl := Option.some.inj (tColors.symm.trans ht0)
  obtain rfl := Option.some.inj (tBins.symm.trans ht1)
  obtain ⟨c0, b0⟩ := tab_cells (l := [8, 9, 18, 19, 20, 21, 22, 23]) hg0 hv0 Tryd.underlying157 Tryd.underlying3 (by kernel_rfl) hd0
  obtain ⟨c1, b1⟩ := tab_cells (l := [7, 8, 6, 8, 11, 9, 10, 1, 2, 3, 4, 5]) hg1 hv1 Tryd.underlying134 Tryd.underlying3 (by kernel_rfl) hd1
  refine R_noObj fun g cs hg => ?_
  unfold G at hg
  split at hg
  · cases hg; exact tab_rel (own_noObj _) c1 b1
  · cases hg; exact tab_rel (own_noObj _) c0 b0
  · cases hg

/-- the door's own heap meets the condition -/
theorem door_met (os : Os) (args : Array Value) : laidMetH Tryd.prog laid2 ((World.doorLaid Tryd.prog 400 os).forCall (fun _ _ => 0) ⟨#[], args, []⟩).memory :=
  laidMetH_of_parts3 (fuel := 8) (laidMet_of_run' 8 (by kernel_rfl) (by kernel_rfl)) (by kernel_rfl) (by kernel_rfl)

theorem vars_stay {H : Type} {enc : TypeId × Value → H} {W W' : World} (hb : Go.RowKit.Below W.heap.size W W') {gs : List (DataW H)} {ps : List MemPlace} (h : DataW.TrodVars enc Tryd.prog W (fun _ => true) vars2 gs ps) :
    DataW.TrodVars enc Tryd.prog W' (fun b => decide (b < W.heap.size)) vars2 gs ps := by
  refine var_stays laidOut hb (fun g t a b => ?_) (fun h => var_stays laidOut hb (fun g t a b => ?_) (fun {gs ps} h => ?_) h) h
  · obtain rfl := Option.some.inj (gColors.symm.trans a)
    obtain rfl := Option.some.inj (tColors.symm.trans b)
    exact ⟨by kernel_rfl, of_decide_eq_true (by kernel_rfl)⟩
  · obtain rfl := Option.some.inj (gBins.symm.trans a)
    obtain rfl := Option.some.inj (tBins.symm.trans b)
    exact ⟨by kernel_rfl, of_decide_eq_true (by kernel_rfl)⟩
  · cases gs with
    | nil => exact h
    | cons _ _ => exact h.elim

end Go.Proofs.YtoklfbdcghgmlaaDoor
