/- The seat's part of each row: the listed tables, where a call begins, what stays. No conditions. -/
import Derived.Test.YtlcilhmkbmgkeaaGreatDoorRows
import Derived.Test.YtlcilhmkbmgkeaaGreatDoorTie
import Derived.Test.YtlcilhmkbmgkeaaGreatDoorCards
import Derived.Test.YtlcilhmkbmgkeaaGreatDoorNShell
import Derived.Test.YtlcilhmkbmgkeaaGreatDoorNLays
import Derived.ProofKit
import Derived.LaidMore
import Derived.OpenShut
import Derived.Stop.Joined
import Derived.SevenTiedAt
import Derived.Test.YtlcilhmkbmgkeaaGreatDoorNZH
namespace Go.Proofs.YtlcilhmkbmgkeaaGreatDoor
open Go.ChangeShapes Go.WideShapes Go.ChangeAt Go.RowKit Go.Abs
set_option linter.unusedVariables false
set_option maxRecDepth 20000

theorem own : ownKnob Tryz.prog.godebug = none := by kernel_rfl
theorem laidOut : laidOutB Tryz.prog = true := by kernel_rfl
theorem gn2 : Tryz.prog.globalNamed "loop.example/cothreads/impl.instrTable" = some 2 := by kernel_rfl
theorem gt2 : (Tryz.prog.globals[2]?).map (·.type) = some 134 := by kernel_rfl
theorem gn0 : Tryz.prog.globalNamed "loop.example/cothreads/impl.machineOps" = some 0 := by kernel_rfl
theorem gt0 : (Tryz.prog.globals[0]?).map (·.type) = some 109 := by kernel_rfl

def rowD {H : Type} (x : List UInt8 × Int × Int × Int) : DataW H := .agg [.lit (.string x.1), .lit (.int .i64 x.2.1), .lit (.int .i64 x.2.2.1), .lit (.int .i64 x.2.2.2)]
theorem lays_row {H : Type} (x : List UInt8 × Int × Int × Int) : Lays Tryz.prog H 133 (rowD x) (rInstrRow ⟨⟨x.1.toArray⟩, x.2.1, x.2.2.1, x.2.2.2⟩) :=
  lays_struct Tryz.underlying133 (by kernel_rfl) (.cons (by kernel_rfl) (lays_str x.1 Tryz.underlying9) (.cons (by kernel_rfl) (lays_int x.2.1 Tryz.underlying3) (.cons (by kernel_rfl) (lays_int x.2.2.1 Tryz.underlying3) (.cons (by kernel_rfl) (lays_int x.2.2.2 Tryz.underlying3) (.nil _)))))
theorem lays_rows {H : Type} : ∀ (l : List (List UInt8 × Int × Int × Int)), LaysE Tryz.prog H 133 (l.map rowD) (gR rInstrRow (l.map fun x => ⟨⟨x.1.toArray⟩, x.2.1, x.2.2.1, x.2.2.2⟩))
  | [] => .nil
  | x :: l => .cons (lays_row x) (lays_rows l)
def tabL : List (List UInt8 × Int × Int × Int) := [([97, 100, 100], 51, 0, 0), ([115, 117, 98], 51, 0, 32), ([109, 117, 108], 51, 0, 1), ([100, 105, 118], 51, 4, 1), ([114, 101, 109], 51, 6, 1), ([97, 110, 100], 51, 7, 0), ([111, 114], 51, 6, 0), ([120, 111, 114], 51, 4, 0), ([115, 108, 108], 51, 1, 0), ([115, 114, 97], 51, 5, 32), ([115, 108, 116], 51, 2, 0), ([97, 100, 100, 105], 19, 0, 0), ([115, 108, 116, 105, 117], 19, 3, 0), ([108, 119], 3, 2, 0), ([106, 97, 108, 114], 103, 0, 0), ([115, 119], 35, 2, 0), ([98, 101, 113], 99, 0, 0), ([98, 110, 101], 99, 1, 0), ([108, 117, 105], 55, 0, 0), ([106, 97, 108], 111, 0, 0), ([101, 99, 97, 108, 108], 115, 0, 0)]
theorem lays_tab {H : Type} : Lays Tryz.prog H 134 (Rows.laid_loop_example_cothreads_impl_instrTable) (gR rInstrRow instrTab) := lays_array (n := 21) (ds := tabL.map rowD) Tryz.underlying134 (by kernel_rfl) (lays_rows tabL)
theorem tab_one : ∀ x ∈ gR rInstrRow instrTab, x.one = true := of_decide_eq_true (by kernel_rfl)

abbrev laid2 : List (String × DataW Unit) := [("loop.example/cothreads/impl.instrTable", Rows.laid_loop_example_cothreads_impl_instrTable), ("loop.example/cothreads/impl.machineOps", Rows.laid_loop_example_cothreads_impl_machineOps)]
abbrev vars2 : List String := ["loop.example/cothreads/impl.machineOps", "loop.example/cothreads/impl.instrTable"]

theorem of_laid {W : World} (h : laidMetH Tryz.prog laid2 W) : R G phi0 noObj W := by
  rw [MakeChecks.laidMetH_plain _ _ _ (by kernel_rfl)] at h
  obtain ⟨ps, ⟨g0, t0, cs0, f0, p0, q0, hg0, ht0, hv0, hd0, ⟨g1, t1, cs1, f1, p1, q1, hg1, ht1, hv1, hd1, _, _⟩, _⟩, _, _⟩ := h
  obtain rfl := Option.some.inj (gn2.symm.trans hg0)
  obtain rfl := Option.some.inj (gn0.symm.trans hg1)
  obtain rfl := Option.some.inj (gt2.symm.trans ht0)
  obtain rfl := Option.some.inj (gt0.symm.trans ht1)
  obtain ⟨c1, b1⟩ := tab_cells (l := [8, 9, 10, 11, 12, 3, 1, 2, 6, 7, 5]) hg1 hv1 Tryz.underlying109 Tryz.underlying3 (by kernel_rfl) hd1
  refine R_noObj fun g cs hg => ?_
  unfold G at hg
  split at hg
  · cases hg; exact tab_rel (own_noObj _) c1 b1
  · cases hg; exact lay_rel (own_noObj _) hg0 hv0 hd0 lays_tab tab_one
  · cases hg

theorem door_met (os : Os) (args : Array Value) : laidMetH Tryz.prog laid2 ((World.doorLaid Tryz.prog 400 os).forCall (fun _ _ => 0) ⟨#[], args, []⟩).memory :=
  laidMetH_of_parts3 (fuel := 8) (laidMet_of_run' 8 (by kernel_rfl) (by kernel_rfl)) (by kernel_rfl) (by kernel_rfl)

theorem vars_stay {H : Type} {enc : TypeId × Value → H} {W W' : World} (hb : Go.RowKit.Below W.heap.size W W') {gs : List (DataW H)} {ps : List MemPlace} (h : DataW.TrodVars enc Tryz.prog W (fun _ => true) vars2 gs ps) :
    DataW.TrodVars enc Tryz.prog W' (fun b => decide (b < W.heap.size)) vars2 gs ps := by
  refine var_stays laidOut hb (fun g t a b => ?_) (fun h => var_stays laidOut hb (fun g t a b => ?_) (fun {gs ps} h => ?_) h) h
  · obtain rfl := Option.some.inj (gn0.symm.trans a)
    obtain rfl := Option.some.inj (gt0.symm.trans b)
    exact ⟨by kernel_rfl, of_decide_eq_true (by kernel_rfl)⟩
  · obtain rfl := Option.some.inj (gn2.symm.trans a)
    obtain rfl := Option.some.inj (gt2.symm.trans b)
    exact ⟨by kernel_rfl, of_decide_eq_true (by kernel_rfl)⟩
  · cases gs with
    | nil => exact h
    | cons _ _ => exact h.elim

end Go.Proofs.YtlcilhmkbmgkeaaGreatDoor
