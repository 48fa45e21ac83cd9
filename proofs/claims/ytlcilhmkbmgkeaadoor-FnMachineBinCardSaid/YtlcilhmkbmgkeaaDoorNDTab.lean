/- The seat's part of each row: the listed tables, where a call begins, what stays. No conditions. -/
import Derived.Test.YtlcilhmkbmgkeaaDoorRows
import Derived.Test.YtlcilhmkbmgkeaaDoorTie
import Derived.Test.YtlcilhmkbmgkeaaDoorCards
import Derived.Test.YtlcilhmkbmgkeaaDoorNShell
import Derived.Test.YtlcilhmkbmgkeaaDoorNLays
import Derived.ProofKit
import Derived.LaidMore
import Derived.OpenShut
import Derived.Stop.Joined
import Derived.SevenTiedAt
import Derived.Test.YtlcilhmkbmgkeaaDoorNDH
namespace Go.Proofs.YtlcilhmkbmgkeaaDoor
open Go.ChangeShapes Go.WideShapes Go.ChangeAt Go.RowKit Go.Abs
set_option linter.unusedVariables false
set_option maxRecDepth 20000

theorem own : ownKnob Tryd.prog.godebug = none := by kernel_rfl
theorem laidOut : laidOutB Tryd.prog = true := by kernel_rfl
theorem gn1 : Tryd.prog.globalNamed "loop.example/cothreads/impl.instrTable" = some 1 := by kernel_rfl
theorem gt1 : (Tryd.prog.globals[1]?).map (·.type) = some 119 := by kernel_rfl
theorem gn3 : Tryd.prog.globalNamed "loop.example/cothreads/impl.colorRegs" = some 3 := by kernel_rfl
theorem gt3 : (Tryd.prog.globals[3]?).map (·.type) = some 131 := by kernel_rfl
theorem gn0 : Tryd.prog.globalNamed "loop.example/cothreads/impl.binInstrs" = some 0 := by kernel_rfl
theorem gt0 : (Tryd.prog.globals[0]?).map (·.type) = some 106 := by kernel_rfl
theorem gn2 : Tryd.prog.globalNamed "loop.example/cothreads/impl.machineOps" = some 2 := by kernel_rfl
theorem gt2 : (Tryd.prog.globals[2]?).map (·.type) = some 129 := by kernel_rfl

def rowD {H : Type} (x : List UInt8 × Int × Int × Int) : DataW H := .agg [.lit (.string x.1), .lit (.int .i64 x.2.1), .lit (.int .i64 x.2.2.1), .lit (.int .i64 x.2.2.2)]
theorem lays_row {H : Type} (x : List UInt8 × Int × Int × Int) : Lays Tryd.prog H 118 (rowD x) (rInstrRow ⟨⟨x.1.toArray⟩, x.2.1, x.2.2.1, x.2.2.2⟩) :=
  lays_struct Tryd.underlying118 (by kernel_rfl) (.cons (by kernel_rfl) (lays_str x.1 Tryd.underlying9) (.cons (by kernel_rfl) (lays_int x.2.1 Tryd.underlying3) (.cons (by kernel_rfl) (lays_int x.2.2.1 Tryd.underlying3) (.cons (by kernel_rfl) (lays_int x.2.2.2 Tryd.underlying3) (.nil _)))))
theorem lays_rows {H : Type} : ∀ (l : List (List UInt8 × Int × Int × Int)), LaysE Tryd.prog H 118 (l.map rowD) (gR rInstrRow (l.map fun x => ⟨⟨x.1.toArray⟩, x.2.1, x.2.2.1, x.2.2.2⟩))
  | [] => .nil
  | x :: l => .cons (lays_row x) (lays_rows l)
def tabL : List (List UInt8 × Int × Int × Int) := [([97, 100, 100], 51, 0, 0), ([115, 117, 98], 51, 0, 32), ([109, 117, 108], 51, 0, 1), ([100, 105, 118], 51, 4, 1), ([114, 101, 109], 51, 6, 1), ([97, 110, 100], 51, 7, 0), ([111, 114], 51, 6, 0), ([120, 111, 114], 51, 4, 0), ([115, 108, 108], 51, 1, 0), ([115, 114, 97], 51, 5, 32), ([115, 108, 116], 51, 2, 0), ([97, 100, 100, 105], 19, 0, 0), ([115, 108, 116, 105, 117], 19, 3, 0), ([108, 119], 3, 2, 0), ([106, 97, 108, 114], 103, 0, 0), ([115, 119], 35, 2, 0), ([98, 101, 113], 99, 0, 0), ([98, 110, 101], 99, 1, 0), ([108, 117, 105], 55, 0, 0), ([106, 97, 108], 111, 0, 0), ([101, 99, 97, 108, 108], 115, 0, 0)]
theorem lays_tab {H : Type} : Lays Tryd.prog H 119 (Rows.laid_loop_example_cothreads_impl_instrTable) (gR rInstrRow instrTab) := lays_array (n := 21) (ds := tabL.map rowD) Tryd.underlying119 (by kernel_rfl) (lays_rows tabL)
theorem tab_one : ∀ x ∈ gR rInstrRow instrTab, x.one = true := of_decide_eq_true (by kernel_rfl)

abbrev laid2 : List (String × DataW Unit) := [("loop.example/cothreads/impl.instrTable", Rows.laid_loop_example_cothreads_impl_instrTable), ("loop.example/cothreads/impl.colorRegs", Rows.laid_loop_example_cothreads_impl_colorRegs), ("loop.example/cothreads/impl.binInstrs", Rows.laid_loop_example_cothreads_impl_binInstrs), ("loop.example/cothreads/impl.machineOps", Rows.laid_loop_example_cothreads_impl_machineOps)]
abbrev vars2 : List String := ["loop.example/cothreads/impl.colorRegs", "loop.example/cothreads/impl.binInstrs", "loop.example/cothreads/impl.instrTable", "loop.example/cothreads/impl.machineOps"]

theorem of_laid {W : World} (h : laidMetH Tryd.prog laid2 W) : R G phi0 noObj W := by
  rw [MakeChecks.laidMetH_plain _ _ _ (by kernel_rfl)] at h
  obtain ⟨ps, ⟨g0, t0, cs0, f0, p0, q0, hg0, ht0, hv0, hd0, ⟨g1, t1, cs1, f1, p1, q1, hg1, ht1, hv1, hd1, ⟨g2, t2, cs2, f2, p2, q2, hg2, ht2, hv2, hd2, ⟨g3, t3, cs3, f3, p3, q3, hg3, ht3, hv3, hd3, _, _⟩, _⟩, _⟩, _⟩, _, _⟩ := h
  obtain rfl := Option.some.inj (gn1.symm.trans hg0)
  obtain rfl := Option.some.inj (gn3.symm.trans hg1)
  obtain rfl := Option.some.inj (gn0.symm.trans hg2)
  obtain rfl := Option.some.inj (gn2.symm.trans hg3)
  obtain rfl := Option.some.inj (gt1.symm.trans ht0)
  obtain rfl := Option.some.inj (gt3.symm.trans ht1)
  obtain rfl := Option.some.inj (gt0.symm.trans ht2)
  obtain rfl := Option.some.inj (gt2.symm.trans ht3)
  obtain ⟨c1, b1⟩ := tab_cells (l := [8, 9, 18, 19, 20, 21, 22, 23]) hg1 hv1 Tryd.underlying131 Tryd.underlying3 (by kernel_rfl) hd1
  obtain ⟨c2, b2⟩ := tab_cells (l := [7, 8, 6, 8, 11, 9, 10, 1, 2, 3, 4, 5]) hg2 hv2 Tryd.underlying106 Tryd.underlying3 (by kernel_rfl) hd2
  obtain ⟨c3, b3⟩ := tab_cells (l := [8, 9, 10, 11, 12, 3, 1, 2, 6, 7, 5]) hg3 hv3 Tryd.underlying129 Tryd.underlying3 (by kernel_rfl) hd3
  refine R_noObj fun g cs hg => ?_
  unfold G at hg
  split at hg
  · cases hg; exact tab_rel (own_noObj _) c2 b2
  · cases hg; exact lay_rel (own_noObj _) hg0 hv0 hd0 lays_tab tab_one
  · cases hg; exact tab_rel (own_noObj _) c3 b3
  · cases hg; exact tab_rel (own_noObj _) c1 b1
  · cases hg

theorem door_met (os : Os) (args : Array Value) : laidMetH Tryd.prog laid2 ((World.doorLaid Tryd.prog 400 os).forCall (fun _ _ => 0) ⟨#[], args, []⟩).memory :=
  laidMetH_of_parts3 (fuel := 8) (laidMet_of_run' 8 (by kernel_rfl) (by kernel_rfl)) (by kernel_rfl) (by kernel_rfl)

theorem vars_stay {H : Type} {enc : TypeId × Value → H} {W W' : World} (hb : Go.RowKit.Below W.heap.size W W') {gs : List (DataW H)} {ps : List MemPlace} (h : DataW.TrodVars enc Tryd.prog W (fun _ => true) vars2 gs ps) :
    DataW.TrodVars enc Tryd.prog W' (fun b => decide (b < W.heap.size)) vars2 gs ps := by
  refine var_stays laidOut hb (fun g t a b => ?_) (fun h => var_stays laidOut hb (fun g t a b => ?_) (fun h => var_stays laidOut hb (fun g t a b => ?_) (fun h => var_stays laidOut hb (fun g t a b => ?_) (fun {gs ps} h => ?_) h) h) h) h
  · obtain rfl := Option.some.inj (gn3.symm.trans a)
    obtain rfl := Option.some.inj (gt3.symm.trans b)
    exact ⟨by kernel_rfl, of_decide_eq_true (by kernel_rfl)⟩
  · obtain rfl := Option.some.inj (gn0.symm.trans a)
    obtain rfl := Option.some.inj (gt0.symm.trans b)
    exact ⟨by kernel_rfl, of_decide_eq_true (by kernel_rfl)⟩
  · obtain rfl := Option.some.inj (gn1.symm.trans a)
    obtain rfl := Option.some.inj (gt1.symm.trans b)
    exact ⟨by kernel_rfl, of_decide_eq_true (by kernel_rfl)⟩
  · obtain rfl := Option.some.inj (gn2.symm.trans a)
    obtain rfl := Option.some.inj (gt2.symm.trans b)
    exact ⟨by kernel_rfl, of_decide_eq_true (by kernel_rfl)⟩
  · cases gs with
    | nil => exact h
    | cons _ _ => exact h.elim
theorem trodVars_len {H : Type} {enc : TypeId × Value → H} {W : World} {sp : Nat → Bool} : ∀ {ns : List String} {gs : List (DataW H)} {ps : List MemPlace}, DataW.TrodVars enc Tryd.prog W sp ns gs ps → gs.length = ns.length
  | [], gs, ps, h => by rw [(trodVars_none h).1]; rfl
  | n :: ns, [], ps, h => by simp [DataW.TrodVars] at h
  | n :: ns, d :: ds, ps, h => by
    obtain ⟨_, _, _, _, _, _, _, _, _, _, hs, _⟩ := h
    rw [List.length_cons, List.length_cons, trodVars_len hs]
theorem vars_open {H : Type} {enc : TypeId × Value → H} {W : World} {sp : Nat → Bool} {gs : List (DataW H)} {ps : List MemPlace} (h : DataW.TrodVars enc Tryd.prog W sp vars2 gs ps) : ∃ g1 g2 g3 g4, gs = [g1, g2, g3, g4] := by
  have e := trodVars_len h
  rcases gs with _ | ⟨g1, _ | ⟨g2, _ | ⟨g3, _ | ⟨g4, _ | ⟨g, l⟩⟩⟩⟩⟩ <;> first | exact ⟨_, _, _, _, rfl⟩ | (exfalso; simp at e)

end Go.Proofs.YtlcilhmkbmgkeaaDoor
