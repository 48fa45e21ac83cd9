/- The seat's part of each row: the listed tables, where a call begins, what stays. No conditions. -/
import Derived.Test.YtlcilhmkbmgkeaaDoorRows
import Derived.Test.YtlcilhmkbmgkeaaDoorTie
import Derived.Test.YtlcilhmkbmgkeaaDoorCards
import Derived.Test.YtlcilhmkbmgkeaaDoorNShell
import Derived.Test.YtlcilhmkbmgkeaaDoorNLays
import Derived.ProofKit
import Derived.LaidMore
import Derived.OpenShut
import Derived.Stop.Joined
import Derived.SevenTiedAt
import Derived.Test.YtlcilhmkbmgkeaaDoorNDH
namespace Go.Proofs.YtlcilhmkbmgkeaaDoor
open Go.ChangeShapes Go.WideShapes Go.ChangeAt Go.RowKit Go.Abs
set_option linter.unusedVariables false
set_option maxRecDepth 20000

theorem own : ownKnob Tryd.prog.godebug = none := by kernel_rfl
theorem laidOut : laidOutB Tryd.prog = true := by kernel_rfl
theorem gn1 : Tryd.prog.globalNamed "loop.example/cothreads/impl.instrTable" = some 1 := by kernel_rfl
theorem gt1 : (Tryd.prog.globals[1]?).map (·.type) = some 119 := by kernel_rfl

/-- one row of the instructions' table -/
def rowD {H : Type} (x : List UInt8 × Int × Int × Int) : DataW H := .agg [.lit (.string x.1), .lit (.int .i64 x.2.1), .lit (.int .i64 x.2.2.1), .lit (.int .i64 x.2.2.2)]
theorem lays_row {H : Type} (x : List UInt8 × Int × Int × Int) : Lays Tryd.prog H 118 (rowD x) (rInstrRow ⟨⟨x.1.toArray⟩, x.2.1, x.2.2.1, x.2.2.2⟩) :=
  lays_struct Tryd.underlying118 (by kernel_rfl) (.cons (by kernel_rfl) (lays_str x.1 Tryd.underlying9) (.cons (by kernel_rfl) (lays_int x.2.1 Tryd.underlying3) (.cons (by kernel_rfl) (lays_int x.2.2.1 Tryd.underlying3) (.cons (by kernel_rfl) (lays_int x.2.2.2 Tryd.underlying3) (.nil _)))))
theorem lays_rows {H : Type} : ∀ (l : List (List UInt8 × Int × Int × Int)), LaysE Tryd.prog H 118 (l.map rowD) (gR rInstrRow (l.map fun x => ⟨⟨x.1.toArray⟩, x.2.1, x.2.2.1, x.2.2.2⟩))
  | [] => .nil
  | x :: l => .cons (lays_row x) (lays_rows l)
def tabL : List (List UInt8 × Int × Int × Int) := [([97, 100, 100], 51, 0, 0), ([115, 117, 98], 51, 0, 32), ([109, 117, 108], 51, 0, 1), ([100, 105, 118], 51, 4, 1), ([114, 101, 109], 51, 6, 1), ([97, 110, 100], 51, 7, 0), ([111, 114], 51, 6, 0), ([120, 111, 114], 51, 4, 0), ([115, 108, 108], 51, 1, 0), ([115, 114, 97], 51, 5, 32), ([115, 108, 116], 51, 2, 0), ([97, 100, 100, 105], 19, 0, 0), ([115, 108, 116, 105, 117], 19, 3, 0), ([108, 119], 3, 2, 0), ([106, 97, 108, 114], 103, 0, 0), ([115, 119], 35, 2, 0), ([98, 101, 113], 99, 0, 0), ([98, 110, 101], 99, 1, 0), ([108, 117, 105], 55, 0, 0), ([106, 97, 108], 111, 0, 0), ([101, 99, 97, 108, 108], 115, 0, 0)]
theorem lays_tab {H : Type} : Lays Tryd.prog H 119 (Rows.laid_loop_example_cothreads_impl_instrTable) (gR rInstrRow instrTab) := lays_array (n := 21) (ds := tabL.map rowD) Tryd.underlying119 (by kernel_rfl) (lays_rows tabL)
theorem tab_one : ∀ x ∈ gR rInstrRow instrTab, x.one = true := of_decide_eq_true (by kernel_rfl)

/-- the listed tables -/
abbrev laid2 : List (String × DataW Unit) := [("loop.example/cothreads/impl.instrTable", Rows.laid_loop_example_cothreads_impl_instrTable)]
abbrev vars2 : List String := ["loop.example/cothreads/impl.instrTable"]

theorem of_laid {W : World} (h : laidMetH Tryd.prog laid2 W) : R G phi0 noObj W := by
  rw [MakeChecks.laidMetH_plain _ _ _ (by kernel_rfl)] at h
  obtain ⟨ps, ⟨g0, t0, cs0, f0, p0, q0, hg0, ht0, hv0, hd0, _, _⟩, _, _⟩ := h
  obtain rfl := Option.some.inj (gn1.symm.trans hg0)
  obtain rfl := Option.some.inj (gt1.symm.trans ht0)
  refine R_noObj fun g cs hg => ?_
  unfold G at hg
  split at hg
  · cases hg; exact lay_rel (own_noObj _) hg0 hv0 hd0 lays_tab tab_one
  · cases hg

/-- the door's own heap meets the condition -/
theorem door_met (os : Os) (args : Array Value) : laidMetH Tryd.prog laid2 ((World.doorLaid Tryd.prog 400 os).forCall (fun _ _ => 0) ⟨#[], args, []⟩).memory :=
  laidMetH_of_parts3 (fuel := 8) (laidMet_of_run' 8 (by kernel_rfl) (by kernel_rfl)) (by kernel_rfl) (by kernel_rfl)

theorem vars_stay {H : Type} {enc : TypeId × Value → H} {W W' : World} (hb : Go.RowKit.Below W.heap.size W W') {gs : List (DataW H)} {ps : List MemPlace} (h : DataW.TrodVars enc Tryd.prog W (fun _ => true) vars2 gs ps) :
    DataW.TrodVars enc Tryd.prog W' (fun b => decide (b < W.heap.size)) vars2 gs ps := by
  refine var_stays laidOut hb (fun g t a b => ?_) (fun {gs ps} h => ?_) h
  · obtain rfl := Option.some.inj (gn1.symm.trans a)
    obtain rfl := Option.some.inj (gt1.symm.trans b)
    exact ⟨by kernel_rfl, of_decide_eq_true (by kernel_rfl)⟩
  · cases gs with
    | nil => exact h
    | cons _ _ => exact h.elim

end Go.Proofs.YtlcilhmkbmgkeaaDoor
