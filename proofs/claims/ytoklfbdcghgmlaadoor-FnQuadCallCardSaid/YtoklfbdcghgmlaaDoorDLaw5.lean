/- laws.FnQuadCall returns true, whatever the code is, and leaves the code as it was. No conditions but the row's own. -/
import Derived.Test.YtoklfbdcghgmlaaDoorRows
import Derived.Test.YtoklfbdcghgmlaaDoorTie
import Derived.Test.YtoklfbdcghgmlaaDoorCards
import Derived.Test.YtoklfbdcghgmlaaDoorDT7
import Derived.Test.YtoklfbdcghgmlaaDoorLaw5
import Derived.Test.YtoklfbdcghgmlaaDoorShell
import Derived.ProofKit
import Derived.LaidMore
import Derived.OpenShut
import Derived.Stop.Joined
import Derived.SevenTiedAt
namespace Go.Proofs.YtoklfbdcghgmlaaDoor
open Go.ChangeShapes Go.WideShapes Go.ChangeAt Go.RowKit Go.Abs
set_option linter.unusedVariables false

theorem own : ownKnob Tryd.prog.godebug = none := by kernel_rfl
theorem laidOut : laidOutB Tryd.prog = true := by kernel_rfl
theorem gColors : Tryd.prog.globalNamed "loop.example/cothreads/impl.colorRegs" = some 3 := by kernel_rfl
theorem gBins : Tryd.prog.globalNamed "loop.example/cothreads/impl.binInstrs" = some 0 := by kernel_rfl
theorem tColors : (Tryd.prog.globals[3]?).map (·.type) = some 157 := by kernel_rfl
theorem tBins : (Tryd.prog.globals[0]?).map (·.type) = some 134 := by kernel_rfl

/-- the two listed tables -/
abbrev laid2 : List (String × DataW Unit) := [("loop.example/cothreads/impl.colorRegs", Rows.laid_loop_example_cothreads_impl_colorRegs), ("loop.example/cothreads/impl.binInstrs", Rows.laid_loop_example_cothreads_impl_binInstrs)]
abbrev vars2 : List String := ["loop.example/cothreads/impl.colorRegs", "loop.example/cothreads/impl.binInstrs"]

theorem of_laid {W : World} (h : laidMetH Tryd.prog laid2 W) : R G (fun _ => none) noObj W := by
  rw [MakeChecks.laidMetH_plain _ _ _ (by kernel_rfl)] at h
  obtain ⟨ps, ⟨g0, t0, cs0, f0, p0, q0, hg0, ht0, hv0, hd0, ⟨g1, t1, cs1, f1, p1, q1, hg1, ht1, hv1, hd1, _, _⟩, _⟩, _, _⟩ := h
  obtain rfl := Option.some.inj (gColors.symm.trans hg0)
  obtain rfl := Option.some.inj (gBins.symm.trans hg1)
  obtain rfl := Option.some.inj (tColors.symm.trans ht0)
  obtain rfl := Option.some.inj (tBins.symm.trans ht1)
  obtain ⟨c0, b0⟩ := tab_cells (l := [8, 9, 18, 19, 20, 21, 22, 23]) hg0 hv0 Tryd.underlying157 Tryd.underlying3 (by kernel_rfl) hd0
  obtain ⟨c1, b1⟩ := tab_cells (l := [7, 8, 6, 8, 11, 9, 10, 1, 2, 3, 4, 5]) hg1 hv1 Tryd.underlying134 Tryd.underlying3 (by kernel_rfl) hd1
  refine R_noObj fun g cs hg => ?_
  unfold G at hg
  split at hg
  · cases hg; exact tab_rel (own_noObj _) c1 b1
  · cases hg; exact tab_rel (own_noObj _) c0 b0
  · cases hg

/-- the door's own heap meets the condition -/
theorem door_met (os : Os) (args : Array Value) : laidMetH Tryd.prog laid2 ((World.doorLaid Tryd.prog 400 os).forCall (fun _ _ => 0) ⟨#[], args, []⟩).memory :=
  laidMetH_of_parts3 (fuel := 8) (laidMet_of_run' 8 (by kernel_rfl) (by kernel_rfl)) (by kernel_rfl) (by kernel_rfl)

theorem vars_stay {H : Type} {enc : TypeId × Value → H} {W W' : World} (hb : Go.RowKit.Below W.heap.size W W') {gs : List (DataW H)} {ps : List MemPlace} (h : DataW.TrodVars enc Tryd.prog W (fun _ => true) vars2 gs ps) :
    DataW.TrodVars enc Tryd.prog W' (fun b => decide (b < W.heap.size)) vars2 gs ps := by
  refine var_stays laidOut hb (fun g t a b => ?_) (fun h => var_stays laidOut hb (fun g t a b => ?_) (fun {gs ps} h => ?_) h) h
  · obtain rfl := Option.some.inj (gColors.symm.trans a)
    obtain rfl := Option.some.inj (tColors.symm.trans b)
    exact ⟨by kernel_rfl, of_decide_eq_true (by kernel_rfl)⟩
  · obtain rfl := Option.some.inj (gBins.symm.trans a)
    obtain rfl := Option.some.inj (tBins.symm.trans b)
    exact ⟨by kernel_rfl, of_decide_eq_true (by kernel_rfl)⟩
  · cases gs with
    | nil => exact h
    | cons _ _ => exact h.elim

set_option maxRecDepth 100000 in
theorem quadCall_lifted (os : Os) (started : os.Started) (H : Type) (enc : TypeId × Value → H) :
    ReturnsInHanded {} Tryd.checked os 5 .any (fun w args => (Rows.fnQuadCallSpec.pre enc Tryd.prog Tryd.f5 [] false w args ∧ laidMetH Tryd.prog laid2 w) ∧ sizedMet enc Tryd.prog Tryd.f5 (OpenSpec.ofChange Rows.fnQuadCallSpec) false w args)
      (Rows.fnQuadCallSpec.post enc Tryd.prog Tryd.f5 false true false false) := by
  refine returnsInHanded_of_change_and (C := Tryd.checked) (X := fun w _ => laidMetH Tryd.prog laid2 w) (fun _ _ _ hh h => h.of_heap hh) own started (by kernel_rfl) Tryd.func5
    (ChangeSpec.witness_shaped (enc := enc) (C := Tryd.checked) (os := os) (X := fun w _ => laidMetH Tryd.prog laid2 w) false (World.doorLaid Tryd.prog 400 os) #[.slice none 0 0] 8 rfl (World.shaped_of_RefB (by kernel_rfl) (by kernel_rfl)) (by kernel_rfl) (by kernel_rfl) (by kernel_rfl) (door_met os _)) ?_
  intro W base args ds gs before hval0 hW _ _ hL _
  have hval : ∀ (j : Nat) t v, Tryd.f5.params[j]? = some t → args[j]? = some v → Value.okWide Tryd.prog W .any base t v := hval0
  have hW' := hW
  obtain ⟨p, q, hA0, hV, rfl, hfz, hnd⟩ := hW
  have hA : DataW.TrodAll enc Tryd.prog W 0 (fun _ => true) true Tryd.f5.params.toList args.toList ds p := hA0
  rw [Tryd.params5] at hA hval
  obtain ⟨v0, d0, rfl, rfl, h0⟩ := trodAll_one hA
  obtain ⟨a0, len0, cap0, rfl⟩ := okWide_slice Tryd.underlying43 (hval 0 43 v0 rfl rfl)
  have k0 := h0
  have lt0 : ∀ x ∈ p, x.block < W.heap.size := by obtain ⟨m, hm⟩ := k0; exact DataW.trod_lt m _ _ _ hm
  obtain ⟨z0, w0⟩ : ∃ zs, IsRow .u8 W a0 len0 cap0 zs := by
    obtain ⟨fuel, hf⟩ := h0
    rcases open_ints Tryd.underlying43 Tryd.underlying5 (by kernel_rfl) hf with ⟨hcs, _⟩ | ⟨x, l, c, zs, hcs, _, hl, hm, hz, _, hcell, hwz⟩
    · simp [Value.cells] at hcs
      obtain ⟨rfl, rfl, rfl⟩ := hcs
      exact ⟨[], .inl ⟨rfl, rfl, rfl, rfl⟩⟩
    · simp [Value.cells] at hcs
      obtain ⟨rfl, rfl, rfl⟩ := hcs
      exact ⟨zs, .inr ⟨_, rfl, hl, hm, by simpa using hz, hcell, hwz⟩⟩
  have hby : Bytes (z0.take len0) := by
    intro x hx
    have hx := List.mem_of_mem_take hx
    rcases w0 with ⟨_, _, _, rfl⟩ | ⟨_, _, _, _, _, _, hw⟩
    · cases hx
    · have := hw x hx
      simp only [Lit.wf, Bool.and_eq_true, decide_eq_true_eq] at this
      have e0 : IntKind.u8.min = 0 := by rfl
      have e1 : IntKind.u8.max = 255 := by rfl
      omega
  have hV0 := hV
  obtain ⟨_, _, _, _, g1, _, _, _, _, _, g2, _, rfl, _⟩ := trodVars_two hV0
  refine (pure_true (c5 (fnQuadCall_true _ hby)) (of_laid hL) (args_one (row_rel (own_noObj _) (fun _ => rfl) w0))).mono fun e W' ⟨he, bel⟩ => ?_
  subst he
  exact ⟨_, rfl, _, _, _, [], _, _, hW', trodAll_mk1 (shut_bool Tryd.underlying4 _), trodAll_mk1 (Below.trod laidOut (by kernel_rfl) (of_decide_eq_true (by kernel_rfl)) k0 bel lt0), vars_stay bel hV, bel.frame _, fun h => by cases h⟩

theorem quadCall_holds : Rows.FnQuadCallSaid :=
  OpenClaim.holds_of_wide 5 Tryd.f5 rfl rfl rfl rfl rfl rfl rfl ⟨rfl, rfl, rfl, rfl, rfl⟩ rfl rfl rfl rfl rfl (by kernel_rfl) Tryd.func5 (by kernel_rfl)
    (of_decide_eq_true (by kernel_rfl)) (by unfold Func.isWrapper; first | (rw [if_pos (by decide +kernel)]; kernel_rfl) | (rw [if_neg (by decide +kernel)]; exact ⟨rfl, rfl⟩))
    (fun os started H enc _ => quadCall_lifted os started H enc)
theorem quadCall_card : Rows.FnQuadCallCardSaid :=
  Claim7.holds_tied_plain_at .later [] [.data, .data] true (true, "6714078ebb4478d4d403befe1667e4ee34fc9532bbfc7447b532ffbe889bab48") false
    quadCall_holds (fun _ h => by cases h) (by kernel_rfl) (fun _ h => by cases h) fnQuadCall_row_tie rfl ⟨rfl, rfl⟩ (by kernel_rfl) rfl
    (fun f fn hf hfn => by
      obtain rfl : f = 5 := Option.some.inj ((show Tryd.prog.funcNamed "loop.example/cothreads/laws.FnQuadCall" = some 5 by kernel_rfl).symm.trans hf) |>.symm
      obtain rfl : fn = Tryd.f5 := (Option.some.inj (Tryd.func5.symm.trans hfn)).symm
      exact ⟨by kernel_rfl, fun j t ht => by
        rw [Tryd.params5] at ht
        have hm : t ∈ [43] := by simpa using Array.mem_of_getElem? ht
        have hall : ([43].all fun u => !Tryd.prog.wantsStandIn u) = true := by kernel_rfl
        exact (show Tryd.prog.wantsStandIn t = false by simpa using List.all_eq_true.1 hall t hm)⟩)
    (by kernel_rfl)
#print axioms quadCall_card
end Go.Proofs.YtoklfbdcghgmlaaDoor
