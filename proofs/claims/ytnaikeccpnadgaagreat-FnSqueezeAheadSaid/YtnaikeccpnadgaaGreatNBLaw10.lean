/- laws.FnSqueezeAhead returns true, whatever the input is, and leaves it as it was. No conditions but the row's own. -/
import Derived.Test.YtnaikeccpnadgaaGreatRows
import Derived.Test.YtnaikeccpnadgaaGreatNShell
import Derived.ProofKit
import Derived.LaidMore
import Derived.OpenShut
import Derived.Stop.Joined
import Derived.SevenTiedAt
import Derived.WalkKit
import Derived.Test.YtnaikeccpnadgaaGreatNBXSqueezeAhead
import Derived.Test.YtnaikeccpnadgaaGreatNBHd
import Derived.Test.YtnaikeccpnadgaaGreatNBOp10
import Derived.Test.YtnaikeccpnadgaaGreatNLSqAh
namespace Go.Proofs.YtnaikeccpnadgaaGreat
open Go.ChangeShapes Go.WideShapes Go.ChangeAt Go.RowKit Go.Abs
set_option linter.unusedVariables false

theorem own : ownKnob Tryz.prog.godebug = none := by kernel_rfl
theorem dR : laidOutB Tryz.prog = true := by kernel_rfl
theorem r_none (W : World) : R G phi0 noObj W := R_noObj fun g cs hg => by cases hg

set_option maxRecDepth 100000 in
theorem dH (os : Os) (started : os.Started) (H : Type) (enc : TypeId × Value → H) :
    ReturnsInHanded {} Tryz.checked os 10 .any (Rows.fnSqueezeAheadSpec.pre6 enc Tryz.prog Tryz.f10 Rows.fnSqueezeAheadRow.domain false) (Rows.fnSqueezeAheadSpec.post enc Tryz.prog Tryz.f10 false true false false) := by
  refine returnsInHanded_of_change (C := Tryz.checked) own started (by kernel_rfl) Tryz.func10
    (ChangeSpec.witness6 (enc := enc) (C := Tryz.checked) false ⟨#[], #[.slice none 0 0, .slice none 0 0], []⟩ 8 (by kernel_rfl) (by kernel_rfl) (by kernel_rfl) (by kernel_rfl)) ?_
  intro W base args ds gs before hval0 hW hcnd _
  have hval : ∀ (j : Nat) t v, Tryz.f10.params[j]? = some t → args[j]? = some v → Value.okWide Tryz.prog W .any base t v := hval0
  have hW' := hW
  obtain ⟨p, q, hA0, hV, rfl, hfz, hnd⟩ := hW
  have hA : DataW.TrodAll enc Tryz.prog W 0 (fun _ => true) true Tryz.f10.params.toList args.toList ds p := hA0
  rw [Tryz.params10] at hA hval
  obtain ⟨v0, v1, d0, d1, p0, p1, rfl, rfl, rfl, h0, h1⟩ := trodAll_two hA
  have lt0 : ∀ x ∈ p0, x.block < W.heap.size := by obtain ⟨m, hm⟩ := h0; exact DataW.trod_lt m _ _ _ hm
  obtain ⟨a0, len0, cap0, rfl⟩ := okWide_slice Tryz.underlying22 (hval 0 22 v0 rfl rfl)
  obtain ⟨x0, r0, g0_⟩ := cJ op22 (nW (fun _ => none)) h0 rfl
  have lt1 : ∀ x ∈ p1, x.block < W.heap.size := by obtain ⟨m, hm⟩ := h1; exact DataW.trod_lt m _ _ _ hm
  obtain ⟨a1, len1, cap1, rfl⟩ := okWide_slice Tryz.underlying22 (hval 1 22 v1 rfl rfl)
  obtain ⟨x1, r1, g1_⟩ := cJ op22 (nW (fun _ => none)) h1 rfl
  obtain ⟨rfl, rfl⟩ := trodVars_none hV
  refine (pure_true (c10 (dT x0 x1 (fun x h => ⟨(g0_.2 x h).1, Int.lt_of_le_of_lt (g0_.2 x h).2 (by decide)⟩) g0_.1)) (r_none W) (fD r0 rfl (fD r1 rfl args_nil))).mono fun e W' ⟨he, bel⟩ => ?_
  subst he
  exact ⟨_, rfl, _, _, _, [], _, _, hW', trodAll_mk1 (shut_bool Tryz.underlying4 _), trodAll_mk2 (Below.trod dR (by kernel_rfl) (of_decide_eq_true (by kernel_rfl)) h0 bel lt0) (Below.trod dR (by kernel_rfl) (of_decide_eq_true (by kernel_rfl)) h1 bel lt1), rfl, bel.frame _, fun h => by cases h⟩

theorem jl : (Rows.fnSqueezeAheadRow.lifted == Tryz.prog.liftsFinal) = true := by rw [hdFinal]; rfl
theorem jm : (Tryz.prog.make == some Rows.fnSqueezeAheadRow.make) = true := by rw [hdMake]; rfl
set_option maxHeartbeats 4000000 in
theorem jf : joinedFacts Tryz.prog 10 Tryz.f10 Rows.fnSqueezeAheadSpec Rows.fnSqueezeAheadRow = true := by
  simp only [joinedFacts, Bool.and_eq_true]
  repeat' apply And.intro
  all_goals first
    | with_reducible exact hdEnter
    | with_reducible exact jl
    | with_reducible exact jm
    | (as_aux_lemma => kernel_rfl)
theorem squeezeAhead_holds : Rows.FnSqueezeAheadSaid :=
  OpenClaim.holds_of_wide 10 Tryz.f10 rfl rfl rfl rfl rfl rfl rfl ⟨rfl, rfl, rfl, rfl, rfl⟩ rfl rfl rfl rfl rfl (by kernel_rfl) Tryz.func10 jf
    (of_decide_eq_true (by kernel_rfl)) (by unfold Func.isWrapper; first | (rw [if_pos (by decide +kernel)]; kernel_rfl) | (rw [if_neg (by decide +kernel)]; exact ⟨rfl, rfl⟩))
    (fun os started H enc _ => dH os started H enc)
#print axioms squeezeAhead_holds
end Go.Proofs.YtnaikeccpnadgaaGreat
