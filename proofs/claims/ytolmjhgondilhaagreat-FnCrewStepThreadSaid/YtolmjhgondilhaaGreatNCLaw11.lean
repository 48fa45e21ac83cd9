/- laws.FnCrewStepThread returns true, whatever the input is, and leaves it as it was. No conditions but the row's own. -/
import Derived.Test.YtolmjhgondilhaaGreatRows
import Derived.Test.YtolmjhgondilhaaGreatNShell
import Derived.ProofKit
import Derived.LaidMore
import Derived.OpenShut
import Derived.Stop.Joined
import Derived.SevenTiedAt
import Derived.WalkKit
import Derived.Test.YtolmjhgondilhaaGreatNCXCrewStepThread
import Derived.Test.YtolmjhgondilhaaGreatNCHd
import Derived.Test.YtolmjhgondilhaaGreatNCOp11
import Derived.Test.YtolmjhgondilhaaGreatNLCStT
namespace Go.Proofs.YtolmjhgondilhaaGreat
open Go.ChangeShapes Go.WideShapes Go.ChangeAt Go.RowKit Go.Abs
set_option linter.unusedVariables false

theorem own : ownKnob Tryz.prog.godebug = none := by kernel_rfl
theorem laidOut : laidOutB Tryz.prog = true := by kernel_rfl
theorem r_none (W : World) : R G phi0 noObj W := R_noObj fun g cs hg => by cases hg

set_option maxRecDepth 100000 in
theorem mV (os : Os) (started : os.Started) (H : Type) (enc : TypeId × Value → H) :
    ReturnsInHanded {} Tryz.checked os 11 .any (Rows.fnCrewStepThreadSpec.pre6 enc Tryz.prog Tryz.f11 Rows.fnCrewStepThreadRow.domain false) (Rows.fnCrewStepThreadSpec.post enc Tryz.prog Tryz.f11 false true false false) := by
  refine returnsInHanded_of_change (C := Tryz.checked) own started (by kernel_rfl) Tryz.func11
    (ChangeSpec.witness6 (enc := enc) (C := Tryz.checked) false ⟨#[], #[.slice none 0 0], []⟩ 8 (by kernel_rfl) (by kernel_rfl) (by kernel_rfl) (by kernel_rfl)) ?_
  intro W base args ds gs before hval0 hW hcnd _
  have hval : ∀ (j : Nat) t v, Tryz.f11.params[j]? = some t → args[j]? = some v → Value.okWide Tryz.prog W .any base t v := hval0
  have hW' := hW
  obtain ⟨p, q, hA0, hV, rfl, hfz, hnd⟩ := hW
  have hA : DataW.TrodAll enc Tryz.prog W 0 (fun _ => true) true Tryz.f11.params.toList args.toList ds p := hA0
  rw [Tryz.params11] at hA hval
  obtain ⟨v0, d0, rfl, rfl, h0⟩ := trodAll_one hA
  have lt0 : ∀ x ∈ p, x.block < W.heap.size := by obtain ⟨m, hm⟩ := h0; exact DataW.trod_lt m _ _ _ hm
  obtain ⟨a0, len0, cap0, rfl⟩ := okWide_slice Tryz.underlying22 (hval 0 22 v0 rfl rfl)
  obtain ⟨x0, r0, g0_⟩ := open_one op22 (own_noObj (fun _ => none)) h0 rfl
  obtain ⟨rfl, rfl⟩ := trodVars_none hV
  refine (pure_true (c11 (mT x0 (fun x h => ⟨(g0_.2 x h).1, Int.lt_of_le_of_lt (g0_.2 x h).2 (by decide)⟩) g0_.1)) (r_none W) (args_cons r0 rfl args_nil)).mono fun e W' ⟨he, bel⟩ => ?_
  subst he
  exact ⟨_, rfl, _, _, _, [], _, _, hW', trodAll_mk1 (shut_bool Tryz.underlying4 _), trodAll_mk1 (Below.trod laidOut (by kernel_rfl) (of_decide_eq_true (by kernel_rfl)) h0 bel lt0), rfl, bel.frame _, fun h => by cases h⟩

theorem jl : (Rows.fnCrewStepThreadRow.lifted == Tryz.prog.liftsFinal) = true := by rw [hdFinal]; rfl
theorem jm : (Tryz.prog.make == some Rows.fnCrewStepThreadRow.make) = true := by rw [hdMake]; rfl
set_option maxHeartbeats 4000000 in
theorem jf : joinedFacts Tryz.prog 11 Tryz.f11 Rows.fnCrewStepThreadSpec Rows.fnCrewStepThreadRow = true := by
  simp only [joinedFacts, Bool.and_eq_true]
  repeat' apply And.intro
  all_goals first
    | with_reducible exact hdEnter
    | with_reducible exact jl
    | with_reducible exact jm
    | (as_aux_lemma => kernel_rfl)
theorem crewStepThread_holds : Rows.FnCrewStepThreadSaid :=
  OpenClaim.holds_of_wide 11 Tryz.f11 rfl rfl rfl rfl rfl rfl rfl ⟨rfl, rfl, rfl, rfl, rfl⟩ rfl rfl rfl rfl rfl (by kernel_rfl) Tryz.func11 jf
    (of_decide_eq_true (by kernel_rfl)) (by unfold Func.isWrapper; first | (rw [if_pos (by decide +kernel)]; kernel_rfl) | (rw [if_neg (by decide +kernel)]; exact ⟨rfl, rfl⟩))
    (fun os started H enc _ => mV os started H enc)
#print axioms crewStepThread_holds
end Go.Proofs.YtolmjhgondilhaaGreat
