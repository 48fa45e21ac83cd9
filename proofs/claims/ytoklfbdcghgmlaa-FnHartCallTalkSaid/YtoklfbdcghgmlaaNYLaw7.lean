/- laws.FnHartCallTalk returns true, whatever the input is, and leaves it as it was. No conditions but the row's own. -/
import Derived.Test.YtoklfbdcghgmlaaRows
import Derived.Test.YtoklfbdcghgmlaaNShell
import Derived.ProofKit
import Derived.LaidMore
import Derived.OpenShut
import Derived.Stop.Joined
import Derived.SevenTiedAt
import Derived.WalkKit
import Derived.Test.YtoklfbdcghgmlaaNYT3
import Derived.Test.YtoklfbdcghgmlaaNYOp7
import Derived.Test.YtoklfbdcghgmlaaNLawHC
namespace Go.Proofs.Ytoklfbdcghgmlaa
open Go.ChangeShapes Go.WideShapes Go.ChangeAt Go.RowKit Go.Abs
set_option linter.unusedVariables false

theorem own : ownKnob Try.prog.godebug = none := by kernel_rfl
theorem laidOut : laidOutB Try.prog = true := by kernel_rfl
theorem r_none (W : World) : R G phi0 noObj W := R_noObj fun g cs hg => by cases hg

set_option maxRecDepth 100000 in
theorem hartCallTalk_lifted (os : Os) (started : os.Started) (H : Type) (enc : TypeId × Value → H) :
    ReturnsInHanded {} Try.checked os 7 .any (Rows.fnHartCallTalkSpec.pre6 enc Try.prog Try.f7 Rows.fnHartCallTalkRow.domain false) (Rows.fnHartCallTalkSpec.post enc Try.prog Try.f7 false true false false) := by
  refine returnsInHanded_of_change (C := Try.checked) own started (by kernel_rfl) Try.func7
    (ChangeSpec.witness6 (enc := enc) (C := Try.checked) false ⟨#[], #[.slice none 0 0], []⟩ 8 (by kernel_rfl) (by kernel_rfl) (by kernel_rfl) (by kernel_rfl)) ?_
  intro W base args ds gs before hval0 hW hcnd _
  have hval : ∀ (j : Nat) t v, Try.f7.params[j]? = some t → args[j]? = some v → Value.okWide Try.prog W .any base t v := hval0
  have hW' := hW
  obtain ⟨p, q, hA0, hV, rfl, hfz, hnd⟩ := hW
  have hA : DataW.TrodAll enc Try.prog W 0 (fun _ => true) true Try.f7.params.toList args.toList ds p := hA0
  rw [Try.params7] at hA hval
  obtain ⟨v0, d0, rfl, rfl, h0⟩ := trodAll_one hA
  have lt0 : ∀ x ∈ p, x.block < W.heap.size := by obtain ⟨m, hm⟩ := h0; exact DataW.trod_lt m _ _ _ hm
  obtain ⟨a0, len0, cap0, rfl⟩ := okWide_slice Try.underlying59 (hval 0 59 v0 rfl rfl)
  obtain ⟨x0, r0, g0_⟩ := open_one op59 (own_noObj (fun _ => none)) h0 rfl
  obtain ⟨rfl, rfl⟩ := trodVars_none hV
  refine (pure_true (c7 (fnHartCallTalk_true (bytes_of g0_.2))) (r_none W) (args_cons r0 rfl args_nil)).mono fun e W' ⟨he, bel⟩ => ?_
  subst he
  exact ⟨_, rfl, _, _, _, [], _, _, hW', trodAll_mk1 (shut_bool Try.underlying4 _), trodAll_mk1 (Below.trod laidOut (by kernel_rfl) (of_decide_eq_true (by kernel_rfl)) h0 bel lt0), rfl, bel.frame _, fun h => by cases h⟩

theorem hartCallTalk_holds : Rows.FnHartCallTalkSaid :=
  OpenClaim.holds_of_wide 7 Try.f7 rfl rfl rfl rfl rfl rfl rfl ⟨rfl, rfl, rfl, rfl, rfl⟩ rfl rfl rfl rfl rfl (by kernel_rfl) Try.func7 (by kernel_rfl)
    (of_decide_eq_true (by kernel_rfl)) (by unfold Func.isWrapper; first | (rw [if_pos (by decide +kernel)]; kernel_rfl) | (rw [if_neg (by decide +kernel)]; exact ⟨rfl, rfl⟩))
    (fun os started H enc _ => hartCallTalk_lifted os started H enc)
#print axioms hartCallTalk_holds
end Go.Proofs.Ytoklfbdcghgmlaa
