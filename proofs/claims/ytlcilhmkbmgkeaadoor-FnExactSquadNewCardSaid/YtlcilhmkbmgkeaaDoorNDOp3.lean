/- Plain data of the law's types as arguments. No conditions. -/
import Derived.Test.YtlcilhmkbmgkeaaDoorNOpens
import Derived.Test.YtlcilhmkbmgkeaaDoorNDH
import Derived.ProofKit
set_option maxRecDepth 20000
set_option linter.unusedSimpArgs false
namespace Go.Proofs.YtlcilhmkbmgkeaaDoor
open Go Go.Abs

theorem op3 : Opens Tryd.prog 3 Int (fun n => [.int .i64 n]) I64 := opens_int Tryd.underlying3
theorem op22 : Opens Tryd.prog 22 (List Int) (fun l => [.fsl (encL rI l)]) (fun l => l.length ≤ maxLen ∧ ∀ x ∈ l, I64 x) := opens_slice Tryd.underlying22 (of_decide_eq_true (by kernel_rfl)) (fun x y hy => by simp at hy; first | (subst hy; rfl) | (rcases hy with rfl <;> rfl)) op3
def gd90 (x : gInstr) : Prop := I64 x.Op ∧ I64 x.Rd ∧ I64 x.Rs ∧ I64 x.Rt ∧ I64 x.Imm
theorem op90 : Opens Tryd.prog 90 gInstr rInstr gd90 := opens_struct Tryd.underlying90 (by kernel_rfl) (.cons (by kernel_rfl) op3 (.cons (by kernel_rfl) op3 (.cons (by kernel_rfl) op3 (.cons (by kernel_rfl) op3 (.cons (by kernel_rfl) op3 (.nil _)))))) (fun x => ⟨x.1, x.2.1, x.2.2.1, x.2.2.2.1, x.2.2.2.2.1⟩) (fun _ => rfl) (fun x h => ⟨h.1, h.2.1, h.2.2.1, h.2.2.2.1, h.2.2.2.2.1⟩)
theorem op60 : Opens Tryd.prog 60 (List gInstr) (fun l => [.fsl (encL rInstr l)]) (fun l => l.length ≤ maxLen ∧ ∀ x ∈ l, gd90 x) := opens_slice Tryd.underlying60 (of_decide_eq_true (by kernel_rfl)) (fun x y hy => by simp at hy; first | (subst hy; rfl) | (rcases hy with rfl | rfl | rfl | rfl | rfl <;> rfl)) op90
theorem op23 : Opens Tryd.prog 23 (List (List gInstr)) (fun l => [.fsl (encL rL_Instr l)]) (fun l => l.length ≤ maxLen ∧ ∀ x ∈ l, (fun l : List gInstr => l.length ≤ maxLen ∧ ∀ x ∈ l, gd90 x) x) := opens_slice Tryd.underlying23 (of_decide_eq_true (by kernel_rfl)) (fun x y hy => by simp at hy; first | (subst hy; rfl) | (rcases hy with rfl <;> rfl)) op60
end Go.Proofs.YtlcilhmkbmgkeaaDoor
