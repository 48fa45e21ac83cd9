/- Plain data of the law's types as arguments. No conditions. -/
import Derived.Test.YtoklfbdcghgmlaaDoorNOpens
import Derived.Test.YtoklfbdcghgmlaaDoorNDH
import Derived.ProofKit
set_option maxRecDepth 20000
set_option linter.unusedSimpArgs false
namespace Go.Proofs.YtoklfbdcghgmlaaDoor
open Go Go.Abs

theorem op3 : Opens Tryd.prog 3 Int (fun n => [.int .i64 n]) I64 := opens_int Tryd.underlying3
def gd92 (x : gInstr) : Prop := I64 x.Op ∧ I64 x.Rd ∧ I64 x.Rs ∧ I64 x.Rt ∧ I64 x.Imm
theorem op92 : Opens Tryd.prog 92 gInstr rInstr gd92 := opens_struct Tryd.underlying92 (by kernel_rfl) (.cons (by kernel_rfl) op3 (.cons (by kernel_rfl) op3 (.cons (by kernel_rfl) op3 (.cons (by kernel_rfl) op3 (.cons (by kernel_rfl) op3 (.nil _)))))) (fun x => ⟨x.1, x.2.1, x.2.2.1, x.2.2.2.1, x.2.2.2.2.1⟩) (fun _ => rfl) (fun x h => ⟨h.1, h.2.1, h.2.2.1, h.2.2.2.1, h.2.2.2.2.1⟩)
theorem op22 : Opens Tryd.prog 22 (List gInstr) (fun l => [.fsl (encL rInstr l)]) (fun l => l.length ≤ maxLen ∧ ∀ x ∈ l, gd92 x) := opens_slice Tryd.underlying22 (of_decide_eq_true (by kernel_rfl)) (fun x y hy => by simp at hy; first | (subst hy; rfl) | (rcases hy with rfl | rfl | rfl | rfl | rfl <;> rfl)) op92
end Go.Proofs.YtoklfbdcghgmlaaDoor
