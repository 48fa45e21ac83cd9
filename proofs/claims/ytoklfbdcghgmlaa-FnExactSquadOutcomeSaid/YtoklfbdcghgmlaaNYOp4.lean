/- Plain data of the law's types as arguments. No conditions. -/
import Derived.Test.YtoklfbdcghgmlaaNOpens
import Derived.Test.YtoklfbdcghgmlaaNYH
import Derived.ProofKit
set_option maxRecDepth 20000
set_option linter.unusedSimpArgs false
namespace Go.Proofs.Ytoklfbdcghgmlaa
open Go Go.Abs

theorem op3 : Opens Try.prog 3 Int (fun n => [.int .i64 n]) I64 := opens_int Try.underlying3
theorem op22 : Opens Try.prog 22 (List Int) (fun l => [.fsl (encL rI l)]) (fun l => l.length ≤ maxLen ∧ ∀ x ∈ l, I64 x) := opens_slice Try.underlying22 (of_decide_eq_true (by kernel_rfl)) (fun x y hy => by simp at hy; first | (subst hy; rfl) | (rcases hy with rfl <;> rfl)) op3
def gd24 (x : gMachine) : Prop := (fun l : List Int => l.length ≤ maxLen ∧ ∀ x ∈ l, I64 x) x.Regs ∧ I64 x.Pc ∧ (fun l : List Int => l.length ≤ maxLen ∧ ∀ x ∈ l, I64 x) x.Mem
theorem op24 : Opens Try.prog 24 gMachine rMachine gd24 := opens_struct Try.underlying24 (by kernel_rfl) (.cons (by kernel_rfl) op22 (.cons (by kernel_rfl) op3 (.cons (by kernel_rfl) op22 (.nil _)))) (fun x => ⟨x.1, x.2.1, x.2.2.1⟩) (fun _ => rfl) (fun x h => ⟨h.1, h.2.1, h.2.2.1⟩)
theorem op41 : Opens Try.prog 41 (List gMachine) (fun l => [.fsl (encL rMachine l)]) (fun l => l.length ≤ maxLen ∧ ∀ x ∈ l, gd24 x) := opens_slice Try.underlying41 (of_decide_eq_true (by kernel_rfl)) (fun x y hy => by simp at hy; first | (subst hy; rfl) | (rcases hy with rfl | rfl | rfl <;> rfl)) op24
def gd72 (x : gBox) : Prop := I64 x.Room ∧ (fun l : List Int => l.length ≤ maxLen ∧ ∀ x ∈ l, I64 x) x.Items
theorem op72 : Opens Try.prog 72 gBox rBox gd72 := opens_struct Try.underlying72 (by kernel_rfl) (.cons (by kernel_rfl) op3 (.cons (by kernel_rfl) op22 (.nil _))) (fun x => ⟨x.1, x.2.1⟩) (fun _ => rfl) (fun x h => ⟨h.1, h.2.1⟩)
theorem op25 : Opens Try.prog 25 (List gBox) (fun l => [.fsl (encL rBox l)]) (fun l => l.length ≤ maxLen ∧ ∀ x ∈ l, gd72 x) := opens_slice Try.underlying25 (of_decide_eq_true (by kernel_rfl)) (fun x y hy => by simp at hy; first | (subst hy; rfl) | (rcases hy with rfl | rfl <;> rfl)) op72
def gd43 (x : gSquad) : Prop := (fun l : List gMachine => l.length ≤ maxLen ∧ ∀ x ∈ l, gd24 x) x.Harts ∧ (fun l : List gBox => l.length ≤ maxLen ∧ ∀ x ∈ l, gd72 x) x.Boxes ∧ I64 x.Turn ∧ I64 x.Idle ∧ (fun l : List Int => l.length ≤ maxLen ∧ ∀ x ∈ l, I64 x) x.Out
theorem op43 : Opens Try.prog 43 gSquad rSquad gd43 := opens_struct Try.underlying43 (by kernel_rfl) (.cons (by kernel_rfl) op41 (.cons (by kernel_rfl) op25 (.cons (by kernel_rfl) op3 (.cons (by kernel_rfl) op3 (.cons (by kernel_rfl) op22 (.nil _)))))) (fun x => ⟨x.1, x.2.1, x.2.2.1, x.2.2.2.1, x.2.2.2.2.1⟩) (fun _ => rfl) (fun x h => ⟨h.1, h.2.1, h.2.2.1, h.2.2.2.1, h.2.2.2.2.1⟩)
end Go.Proofs.Ytoklfbdcghgmlaa
