/- Plain data of the law's types as arguments. No conditions. -/
import Derived.Test.YtlcilhmkbmgkeaaGreatDoorNOpens
import Derived.Test.YtlcilhmkbmgkeaaGreatDoorNZH
import Derived.ProofKit
set_option maxRecDepth 20000
set_option linter.unusedSimpArgs false
namespace Go.Proofs.YtlcilhmkbmgkeaaGreatDoor
open Go Go.Abs

theorem op3 : Opens Tryz.prog 3 Int (fun n => [.int .i64 n]) I64 := opens_int Tryz.underlying3
theorem op24 : Opens Tryz.prog 24 (List Int) (fun l => [.fsl (encL rI l)]) (fun l => l.length ≤ maxLen ∧ ∀ x ∈ l, I64 x) := opens_slice Tryz.underlying24 (of_decide_eq_true (by kernel_rfl)) (fun x y hy => by simp at hy; first | (subst hy; rfl) | (rcases hy with rfl <;> rfl)) op3
def gd80 (x : gMachine) : Prop := (fun l : List Int => l.length ≤ maxLen ∧ ∀ x ∈ l, I64 x) x.Regs ∧ I64 x.Pc ∧ (fun l : List Int => l.length ≤ maxLen ∧ ∀ x ∈ l, I64 x) x.Mem
theorem op80 : Opens Tryz.prog 80 gMachine rMachine gd80 := opens_struct Tryz.underlying80 (by kernel_rfl) (.cons (by kernel_rfl) op24 (.cons (by kernel_rfl) op3 (.cons (by kernel_rfl) op24 (.nil _)))) (fun x => ⟨x.1, x.2.1, x.2.2.1⟩) (fun _ => rfl) (fun x h => ⟨h.1, h.2.1, h.2.2.1⟩)
theorem op22 : Opens Tryz.prog 22 (List gMachine) (fun l => [.fsl (encL rMachine l)]) (fun l => l.length ≤ maxLen ∧ ∀ x ∈ l, gd80 x) := opens_slice Tryz.underlying22 (of_decide_eq_true (by kernel_rfl)) (fun x y hy => by simp at hy; first | (subst hy; rfl) | (rcases hy with rfl | rfl | rfl <;> rfl)) op80
def gd83 (x : gBox) : Prop := I64 x.Room ∧ (fun l : List Int => l.length ≤ maxLen ∧ ∀ x ∈ l, I64 x) x.Items
theorem op83 : Opens Tryz.prog 83 gBox rBox gd83 := opens_struct Tryz.underlying83 (by kernel_rfl) (.cons (by kernel_rfl) op3 (.cons (by kernel_rfl) op24 (.nil _))) (fun x => ⟨x.1, x.2.1⟩) (fun _ => rfl) (fun x h => ⟨h.1, h.2.1⟩)
theorem op23 : Opens Tryz.prog 23 (List gBox) (fun l => [.fsl (encL rBox l)]) (fun l => l.length ≤ maxLen ∧ ∀ x ∈ l, gd83 x) := opens_slice Tryz.underlying23 (of_decide_eq_true (by kernel_rfl)) (fun x y hy => by simp at hy; first | (subst hy; rfl) | (rcases hy with rfl | rfl <;> rfl)) op83
def gd26 (x : gSquad) : Prop := (fun l : List gMachine => l.length ≤ maxLen ∧ ∀ x ∈ l, gd80 x) x.Harts ∧ (fun l : List gBox => l.length ≤ maxLen ∧ ∀ x ∈ l, gd83 x) x.Boxes ∧ I64 x.Turn ∧ I64 x.Idle ∧ (fun l : List Int => l.length ≤ maxLen ∧ ∀ x ∈ l, I64 x) x.Out
theorem op26 : Opens Tryz.prog 26 gSquad rSquad gd26 := opens_struct Tryz.underlying26 (by kernel_rfl) (.cons (by kernel_rfl) op22 (.cons (by kernel_rfl) op23 (.cons (by kernel_rfl) op3 (.cons (by kernel_rfl) op3 (.cons (by kernel_rfl) op24 (.nil _)))))) (fun x => ⟨x.1, x.2.1, x.2.2.1, x.2.2.2.1, x.2.2.2.2.1⟩) (fun _ => rfl) (fun x h => ⟨h.1, h.2.1, h.2.2.1, h.2.2.2.1, h.2.2.2.2.1⟩)
end Go.Proofs.YtlcilhmkbmgkeaaGreatDoor
