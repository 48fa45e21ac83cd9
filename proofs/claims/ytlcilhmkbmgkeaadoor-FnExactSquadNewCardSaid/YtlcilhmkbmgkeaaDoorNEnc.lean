/- An instruction as a word: both ways of encoding give the same. -/
import Derived.Test.YtlcilhmkbmgkeaaDoorNWordsN
set_option linter.unusedSimpArgs false
set_option linter.unusedVariables false
set_option maxHeartbeats 4000000
namespace Go.Abs
open Go

theorem in6 (x a b : Int) : s_l6In x a b = some (ige x a && ile x b) := by
  unfold s_l6In; rw [if_and, bind_some']
theorem mreg (x : Int) : i_isMachineReg x = some (ige x 0 && ilt x 32) := by
  unfold i_isMachineReg; rw [if_and, bind_some']
theorem rem2 (x : Int) : remx x 2 = some (x.tmod 2) := rfl
theorem regs42 (p : gInstr) (a b c : Int) : s_l42Regs p a b c = some (((ige p.Rd 0 && ile p.Rd (imul .i64 a 31)) && (ige p.Rs 0 && ile p.Rs (imul .i64 b 31))) && (ige p.Rt 0 && ile p.Rt (imul .i64 c 31))) := by
  unfold s_l42Regs; simp only [in6, bind_some', if_and]
theorem even42 (x a b : Int) : s_l42Even x a b = some ((ige x a && ile x b) && ieq (x.tmod 2) 0) := by
  unfold s_l42Even; simp only [in6, bind_some', if_and, rem2]
theorem i31 : imul .i64 1 31 = 31 := rfl
theorem i0 : imul .i64 0 31 = 0 := rfl

/-- an instruction that may be encoded -/
def VP (p : gInstr) : Prop :=
  (1 ≤ p.Op ∧ p.Op ≤ 11 ∧ (0 ≤ p.Rd ∧ p.Rd ≤ 31) ∧ (0 ≤ p.Rs ∧ p.Rs ≤ 31) ∧ (0 ≤ p.Rt ∧ p.Rt ≤ 31) ∧ p.Imm = 0) ∨
  (12 ≤ p.Op ∧ p.Op ≤ 15 ∧ (0 ≤ p.Rd ∧ p.Rd ≤ 31) ∧ (0 ≤ p.Rs ∧ p.Rs ≤ 31) ∧ p.Rt = 0 ∧ -2048 ≤ p.Imm ∧ p.Imm ≤ 2047) ∨
  (p.Op = 16 ∧ p.Rd = 0 ∧ (0 ≤ p.Rs ∧ p.Rs ≤ 31) ∧ (0 ≤ p.Rt ∧ p.Rt ≤ 31) ∧ -2048 ≤ p.Imm ∧ p.Imm ≤ 2047) ∨
  ((p.Op = 17 ∨ p.Op = 18) ∧ p.Rd = 0 ∧ (0 ≤ p.Rs ∧ p.Rs ≤ 31) ∧ (0 ≤ p.Rt ∧ p.Rt ≤ 31) ∧ -4096 ≤ p.Imm ∧ p.Imm ≤ 4094 ∧ p.Imm.tmod 2 = 0) ∨
  (p.Op = 19 ∧ (0 ≤ p.Rd ∧ p.Rd ≤ 31) ∧ p.Rs = 0 ∧ p.Rt = 0 ∧ 0 ≤ p.Imm ∧ p.Imm ≤ 1048575) ∨
  (p.Op = 20 ∧ (0 ≤ p.Rd ∧ p.Rd ≤ 31) ∧ p.Rs = 0 ∧ p.Rt = 0 ∧ -1048576 ≤ p.Imm ∧ p.Imm ≤ 1048574 ∧ p.Imm.tmod 2 = 0) ∨
  (p.Op = 21 ∧ p.Rd = 0 ∧ p.Rs = 0 ∧ p.Rt = 0 ∧ p.Imm = 0)

theorem bool_of {b : Bool} {P : Prop} [Decidable P] (h : b = true ↔ P) : some b = some (decide P) := by
  congr 1; rw [Bool.eq_iff_iff, h]; simp

instance (p : gInstr) : Decidable (VP p) := by unfold VP; infer_instance

theorem ite_some {c : Prop} [Decidable c] {α : Type} (a b : α) : (if c then some a else some b) = some (if c then a else b) := by split <;> rfl

theorem svalid (p : gInstr) : s_InstrValid p = some (decide (VP p)) := by
  unfold s_InstrValid
  simp only [in6, regs42, even42, bind_some', if_and, if_or, i31, i0]
  simp only [ite_some]
  refine bool_of ?_
  unfold VP
  generalize p.Imm.tmod 2 = e
  simp only [ige, ile, igt, ilt, ieq]
  obtain ⟨op, rd, rs, rt, imm⟩ := p
  dsimp only
  simp only [Bool.and_eq_true, Bool.or_eq_true, decide_eq_true_eq, beq_iff_eq, ge_iff_le]
  by_cases h0 : 1 ≤ op ∧ op ≤ 11
  · rw [if_pos h0]; simp; omega
  rw [if_neg h0]
  by_cases h1 : 12 ≤ op ∧ op ≤ 15
  · rw [if_pos h1]; simp; omega
  rw [if_neg h1]
  by_cases h2 : op = 16
  · rw [if_pos h2]; simp; omega
  rw [if_neg h2]
  by_cases h3 : op = 17 ∨ op = 18
  · rw [if_pos h3]; simp; omega
  rw [if_neg h3]
  by_cases h4 : op = 19
  · rw [if_pos h4]; simp; omega
  rw [if_neg h4]
  by_cases h5 : op = 20
  · rw [if_pos h5]; simp; omega
  rw [if_neg h5]
  simp; omega

theorem fmt (op : Int) : i_formatOf op = some (if 1 ≤ op ∧ op ≤ 11 then 82 else if 12 ≤ op ∧ op ≤ 15 then 73 else if op = 16 then 83 else if op = 17 ∨ op = 18 then 66 else if op = 19 then 85 else if op = 20 then 74 else if op = 21 then 69 else 32) := by
  unfold i_formatOf
  simp only [bind_some', if_and, if_or]
  simp only [ite_some]
  simp only [ige, ile, ieq, Bool.and_eq_true, Bool.or_eq_true, decide_eq_true_eq, beq_iff_eq, ge_iff_le]

theorem ivalid (p : gInstr) : i_InstrValid p = some (decide (VP p)) := by
  unfold i_InstrValid
  simp only [mreg, fmt, rem2, bind_some', if_and, if_or]
  simp only [ite_some]
  refine bool_of ?_
  unfold VP
  generalize p.Imm.tmod 2 = e
  obtain ⟨op, rd, rs, rt, imm⟩ := p
  simp only [ige, ile, igt, ilt, ieq, eqD, gInstr.mk.injEq]
  by_cases h1 : 1 ≤ op ∧ op ≤ 11
  · rw [if_pos h1]; simp; omega
  rw [if_neg h1]
  by_cases h2 : 12 ≤ op ∧ op ≤ 15
  · rw [if_pos h2]; simp; omega
  rw [if_neg h2]
  by_cases h3 : op = 16
  · rw [if_pos h3]; simp; omega
  rw [if_neg h3]
  by_cases h4 : op = 17 ∨ op = 18
  · rw [if_pos h4]; simp; omega
  rw [if_neg h4]
  by_cases h5 : op = 19
  · rw [if_pos h5]; simp; omega
  rw [if_neg h5]
  by_cases h6 : op = 20
  · rw [if_pos h6]; simp; omega
  rw [if_neg h6]
  by_cases h7 : op = 21
  · rw [if_pos h7]; simp; omega
  rw [if_neg h7]
  simp; omega
end Go.Abs
