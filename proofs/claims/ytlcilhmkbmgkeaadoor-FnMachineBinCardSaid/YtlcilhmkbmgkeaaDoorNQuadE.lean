/- Both sides' instructions of a quad are the same. -/
import Derived.Test.YtlcilhmkbmgkeaaDoorNWordsC
set_option linter.unusedSimpArgs false
set_option linter.unusedVariables false
set_option maxHeartbeats 4000000
namespace Go.Abs
open Go


theorem quadValid_eq (q : gQuad) (n : Int) : i_QuadValid q n = s_QuadValid q n := by
  obtain ⟨op, d, a, b, m⟩ := q
  unfold i_QuadValid s_QuadValid
  simp only [i_isReg, i_WordValid, i_OpValid, s_l21Regs, s_l21Reg, s_WordValid, s_OpValid, s_l6In, if_true, Bool.false_eq_true, if_false, bind_id, if_and, if_or, bind_some']
  simp only [ieq, eqD, gQuad.mk.injEq, ige, ile, ilt]
  by_cases h1 : op = 1
  · subst h1; simp; rw [Bool.eq_iff_iff]; simp; omega
  by_cases h2 : op = 2
  · subst h2; simp; rw [Bool.eq_iff_iff]; simp; omega
  by_cases h3 : op = 3
  · subst h3; simp; rw [Bool.eq_iff_iff]; simp; omega
  by_cases h4 : op = 4
  · subst h4; simp; rw [Bool.eq_iff_iff]; simp; omega
  by_cases h5 : op = 5
  · subst h5; simp; rw [Bool.eq_iff_iff]; simp; omega
  by_cases h6 : op = 6
  · subst h6; simp; rw [Bool.eq_iff_iff]; simp; omega
  by_cases h7 : op = 7
  · subst h7; simp; rw [Bool.eq_iff_iff]; simp; omega
  by_cases h9 : op = 9
  · subst h9; simp; rw [Bool.eq_iff_iff]; simp; omega
  by_cases h8 : op = 8
  · subst h8; simp; rw [Bool.eq_iff_iff]; simp; omega
  by_cases h10 : op = 10
  · subst h10; simp; rw [Bool.eq_iff_iff]; simp; omega
  have e10 : (op == 10) = false := by simpa using h10
  simp [h1, h2, h3, h4, h5, h6, h7, h8, h9, h10, e10]

theorem quadValid_ok (q : gQuad) (n : Int) : ∃ v, s_QuadValid q n = some v ∧ (v = true → 1 ≤ q.Op ∧ q.Op ≤ 10 ∧ 0 ≤ q.Dst ∧ q.Dst ≤ 11 ∧ 0 ≤ q.A ∧ q.A ≤ 11 ∧ 0 ≤ q.B ∧ q.B ≤ 11 ∧ (q.Op = 3 → 1 ≤ q.N ∧ q.N ≤ 12) ∧ (q.Op = 1 → -2147483648 ≤ q.N ∧ q.N ≤ 2147483647)) := by
  obtain ⟨op, d, a, b, m⟩ := q
  unfold s_QuadValid
  simp only [s_l21Regs, s_l21Reg, s_WordValid, s_OpValid, s_l6In, if_true, Bool.false_eq_true, if_false, bind_id, if_and, if_or, bind_some']
  simp only [ieq, ige, ile, ilt]
  by_cases h1 : op = 1
  · subst h1; simp; omega
  by_cases h2 : op = 2
  · subst h2; simp; omega
  by_cases h3 : op = 3
  · subst h3; simp; omega
  by_cases h4 : op = 4
  · subst h4; simp; omega
  by_cases h5 : op = 5
  · subst h5; simp; omega
  by_cases h6 : op = 6
  · subst h6; simp; omega
  by_cases h7 : op = 7
  · subst h7; simp; omega
  by_cases h9 : op = 9
  · subst h9; simp; omega
  by_cases h8 : op = 8
  · subst h8; simp; omega
  by_cases h10 : op = 10
  · subst h10; simp; omega
  simp [h1, h2, h3, h4, h5, h6, h7, h8, h9, h10]
end Go.Abs
