/- Words: both sides compute the same. -/
import Derived.Test.YtlcilhmkbmgkeaaDoorNWordsN
set_option linter.unusedSimpArgs false
set_option linter.unusedVariables false
set_option maxHeartbeats 4000000
namespace Go.Abs
open Go

theorem unsigned_eq (n : Int) : i_Unsigned n = s_Unsigned n := by
  unfold i_Unsigned s_Unsigned
  simp only [i_WordValid, s_WordValid, s_l6In, bind_id, if_and, bind_some']
  by_cases h : -2147483648 ≤ n ∧ n ≤ 2147483647
  · have e : (ige n (-2147483648) && ile n 2147483647) = true := by simp [ige, ile]; omega
    rw [e]
    simp only [bnot, Bool.not_true, Bool.false_eq_true, if_false]
    have e2 : iconv .i64 (iconv .u32 n) = n % 4294967296 := by
      unfold iconv; rw [IntKind.wrap_u32, wr64]; omega
    rw [e2]
    split
    · rename_i h0
      rw [ilt_iff] at h0
      rw [iadd_eq _ _ (by omega)]; congr 1; omega
    · rename_i h0
      rw [ilt_iff] at h0
      congr 1; omega
  · have e : (ige n (-2147483648) && ile n 2147483647) = false := by
      rw [Bool.eq_false_iff]; simp [ige, ile]; omega
    rw [e]; rfl
theorem signExtend_eq (u many : Int) : i_SignExtend u many = s_SignExtend u many := by
  unfold i_SignExtend s_SignExtend
  simp only [s_l6In, bind_id, if_and, if_or, bind_some']
  by_cases h : 1 ≤ many ∧ many ≤ 32
  · obtain ⟨m, rfl⟩ : ∃ m : Nat, many = m := ⟨many.toNat, by omega⟩
    have em : isub .i64 (m : Int) 1 = ((m - 1 : Nat) : Int) := by rw [isub_eq _ _ (by omega)]; omega
    rw [em, power_eq m (by omega), power_eq (m - 1) (by omega), shl1 m (by omega), shl1 (m - 1) (by omega)]
    simp only [bind_some', if_or]
    have pm : (0 : Int) < 2 ^ m := by exact_mod_cast Nat.pow_pos (n := m) (by decide : 0 < 2)
    have pm' : (2 : Int) ^ m ≤ 2 ^ 32 := by exact_mod_cast Nat.pow_le_pow_right (by decide) (by omega)
    have e : (ilt (m : Int) 1 || igt (m : Int) 32) = false := by rw [Bool.eq_false_iff]; simp [ilt, igt]; omega
    have e' : (ige (m : Int) 1 && ile (m : Int) 32) = true := by simp [ige, ile]; omega
    rw [e, e']
    have ec : ((false || ilt u 0) || ige u (2 ^ m)) = (bnot true || bnot (ige u 0 && ile u (isub .i64 (2 ^ m) 1))) := by
      rw [isub_eq _ _ (by omega)]
      rw [Bool.eq_iff_iff]; simp [ilt, ige, ile, bnot]; omega
    by_cases h0 : ilt u 0 = true
    · have e1 : bnot (ige u 0 && ile u (isub .i64 (2 ^ m) 1)) = true := by
        rw [ilt_iff] at h0; simp [bnot, ige]; omega
      simp [h0, e1, bnot]
      intro a; rw [ige_iff] at a; rw [ilt_iff] at h0; omega
    · have h0' : ilt u 0 = false := by simpa using h0
      rw [h0'] at ec ⊢
      simp only [Bool.or_self, Bool.false_eq_true, if_false, Bool.false_or] at ec ⊢
      rw [ec]
  · have e : (ilt many 1 || igt many 32) = true := by simp [ilt, igt]; omega
    have e' : (ige many 1 && ile many 32) = false := by rw [Bool.eq_false_iff]; simp [ige, ile]; omega
    rw [e, e']
    simp [bnot]

theorem bits_ok (u low many : Int) : ∃ v, s_Bits u low many = some v ∧ 0 ≤ v ∧ v < 4294967296 := by
  unfold s_Bits
  simp only [s_l6In, bind_id, if_and, if_or, bind_some']
  by_cases h : 0 ≤ u ∧ u < 4294967296 ∧ 0 ≤ low ∧ low ≤ 31 ∧ 1 ≤ many ∧ many ≤ 32 - low
  · obtain ⟨h1, h2, h3, h4, h5, h6⟩ := h
    have es : isub .i64 32 low = 32 - low := isub_eq _ _ (by omega)
    have e' : (bnot (ige u 0 && ile u 4294967295) || bnot (ige low 0 && ile low 31) || bnot (ige many 1 && ile many (32 - low))) = false := by
      rw [Bool.eq_false_iff]; simp [bnot, ige, ile]; omega
    rw [es, e']
    simp only [Bool.false_eq_true, if_false]
    obtain ⟨l, rfl⟩ : ∃ l : Nat, low = l := ⟨low.toNat, by omega⟩
    obtain ⟨m, rfl⟩ : ∃ m : Nat, many = m := ⟨many.toNat, by omega⟩
    rw [power_eq l (by omega), power_eq m (by omega)]
    have pl : (0 : Int) < 2 ^ l := by exact_mod_cast Nat.pow_pos (n := l) (by decide : 0 < 2)
    have pm : (0 : Int) < 2 ^ m := by exact_mod_cast Nat.pow_pos (n := m) (by decide : 0 < 2)
    have pm' : (2 : Int) ^ m ≤ 2 ^ 32 := by exact_mod_cast Nat.pow_le_pow_right (by decide) (by omega)
    simp only [bind_some']
    rw [quox_eq u _ h1 (by omega) pl]
    simp only [bind_some']
    have hv0 : 0 ≤ u / 2 ^ l := Int.ediv_nonneg h1 (by omega)
    rw [remx_eq _ _ hv0 pm]
    have h8 := Int.emod_lt_of_pos (u / 2 ^ l) pm
    exact ⟨_, rfl, Int.emod_nonneg _ (by omega), by omega⟩
  · have e' : (bnot (ige u 0 && ile u 4294967295) || bnot (ige low 0 && ile low 31) || bnot (ige many 1 && ile many (isub .i64 32 low))) = true := by
      by_cases hl : 0 ≤ low ∧ low ≤ 31
      · rw [isub_eq _ _ (by omega)]; simp [bnot, ige, ile]; omega
      · simp [bnot, ige, ile]; omega
    rw [e']; exact ⟨0, rfl, by omega, by omega⟩
theorem sx_ok (u many : Int) : ∃ v, s_SignExtend u many = some v ∧ -4294967296 ≤ v ∧ v < 4294967296 := by
  unfold s_SignExtend
  simp only [s_l6In, bind_id, if_and, if_or, bind_some']
  by_cases h : 1 ≤ many ∧ many ≤ 32
  · obtain ⟨m, rfl⟩ : ∃ m : Nat, many = m := ⟨many.toNat, by omega⟩
    have em : isub .i64 (m : Int) 1 = ((m - 1 : Nat) : Int) := by rw [isub_eq _ _ (by omega)]; omega
    rw [em, power_eq m (by omega), power_eq (m - 1) (by omega)]
    simp only [bind_some', if_or]
    have pm : (0 : Int) < 2 ^ m := by exact_mod_cast Nat.pow_pos (n := m) (by decide : 0 < 2)
    have pm' : (2 : Int) ^ m ≤ 2 ^ 32 := by exact_mod_cast Nat.pow_le_pow_right (by decide) (by omega)
    have e' : (ige (m : Int) 1 && ile (m : Int) 32) = true := by simp [ige, ile]; omega
    rw [e', isub_eq _ _ (by omega)]
    split
    · exact ⟨0, rfl, by omega, by omega⟩
    · rename_i hc
      have hu : 0 ≤ u ∧ u ≤ 2 ^ m - 1 := by
        rw [Bool.not_eq_true] at hc; simp [bnot, ige, ile] at hc; omega
      split
      · rw [isub_eq _ _ (by omega)]; exact ⟨_, rfl, by omega, by omega⟩
      · exact ⟨_, rfl, by omega, by omega⟩
  · have e' : (ige many 1 && ile many 32) = false := by rw [Bool.eq_false_iff]; simp [ige, ile]; omega
    rw [e']
    exact ⟨0, by simp [bnot], by omega, by omega⟩
end Go.Abs
