/- Operators on words: they end. -/
import Derived.Test.YtlcilhmkbmgkeaaDoorNWordsC
import Derived.Test.YtlcilhmkbmgkeaaDoorNPlIC
set_option linter.unusedSimpArgs false
set_option linter.unusedVariables false
set_option maxHeartbeats 8000000
namespace Go.Abs
open Go

theorem bv_sx (a : Int) (h : -2147483648 ≤ a ∧ a ≤ 2147483647) : BitVec.ofInt 64 a = (BitVec.ofInt 32 a).signExtend 64 := by
  apply BitVec.eq_of_toInt_eq
  rw [BitVec.toInt_signExtend_of_le (by decide), BitVec.toInt_ofInt, BitVec.toInt_ofInt]
  simp only [Int.bmod]
  omega
theorem wrap_toInt (x : BitVec 64) : IntKind.i64.wrap (x.toNat : Int) = x.toInt := by
  have e : (x.toNat : Int) = x.toInt ∨ (x.toNat : Int) = x.toInt + 18446744073709551616 := by
    rw [BitVec.toInt_eq_toNat_cond]; split <;> omega
  have h1 := x.toInt_lt
  have h2 := x.le_toInt
  rcases e with e | e
  · rw [e, wr64 _ (by omega)]
  · rw [e]
    have : IntKind.i64.wrap (x.toInt + 18446744073709551616) = x.toInt := by
      rw [IntKind.wrap_i64]; omega
    exact this
theorem sx32 (y : BitVec 32) : IntKind.i64.wrap ((y.signExtend 64).toNat : Int) = y.toInt := by
  rw [wrap_toInt, BitVec.toInt_signExtend_of_le (by decide)]
theorem bw (y : BitVec 32) : -2147483648 ≤ y.toInt ∧ y.toInt ≤ 2147483647 := by
  have h1 := y.toInt_lt
  have h2 := y.le_toInt
  omega
theorem ixor_w (a b : Int) (ha : -2147483648 ≤ a ∧ a ≤ 2147483647) (hb : -2147483648 ≤ b ∧ b ≤ 2147483647) : ixor .i64 a b = (BitVec.ofInt 32 a ^^^ BitVec.ofInt 32 b).toInt := by
  unfold ixor
  show IntKind.i64.wrap ((BitVec.ofInt 64 a ^^^ BitVec.ofInt 64 b).toNat : Int) = _
  rw [bv_sx a ha, bv_sx b hb, ← BitVec.signExtend_xor, sx32]
theorem ixor_zero (a b : Int) (ha : -2147483648 ≤ a ∧ a ≤ 2147483647) (hb : -2147483648 ≤ b ∧ b ≤ 2147483647) : ixor .i64 a b = 0 ↔ a = b := by
  rw [ixor_w a b ha hb]
  constructor
  · intro h
    have h1 : BitVec.ofInt 32 a ^^^ BitVec.ofInt 32 b = 0#32 := BitVec.eq_of_toInt_eq (by rw [h]; rfl)
    have h2 : BitVec.ofInt 32 a = BitVec.ofInt 32 b := by
      have := congrArg (· ^^^ BitVec.ofInt 32 b) h1
      simp only [BitVec.xor_assoc, BitVec.xor_self, BitVec.xor_zero, BitVec.zero_xor] at this
      exact this
    have h3 := congrArg BitVec.toInt h2
    rw [BitVec.toInt_ofInt, BitVec.toInt_ofInt] at h3
    simp only [Int.bmod] at h3
    omega
  · rintro rfl
    rw [BitVec.xor_self]; rfl
theorem and31 (b : Int) (hb : -2147483648 ≤ b ∧ b ≤ 2147483647) : 0 ≤ iand .i64 b 31 ∧ iand .i64 b 31 ≤ 31 := by
  unfold iand
  show 0 ≤ IntKind.i64.wrap ((BitVec.ofInt 64 b &&& BitVec.ofInt 64 31).toNat : Int) ∧ IntKind.i64.wrap ((BitVec.ofInt 64 b &&& BitVec.ofInt 64 31).toNat : Int) ≤ 31
  have : (BitVec.ofInt 64 b &&& BitVec.ofInt 64 31).toNat ≤ 31 := by
    rw [BitVec.toNat_and]
    exact Nat.and_le_right
  rw [wr64 _ (by omega)]
  omega
theorem wrapI (n : Int) : i_Wrap n = some (iconv .i64 (iconv .i32 n)) := rfl
theorem truth_val (b : Bool) : i_truth b = some (if b = true then 1 else 0) := by
  unfold i_truth; split <;> rfl

theorem apply_ok (n a b : Int) (hb : -2147483648 ≤ b ∧ b ≤ 2147483647) : ∃ r, i_apply n a b = some r := by
  obtain ⟨s0, s1⟩ := and31 b hb
  have e1 : ∃ v, shlx .i64 a (iand .i64 b 31) = some v := by unfold shlx; rw [if_neg (by omega)]; exact ⟨_, rfl⟩
  have e2 : ∃ v, shrx .i64 a (iand .i64 b 31) = some v := by unfold shrx; rw [if_neg (by omega)]; exact ⟨_, rfl⟩
  obtain ⟨v1, e1⟩ := e1
  obtain ⟨v2, e2⟩ := e2
  unfold i_apply
  simp only [e1, e2, truth_val, wrapI, bind_some']
  by_cases h : b = 0
  · have z : ieq b 0 = true := by rw [ieq_iff]; exact h
    simp only [z, if_true, ite_self]
    repeat' split
    all_goals exact ⟨_, rfl⟩
  · have z : ieq b 0 = false := by rw [Bool.eq_false_iff, ne_eq, ieq_iff]; exact h
    have e3 : ∃ v, quox .i64 a b = some v := by unfold quox; rw [if_neg h]; exact ⟨_, rfl⟩
    have e4 : ∃ v, remx a b = some v := by unfold remx; rw [if_neg h]; exact ⟨_, rfl⟩
    obtain ⟨v3, e3⟩ := e3
    obtain ⟨v4, e4⟩ := e4
    simp only [z, Bool.false_eq_true, if_false, e3, e4, bind_some']
    repeat' split
    all_goals exact ⟨_, rfl⟩
end Go.Abs
