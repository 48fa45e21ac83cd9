/- Operators on words: they end. -/
import Derived.Test.YtlcilhmkbmgkeaaGreatDoorNWordsN
import Derived.Test.YtlcilhmkbmgkeaaGreatDoorNNum
set_option linter.unusedSimpArgs false
set_option linter.unusedVariables false
set_option maxHeartbeats 8000000
namespace Go.Abs
open Go

theorem bv_sx (a : Int) (h : -2147483648 ≤ a ∧ a ≤ 2147483647) : BitVec.ofInt 64 a = (BitVec.ofInt 32 a).signExtend 64 := by
 apply BitVec.eq_of_toInt_eq
 rw [BitVec.toInt_signExtend_of_le (by decide), BitVec.toInt_ofInt, BitVec.toInt_ofInt]
 simp only [Int.bmod]
 omega
theorem wrap_toInt (x : BitVec 64) : IntKind.i64.wrap (x.toNat : Int) = x.toInt := by
 have e : (x.toNat : Int) = x.toInt ∨ (x.toNat : Int) = x.toInt + 18446744073709551616 := by
  rw [BitVec.toInt_eq_toNat_cond]; split <;> omega
 have h1 := x.toInt_lt
 have h2 := x.le_toInt
 rcases e with e | e
 ·rw [e, wr64 _ (by omega)]
 ·rw [e]
  have : IntKind.i64.wrap (x.toInt + 18446744073709551616) = x.toInt := by
   rw [IntKind.wrap_i64]; omega
  exact this
theorem sx32 (y : BitVec 32) : IntKind.i64.wrap ((y.signExtend 64).toNat : Int) = y.toInt := by
 rw [wrap_toInt, BitVec.toInt_signExtend_of_le (by decide)]
theorem bw (y : BitVec 32) : -2147483648 ≤ y.toInt ∧ y.toInt ≤ 2147483647 := by
 have h1 := y.toInt_lt
 have h2 := y.le_toInt
 omega
theorem ixor_w (a b : Int) (ha : -2147483648 ≤ a ∧ a ≤ 2147483647) (hb : -2147483648 ≤ b ∧ b ≤ 2147483647) : ixor .i64 a b = (BitVec.ofInt 32 a ^^^ BitVec.ofInt 32 b).toInt := by
 unfold ixor
 show IntKind.i64.wrap ((BitVec.ofInt 64 a ^^^ BitVec.ofInt 64 b).toNat : Int) = _
 rw [bv_sx a ha, bv_sx b hb, ← BitVec.signExtend_xor, sx32]
theorem ior_w (a b : Int) (ha : -2147483648 ≤ a ∧ a ≤ 2147483647) (hb : -2147483648 ≤ b ∧ b ≤ 2147483647) : ior .i64 a b = (BitVec.ofInt 32 a ||| BitVec.ofInt 32 b).toInt := by
 unfold ior
 show IntKind.i64.wrap ((BitVec.ofInt 64 a ||| BitVec.ofInt 64 b).toNat : Int) = _
 rw [bv_sx a ha, bv_sx b hb, ← BitVec.signExtend_or, sx32]
theorem iand_w (a b : Int) (ha : -2147483648 ≤ a ∧ a ≤ 2147483647) (hb : -2147483648 ≤ b ∧ b ≤ 2147483647) : iand .i64 a b = (BitVec.ofInt 32 a &&& BitVec.ofInt 32 b).toInt := by
 unfold iand
 show IntKind.i64.wrap ((BitVec.ofInt 64 a &&& BitVec.ofInt 64 b).toNat : Int) = _
 rw [bv_sx a ha, bv_sx b hb, ← BitVec.signExtend_and, sx32]
theorem and31 (b : Int) (hb : -2147483648 ≤ b ∧ b ≤ 2147483647) : 0 ≤ iand .i64 b 31 ∧ iand .i64 b 31 ≤ 31 := by
 unfold iand
 show 0 ≤ IntKind.i64.wrap ((BitVec.ofInt 64 b &&& BitVec.ofInt 64 31).toNat : Int) ∧ IntKind.i64.wrap ((BitVec.ofInt 64 b &&& BitVec.ofInt 64 31).toNat : Int) ≤ 31
 have : (BitVec.ofInt 64 b &&& BitVec.ofInt 64 31).toNat ≤ 31 := by
  rw [BitVec.toNat_and]
  exact Nat.and_le_right
 rw [wr64 _ (by omega)]
 omega
end Go.Abs
