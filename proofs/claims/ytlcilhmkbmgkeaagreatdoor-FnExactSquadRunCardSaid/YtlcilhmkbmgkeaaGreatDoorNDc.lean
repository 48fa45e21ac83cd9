/- An instruction as a word, and back: the decoder finds the instruction that was encoded, and no other. -/
import Derived.Test.YtlcilhmkbmgkeaaGreatDoorNEncZ
import Derived.Test.YtlcilhmkbmgkeaaGreatDoorNWordsN
set_option linter.unusedSimpArgs false
set_option linter.unusedVariables false
set_option maxHeartbeats 8000000
set_option maxRecDepth 20000
namespace Go.Abs
open Go

theorem sxK (u : Int) (m : Nat) (b h : Int) (hb : (2 : Int) ^ m = b) (hh : (2 : Int) ^ (m - 1) = h) (hm : 1 ≤ m ∧ m ≤ 32) (hb2 : b ≤ 4294967296) (hu : 0 ≤ u ∧ u < b) : i_SignExtend u (m : Int) = some (if u ≥ h then u - b else u) := by
 rw [signExtend_eq]
 have e1 : isub .i64 b 1 = b - 1 := isub_eq _ _ (by omega)
 have e2 : isub .i64 (m : Int) 1 = ((m - 1 : Nat) : Int) := by rw [isub_eq _ _ (by omega)]; omega
 unfold s_SignExtend
 simp only [in6, bind_some', power_eq m (by omega), hb, e1, e2, power_eq (m - 1) (by omega), hh]
 have g1 : (ige (m : Int) 1 && ile (m : Int) 32) = true := by simp [ige, ile]; omega
 have g2 : (ige u 0 && ile u (b - 1)) = true := by simp [ige, ile]; omega
 rw [g1]
 simp only [tt, Bool.false_eq_true, if_false, bind_some', g2]
 by_cases hx : u ≥ h
 ·rw [if_pos (by rw [ige_iff]; exact hx), if_pos hx, isub_eq _ _ (by omega)]
 ·rw [if_neg (by rw [ige_iff]; exact hx), if_neg hx]

theorem and127 (e : Int) (h : 0 ≤ e ∧ e < 4294967296) : iand .i64 e 127 = e % 128 := by
 rw [iand_eq e 127 h.1 (by omega) (by decide) (by decide)]
 obtain ⟨n, rfl⟩ := Int.eq_ofNat_of_zero_le h.1
 show (((n : Int).toNat &&& 127 : Nat) : Int) = (n : Int) % 128
 rw [Int.toNat_natCast, show (127 : Nat) = 2 ^ 7 - 1 from rfl, Nat.and_two_pow_sub_one_eq_mod]
 omega

theorem isUns (e : Int) (h : 0 ≤ e ∧ e < 4294967296) : i_isUnsigned e = some true := by
 unfold i_isUnsigned
 rw [if_and, bind_some']
 congr 1; simp [ige, ilt]; omega

/-! the fields of a word -/
def fld (op u : Int) : gInstr :=
 if op ≤ 11 then ⟨op, u / 128 % 32, u / 32768 % 32, u / 1048576 % 32, 0⟩
 else if op ≤ 15 then ⟨op, u / 128 % 32, u / 32768 % 32, 0, if u / 1048576 % 4096 ≥ 2048 then u / 1048576 % 4096 - 4096 else u / 1048576 % 4096⟩
 else if op = 16 then ⟨op, 0, u / 32768 % 32, u / 1048576 % 32, if u / 33554432 % 128 * 32 + u / 128 % 32 ≥ 2048 then u / 33554432 % 128 * 32 + u / 128 % 32 - 4096 else u / 33554432 % 128 * 32 + u / 128 % 32⟩
 else if op ≤ 18 then ⟨op, 0, u / 32768 % 32, u / 1048576 % 32, if u / 2147483648 % 2 * 4096 + u / 128 % 2 * 2048 + u / 33554432 % 64 * 32 + u / 256 % 16 * 2 ≥ 4096 then u / 2147483648 % 2 * 4096 + u / 128 % 2 * 2048 + u / 33554432 % 64 * 32 + u / 256 % 16 * 2 - 8192 else u / 2147483648 % 2 * 4096 + u / 128 % 2 * 2048 + u / 33554432 % 64 * 32 + u / 256 % 16 * 2⟩
 else if op = 19 then ⟨op, u / 128 % 32, 0, 0, u / 4096 % 1048576⟩
 else if op = 20 then ⟨op, u / 128 % 32, 0, 0, if u / 2147483648 % 2 * 1048576 + u / 4096 % 256 * 4096 + u / 1048576 % 2 * 2048 + u / 2097152 % 1024 * 2 ≥ 1048576 then u / 2147483648 % 2 * 1048576 + u / 4096 % 256 * 4096 + u / 1048576 % 2 * 2048 + u / 2097152 % 1024 * 2 - 2097152 else u / 2147483648 % 2 * 1048576 + u / 4096 % 256 * 4096 + u / 1048576 % 2 * 2048 + u / 2097152 % 1024 * 2⟩
 else ⟨op, 0, 0, 0, 0⟩

theorem tmod2 {x : Int} (h : x % 2 = 0) : x.tmod 2 = 0 := Int.tmod_eq_zero_of_dvd (Int.dvd_of_emod_eq_zero h)
theorem of_tmod2 {x : Int} (h : x.tmod 2 = 0) : x % 2 = 0 := Int.emod_eq_zero_of_dvd (Int.dvd_of_tmod_eq_zero h)

theorem VP_fld (op u : Int) (h : 1 ≤ op ∧ op ≤ 21) : VP (fld op u) := by
 unfold fld
 split
 ·left; exact ⟨by dsimp only; omega, by dsimp only; omega, by dsimp only; omega, by dsimp only; omega, by dsimp only; omega, rfl⟩
 split
 ·right; left; refine ⟨by dsimp only; omega, by dsimp only; omega, by dsimp only; omega, by dsimp only; omega, rfl, ?_, ?_⟩ <;> dsimp only <;> split <;> omega
 split
 ·right; right; left; refine ⟨by dsimp only; omega, rfl, by dsimp only; omega, by dsimp only; omega, ?_, ?_⟩ <;> dsimp only <;> split <;> omega
 split
 ·right; right; right; left; refine ⟨by dsimp only; omega, rfl, by dsimp only; omega, by dsimp only; omega, ?_, ?_, tmod2 ?_⟩ <;> dsimp only <;> split <;> omega
 split
 ·right; right; right; right; left; exact ⟨by dsimp only; omega, by dsimp only; omega, rfl, rfl, by dsimp only; omega, by dsimp only; omega⟩
 split
 ·right; right; right; right; right; left; refine ⟨by dsimp only; omega, by dsimp only; omega, rfl, rfl, ?_, ?_, tmod2 ?_⟩ <;> dsimp only <;> split <;> omega
 ·right; right; right; right; right; right; exact ⟨by dsimp only; omega, rfl, rfl, rfl, rfl⟩

theorem decodeAs_val (op u : Int) (h : 1 ≤ op ∧ op ≤ 21) (hu : 0 ≤ u ∧ u < 4294967296) : i_decodeAs op u = some (fld op u) := by
 have bK : ∀ (l m : Nat) (a b : Int), (2 : Int) ^ l = a → (2 : Int) ^ m = b → l ≤ 31 ∧ 1 ≤ m ∧ m + l ≤ 32 → i_Bits u (l : Int) (m : Int) = some (u / a % b) := by
  intro l m a b ha hb' hl
  rw [bits_eq, bitsK u l m a b ha hb' hu hl]
 have qd : i_Bits u 7 5 = some (u / 128 % 32) := bK 7 5 128 32 (by decide) (by decide) (by decide)
 have qs : i_Bits u 15 5 = some (u / 32768 % 32) := bK 15 5 32768 32 (by decide) (by decide) (by decide)
 have qt : i_Bits u 20 5 = some (u / 1048576 % 32) := bK 20 5 1048576 32 (by decide) (by decide) (by decide)
 unfold i_decodeAs fld
 rw [qd, bind_some', qs, bind_some', qt, bind_some']
 by_cases h1 : op ≤ 11
 ·have hf : i_formatOf op = some 82 := by rw [fmt]; exact congrArg some (if_pos (show 1 ≤ op ∧ op ≤ 11 by omega))
  rw [hf, if_pos h1]; rfl
 rw [if_neg h1]
 by_cases h2 : op ≤ 15
 ·have hf : i_formatOf op = some 73 := by rw [fmt]; exact congrArg some ((if_neg (show ¬ (1 ≤ op ∧ op ≤ 11) by omega)).trans (if_pos (show 12 ≤ op ∧ op ≤ 15 by omega)))
  rw [hf, if_pos h2]
  have qi : i_Bits u 20 12 = some (u / 1048576 % 4096) := bK 20 12 1048576 4096 (by decide) (by decide) (by decide)
  have sx : i_SignExtend (u / 1048576 % 4096) 12 = some (if u / 1048576 % 4096 ≥ 2048 then u / 1048576 % 4096 - 4096 else u / 1048576 % 4096) := sxK _ 12 4096 2048 (by decide) (by decide) (by decide) (by decide) (by omega)
  simp -implicitDefEqProofs only [bind_some', qi, sx, ieq, Int.reduceBEq, if_true, Bool.false_eq_true, if_false]
 rw [if_neg h2]
 by_cases h3 : op = 16
 ·have hf : i_formatOf op = some 83 := by rw [fmt]; exact congrArg some ((if_neg (show ¬ (1 ≤ op ∧ op ≤ 11) by omega)).trans ((if_neg (show ¬ (12 ≤ op ∧ op ≤ 15) by omega)).trans (if_pos (show op = 16 by omega))))
  rw [hf, if_pos h3]
  have q1 : i_Bits u 25 7 = some (u / 33554432 % 128) := bK 25 7 33554432 128 (by decide) (by decide) (by decide)
  have s1 : shlx .i64 (u / 33554432 % 128) 5 = some (u / 33554432 % 128 * 32) := shlK 5 32 (by decide) (by decide) (by omega)
  have w1 : Wn 4064 (u / 33554432 % 128 * 32) := fieldW _ 7 5 128 32 _ (by decide) (by decide) (by decide) (by omega)
  have w2 : Wn 31 (u / 128 % 32 * 1) := fieldW _ 5 0 32 1 _ (by decide) (by decide) (by decide) (by omega)
  obtain ⟨e1, _⟩ := iorW w1 w2 (by decide) (by decide)
  rw [Int.mul_one] at e1
  have sx : i_SignExtend (u / 33554432 % 128 * 32 + u / 128 % 32) 12 = some (if u / 33554432 % 128 * 32 + u / 128 % 32 ≥ 2048 then u / 33554432 % 128 * 32 + u / 128 % 32 - 4096 else u / 33554432 % 128 * 32 + u / 128 % 32) := sxK _ 12 4096 2048 (by decide) (by decide) (by decide) (by decide) (by omega)
  simp -implicitDefEqProofs only [bind_some', q1, s1, e1, sx, ieq, Int.reduceBEq, if_true, Bool.false_eq_true, if_false]
 rw [if_neg h3]
 by_cases h4 : op ≤ 18
 ·have hf : i_formatOf op = some 66 := by rw [fmt]; exact congrArg some ((if_neg (show ¬ (1 ≤ op ∧ op ≤ 11) by omega)).trans ((if_neg (show ¬ (12 ≤ op ∧ op ≤ 15) by omega)).trans ((if_neg (show ¬ (op = 16) by omega)).trans (if_pos (show op = 17 ∨ op = 18 by omega)))))
  rw [hf, if_pos h4]
  have q1 : i_Bits u 31 1 = some (u / 2147483648 % 2) := bK 31 1 2147483648 2 (by decide) (by decide) (by decide)
  have q2 : i_Bits u 7 1 = some (u / 128 % 2) := bK 7 1 128 2 (by decide) (by decide) (by decide)
  have q3 : i_Bits u 25 6 = some (u / 33554432 % 64) := bK 25 6 33554432 64 (by decide) (by decide) (by decide)
  have q4 : i_Bits u 8 4 = some (u / 256 % 16) := bK 8 4 256 16 (by decide) (by decide) (by decide)
  have s1 : shlx .i64 (u / 2147483648 % 2) 12 = some (u / 2147483648 % 2 * 4096) := shlK 12 4096 (by decide) (by decide) (by omega)
  have s2 : shlx .i64 (u / 128 % 2) 11 = some (u / 128 % 2 * 2048) := shlK 11 2048 (by decide) (by decide) (by omega)
  have s3 : shlx .i64 (u / 33554432 % 64) 5 = some (u / 33554432 % 64 * 32) := shlK 5 32 (by decide) (by decide) (by omega)
  have s4 : shlx .i64 (u / 256 % 16) 1 = some (u / 256 % 16 * 2) := shlK 1 2 (by decide) (by decide) (by omega)
  have w1 : Wn 4096 (u / 2147483648 % 2 * 4096) := fieldW _ 1 12 2 4096 _ (by decide) (by decide) (by decide) (by omega)
  have w2 : Wn 2048 (u / 128 % 2 * 2048) := fieldW _ 1 11 2 2048 _ (by decide) (by decide) (by decide) (by omega)
  have w3 : Wn 2016 (u / 33554432 % 64 * 32) := fieldW _ 6 5 64 32 _ (by decide) (by decide) (by decide) (by omega)
  have w4 : Wn 30 (u / 256 % 16 * 2) := fieldW _ 4 1 16 2 _ (by decide) (by decide) (by decide) (by omega)
  obtain ⟨e1, v1⟩ := iorW w1 w2 (by decide) (by decide)
  obtain ⟨e2, v2⟩ := iorW v1 w3 (by decide) (by decide)
  obtain ⟨e3, v3⟩ := iorW v2 w4 (by decide) (by decide)
  have sx : i_SignExtend (u / 2147483648 % 2 * 4096 + u / 128 % 2 * 2048 + u / 33554432 % 64 * 32 + u / 256 % 16 * 2) 13 = some (if u / 2147483648 % 2 * 4096 + u / 128 % 2 * 2048 + u / 33554432 % 64 * 32 + u / 256 % 16 * 2 ≥ 4096 then u / 2147483648 % 2 * 4096 + u / 128 % 2 * 2048 + u / 33554432 % 64 * 32 + u / 256 % 16 * 2 - 8192 else u / 2147483648 % 2 * 4096 + u / 128 % 2 * 2048 + u / 33554432 % 64 * 32 + u / 256 % 16 * 2) := sxK _ 13 8192 4096 (by decide) (by decide) (by decide) (by decide) (by omega)
  simp -implicitDefEqProofs only [bind_some', q1, q2, q3, q4, s1, s2, s3, s4, e1, e2, e3, sx, ieq, Int.reduceBEq, if_true, Bool.false_eq_true, if_false]
 rw [if_neg h4]
 by_cases h5 : op = 19
 ·have hf : i_formatOf op = some 85 := by rw [fmt]; exact congrArg some ((if_neg (show ¬ (1 ≤ op ∧ op ≤ 11) by omega)).trans ((if_neg (show ¬ (12 ≤ op ∧ op ≤ 15) by omega)).trans ((if_neg (show ¬ (op = 16) by omega)).trans ((if_neg (show ¬ (op = 17 ∨ op = 18) by omega)).trans (if_pos (show op = 19 by omega))))))
  rw [hf, if_pos h5]
  have qi : i_Bits u 12 20 = some (u / 4096 % 1048576) := bK 12 20 4096 1048576 (by decide) (by decide) (by decide)
  simp -implicitDefEqProofs only [bind_some', qi, ieq, Int.reduceBEq, if_true, Bool.false_eq_true, if_false]
 rw [if_neg h5]
 by_cases h6 : op = 20
 ·have hf : i_formatOf op = some 74 := by rw [fmt]; exact congrArg some ((if_neg (show ¬ (1 ≤ op ∧ op ≤ 11) by omega)).trans ((if_neg (show ¬ (12 ≤ op ∧ op ≤ 15) by omega)).trans ((if_neg (show ¬ (op = 16) by omega)).trans ((if_neg (show ¬ (op = 17 ∨ op = 18) by omega)).trans ((if_neg (show ¬ (op = 19) by omega)).trans (if_pos (show op = 20 by omega)))))))
  rw [hf, if_pos h6]
  have q1 : i_Bits u 31 1 = some (u / 2147483648 % 2) := bK 31 1 2147483648 2 (by decide) (by decide) (by decide)
  have q2 : i_Bits u 12 8 = some (u / 4096 % 256) := bK 12 8 4096 256 (by decide) (by decide) (by decide)
  have q3 : i_Bits u 20 1 = some (u / 1048576 % 2) := bK 20 1 1048576 2 (by decide) (by decide) (by decide)
  have q4 : i_Bits u 21 10 = some (u / 2097152 % 1024) := bK 21 10 2097152 1024 (by decide) (by decide) (by decide)
  have s1 : shlx .i64 (u / 2147483648 % 2) 20 = some (u / 2147483648 % 2 * 1048576) := shlK 20 1048576 (by decide) (by decide) (by omega)
  have s2 : shlx .i64 (u / 4096 % 256) 12 = some (u / 4096 % 256 * 4096) := shlK 12 4096 (by decide) (by decide) (by omega)
  have s3 : shlx .i64 (u / 1048576 % 2) 11 = some (u / 1048576 % 2 * 2048) := shlK 11 2048 (by decide) (by decide) (by omega)
  have s4 : shlx .i64 (u / 2097152 % 1024) 1 = some (u / 2097152 % 1024 * 2) := shlK 1 2 (by decide) (by decide) (by omega)
  have w1 : Wn 1048576 (u / 2147483648 % 2 * 1048576) := fieldW _ 1 20 2 1048576 _ (by decide) (by decide) (by decide) (by omega)
  have w2 : Wn 1044480 (u / 4096 % 256 * 4096) := fieldW _ 8 12 256 4096 _ (by decide) (by decide) (by decide) (by omega)
  have w3 : Wn 2048 (u / 1048576 % 2 * 2048) := fieldW _ 1 11 2 2048 _ (by decide) (by decide) (by decide) (by omega)
  have w4 : Wn 2046 (u / 2097152 % 1024 * 2) := fieldW _ 10 1 1024 2 _ (by decide) (by decide) (by decide) (by omega)
  obtain ⟨e1, v1⟩ := iorW w1 w2 (by decide) (by decide)
  obtain ⟨e2, v2⟩ := iorW v1 w3 (by decide) (by decide)
  obtain ⟨e3, v3⟩ := iorW v2 w4 (by decide) (by decide)
  have sx : i_SignExtend (u / 2147483648 % 2 * 1048576 + u / 4096 % 256 * 4096 + u / 1048576 % 2 * 2048 + u / 2097152 % 1024 * 2) 21 = some (if u / 2147483648 % 2 * 1048576 + u / 4096 % 256 * 4096 + u / 1048576 % 2 * 2048 + u / 2097152 % 1024 * 2 ≥ 1048576 then u / 2147483648 % 2 * 1048576 + u / 4096 % 256 * 4096 + u / 1048576 % 2 * 2048 + u / 2097152 % 1024 * 2 - 2097152 else u / 2147483648 % 2 * 1048576 + u / 4096 % 256 * 4096 + u / 1048576 % 2 * 2048 + u / 2097152 % 1024 * 2) := sxK _ 21 2097152 1048576 (by decide) (by decide) (by decide) (by decide) (by omega)
  simp -implicitDefEqProofs only [bind_some', q1, q2, q3, q4, s1, s2, s3, s4, e1, e2, e3, sx, ieq, Int.reduceBEq, if_true, Bool.false_eq_true, if_false]
 have hf : i_formatOf op = some 69 := by rw [fmt]; exact congrArg some ((if_neg (show ¬ (1 ≤ op ∧ op ≤ 11) by omega)).trans ((if_neg (show ¬ (12 ≤ op ∧ op ≤ 15) by omega)).trans ((if_neg (show ¬ (op = 16) by omega)).trans ((if_neg (show ¬ (op = 17 ∨ op = 18) by omega)).trans ((if_neg (show ¬ (op = 19) by omega)).trans ((if_neg (show ¬ (op = 20) by omega)).trans (if_pos (show op = 21 by omega))))))))
 rw [hf, if_neg h6]
 rfl

/-! the fixed fields of a word -/
def mt (op u : Int) : Prop := u % 128 = OPC op ∧ (op ≤ 18 → u / 4096 % 8 = T3 op) ∧ (op ≤ 11 → u / 33554432 % 128 = T7 op)
instance (op u : Int) : Decidable (mt op u) := by unfold mt; infer_instance

theorem ops21 {P : Int → Prop} (h : ∀ n : Fin 21, P ((n.val : Int) + 1)) (op : Int) (ho : 1 ≤ op ∧ op ≤ 21) : P op := by
 have := h ⟨(op - 1).toNat, by omega⟩
 have e : (((op - 1).toNat : Nat) : Int) + 1 = op := by omega
 dsimp only at this
 rw [e] at this
 exact this
theorem tab_row (op : Int) (h : 1 ≤ op ∧ op ≤ 21) : ∃ r : gInstrRow, idx instrTab (isub .i64 op 1) = some r ∧ r.opcode = OPC op ∧ r.funct3 = T3 op ∧ (op ≤ 11 → r.funct7 = T7 op) := by
 obtain rfl | rfl | rfl | rfl | rfl | rfl | rfl | rfl | rfl | rfl | rfl | rfl | rfl | rfl | rfl | rfl | rfl | rfl | rfl | rfl | rfl : op = 1 ∨ op = 2 ∨ op = 3 ∨ op = 4 ∨ op = 5 ∨ op = 6 ∨ op = 7 ∨ op = 8 ∨ op = 9 ∨ op = 10 ∨ op = 11 ∨ op = 12 ∨ op = 13 ∨ op = 14 ∨ op = 15 ∨ op = 16 ∨ op = 17 ∨ op = 18 ∨ op = 19 ∨ op = 20 ∨ op = 21 := by omega
 all_goals exact ⟨_, rfl, rfl, rfl, by decide⟩
theorem opc_cases (op : Int) (h : 1 ≤ op ∧ op ≤ 21) : (op ≤ 11 → OPC op = 51) ∧ (op = 12 ∨ op = 13 → OPC op = 19) ∧ (op = 14 → OPC op = 3) ∧ (op = 15 → OPC op = 103) ∧ (op = 16 → OPC op = 35) ∧ (op = 17 ∨ op = 18 → OPC op = 99) ∧ (op = 19 → OPC op = 55) ∧ (op = 20 → OPC op = 111) ∧ (op = 21 → OPC op = 115) ∧
  (0 ≤ T3 op ∧ T3 op < 8) ∧ (0 ≤ T7 op ∧ T7 op < 128) ∧ (op = 16 → T3 op = 2) :=
 ops21 (P := fun op => (op ≤ 11 → OPC op = 51) ∧ (op = 12 ∨ op = 13 → OPC op = 19) ∧ (op = 14 → OPC op = 3) ∧ (op = 15 → OPC op = 103) ∧ (op = 16 → OPC op = 35) ∧ (op = 17 ∨ op = 18 → OPC op = 99) ∧ (op = 19 → OPC op = 55) ∧ (op = 20 → OPC op = 111) ∧ (op = 21 → OPC op = 115) ∧
  (0 ≤ T3 op ∧ T3 op < 8) ∧ (0 ≤ T7 op ∧ T7 op < 128) ∧ (op = 16 → T3 op = 2)) (by decide) op h
theorem opc_inj (a b : Int) (ha : 1 ≤ a ∧ a ≤ 21) (hb : 1 ≤ b ∧ b ≤ 21) (h : OPC a = OPC b) (h3 : a ≤ 18 → T3 a = T3 b) (h7 : a ≤ 11 → T7 a = T7 b) : a = b := by
 revert h h3 h7
 exact ops21 (P := fun a => OPC a = OPC b → (a ≤ 18 → T3 a = T3 b) → (a ≤ 11 → T7 a = T7 b) → a = b) (fun n => ops21 (P := fun b => OPC ((n.val : Int) + 1) = OPC b → ((n.val : Int) + 1 ≤ 18 → T3 ((n.val : Int) + 1) = T3 b) → ((n.val : Int) + 1 ≤ 11 → T7 ((n.val : Int) + 1) = T7 b) → (n.val : Int) + 1 = b) (fun m => by revert n m; decide) b hb) a ha
theorem mt_uniq {a b u : Int} (ha : 1 ≤ a ∧ a ≤ 21) (hb : 1 ≤ b ∧ b ≤ 21) (h : mt a u) (h' : mt b u) : a = b := by
 obtain ⟨h1, h2, h3⟩ := h
 obtain ⟨k1, k2, k3⟩ := h'
 have o := h1.symm.trans k1
 have ca := opc_cases a ha
 have cb := opc_cases b hb
 refine opc_inj a b ha hb o (fun q => ?_) (fun q => ?_)
 ·have : b ≤ 18 := by omega
  rw [← h2 q, ← k2 this]
 ·have : b ≤ 11 := by omega
  rw [← h3 q, ← k3 this]

theorem matches_val (op u : Int) (h : 1 ≤ op ∧ op ≤ 21) (hu : 0 ≤ u ∧ u < 4294967296) (r : gInstrRow) (hr : r.opcode = OPC op ∧ r.funct3 = T3 op ∧ (op ≤ 11 → r.funct7 = T7 op)) : i_instrRow_matches r op u = some (decide (mt op u)) := by
 obtain ⟨r1, r2, r3⟩ := hr
 have q3 : i_Bits u 12 3 = some (u / 4096 % 8) := by rw [bits_eq]; exact bitsK u 12 3 4096 8 (by decide) (by decide) hu (by decide)
 have q7 : i_Bits u 25 7 = some (u / 33554432 % 128) := by rw [bits_eq]; exact bitsK u 25 7 33554432 128 (by decide) (by decide) hu (by decide)
 unfold i_instrRow_matches
 rw [and127 u hu, r1, r2, q3, q7]
 by_cases ho : OPC op = u % 128
 ·rw [if_neg (by rw [ine_iff]; omega), bind_some']
  by_cases h1 : op ≤ 11
  ·have hf : i_formatOf op = some 82 := by rw [fmt]; exact congrArg some (if_pos (show 1 ≤ op ∧ op ≤ 11 by omega))
   rw [hf, bind_some', if_pos (show ieq 82 82 = true from rfl), bind_some', r3 h1]
   by_cases h3 : T3 op = u / 4096 % 8
   ·rw [if_pos (by rw [ieq_iff]; exact h3), bind_some']
    refine bool_of ?_
    rw [ieq_iff]
    unfold mt
    exact ⟨fun a => ⟨ho.symm, fun _ => h3.symm, fun _ => a.symm⟩, fun a => (a.2.2 h1).symm⟩
   ·rw [if_neg (by rw [ieq_iff]; exact h3), bind_some']
    refine bool_of ?_
    unfold mt
    exact ⟨fun a => absurd a (by decide), fun a => absurd (a.2.1 (by omega)).symm h3⟩
  ·by_cases h2 : op ≤ 18
   ·have e : i_formatOf op = some 73 ∨ i_formatOf op = some 83 ∨ i_formatOf op = some 66 := by
     rw [fmt, if_neg (show ¬ (1 ≤ op ∧ op ≤ 11) by omega)]
     by_cases a : 12 ≤ op ∧ op ≤ 15
     ·rw [if_pos a]; left; rfl
     rw [if_neg a]
     by_cases b : op = 16
     ·rw [if_pos b]; right; left; rfl
     rw [if_neg b, if_pos (show op = 17 ∨ op = 18 by omega)]; right; right; rfl
    have fin : some (ieq (T3 op) (u / 4096 % 8)) = some (decide (mt op u)) := by
     refine bool_of ?_
     rw [ieq_iff]
     unfold mt
     exact ⟨fun a => ⟨ho.symm, fun _ => a.symm, fun a => absurd a h1⟩, fun a => (a.2.1 h2).symm⟩
    rcases e with e | e | e <;> rw [e] <;> simp -implicitDefEqProofs only [ieq, Int.reduceBEq, Bool.false_eq_true, if_false, if_true, bind_some'] <;> exact fin
   ·have fin : some true = some (decide (mt op u)) := by
     refine bool_of ?_
     unfold mt
     exact ⟨fun _ => ⟨ho.symm, fun a => absurd a h2, fun a => absurd a h1⟩, fun _ => rfl⟩
    have e : i_formatOf op = some 85 ∨ i_formatOf op = some 74 ∨ i_formatOf op = some 69 := by
     rw [fmt, if_neg (show ¬ (1 ≤ op ∧ op ≤ 11) by omega), if_neg (show ¬ (12 ≤ op ∧ op ≤ 15) by omega), if_neg (show ¬ op = 16 by omega), if_neg (show ¬ (op = 17 ∨ op = 18) by omega)]
     by_cases a : op = 19
     ·rw [if_pos a]; left; rfl
     rw [if_neg a]
     by_cases b : op = 20
     ·rw [if_pos b]; right; left; rfl
     rw [if_neg b, if_pos (show op = 21 by omega)]; right; right; rfl
    rcases e with e | e | e <;> rw [e] <;> simp -implicitDefEqProofs only [ieq, Int.reduceBEq, Bool.false_eq_true, if_false, if_true, bind_some'] <;> exact fin
 ·rw [if_pos (by rw [ine_iff]; exact ho)]
  refine bool_of ?_
  unfold mt
  exact ⟨fun a => absurd a (by decide), fun a => absurd a.1.symm ho⟩

theorem encZ_fld (p : gInstr) (h : VP p) : (1 ≤ p.Op ∧ p.Op ≤ 21) ∧ (0 ≤ encZ p ∧ encZ p < 4294967296) ∧ mt p.Op (encZ p) ∧ fld p.Op (encZ p) = p := by
 obtain ⟨_, hb⟩ := enc_i p h
 have ho : 1 ≤ p.Op ∧ p.Op ≤ 21 := by unfold VP at h; omega
 refine ⟨ho, hb, ?_⟩
 clear hb
 obtain ⟨op, rd, rs, rt, imm⟩ := p
 dsimp only at ho
 have c := opc_cases op ho
 have t2 : imm.tmod 2 = 0 → imm % 2 = 0 := of_tmod2
 unfold VP at h
 dsimp only at h ⊢
 generalize imm.tmod 2 = em at h t2
 unfold encZ mt fld
 dsimp only
 generalize T3 op = f3 at c ⊢
 generalize T7 op = f7 at c ⊢
 generalize OPC op = oc at c ⊢
 by_cases h1 : op ≤ 11
 ·rw [if_pos h1, if_pos h1]
  clear t2
  have hb : (0 ≤ rd ∧ rd ≤ 31) ∧ (0 ≤ rs ∧ rs ≤ 31) ∧ (0 ≤ rt ∧ rt ≤ 31) ∧ imm = 0 := by omega
  clear h
  refine ⟨⟨by omega, fun _ => by omega, fun _ => by omega⟩, ?_⟩
  rw [gInstr.mk.injEq]
  refine ⟨rfl, ?_, ?_, ?_, ?_⟩ <;> omega
 rw [if_neg h1, if_neg h1]
 by_cases h2 : op ≤ 15
 ·rw [if_pos h2, if_pos h2]
  have hb : (0 ≤ rd ∧ rd ≤ 31) ∧ (0 ≤ rs ∧ rs ≤ 31) ∧ rt = 0 ∧ -2048 ≤ imm ∧ imm ≤ 2047 := by omega
  have ho : 0 ≤ oc ∧ oc < 128 := by omega
  obtain ⟨x, hx⟩ : ∃ x, x = imm % 4096 := ⟨_, rfl⟩
  have hr : 0 ≤ x ∧ x < 4096 ∧ (x ≥ 2048 → imm = x - 4096) ∧ (x < 2048 → imm = x) := by omega
  rw [← hx]
  clear h hx
  refine ⟨⟨by omega, fun _ => by omega, fun _ => by omega⟩, ?_⟩
  rw [gInstr.mk.injEq]
  have e : (x * 1048576 + rs * 32768 + f3 * 4096 + rd * 128 + oc) / 1048576 % 4096 = x := by omega
  rw [e]
  refine ⟨rfl, ?_, ?_, ?_, ?_⟩ <;> first | omega | (split <;> omega)
 rw [if_neg h2, if_neg h2]
 by_cases h3 : op = 16
 ·rw [if_pos h3, if_pos h3]
  have hb : rd = 0 ∧ (0 ≤ rs ∧ rs ≤ 31) ∧ (0 ≤ rt ∧ rt ≤ 31) ∧ -2048 ≤ imm ∧ imm ≤ 2047 := by omega
  have ho : oc = 35 ∧ f3 = 2 := by omega
  obtain ⟨x, hx⟩ : ∃ x, x = imm / 32 % 128 := ⟨_, rfl⟩
  obtain ⟨y, hy⟩ : ∃ y, y = imm % 32 := ⟨_, rfl⟩
  have hr : 0 ≤ x ∧ x < 128 ∧ 0 ≤ y ∧ y < 32 ∧ (x * 32 + y ≥ 2048 → imm = x * 32 + y - 4096) ∧ (x * 32 + y < 2048 → imm = x * 32 + y) := by omega
  rw [← hx, ← hy]
  clear h hx hy
  refine ⟨⟨by omega, fun _ => by omega, fun _ => by omega⟩, ?_⟩
  rw [gInstr.mk.injEq]
  have e : (x * 33554432 + rt * 1048576 + rs * 32768 + 2 * 4096 + y * 128 + 35) / 33554432 % 128 = x := by omega
  have e2 : (x * 33554432 + rt * 1048576 + rs * 32768 + 2 * 4096 + y * 128 + 35) / 128 % 32 = y := by omega
  rw [e, e2]
  refine ⟨rfl, ?_, ?_, ?_, ?_⟩ <;> first | omega | (split <;> omega)
 rw [if_neg h3, if_neg h3]
 by_cases h4 : op ≤ 18
 ·rw [if_pos h4, if_pos h4]
  have hb : rd = 0 ∧ (0 ≤ rs ∧ rs ≤ 31) ∧ (0 ≤ rt ∧ rt ≤ 31) ∧ -4096 ≤ imm ∧ imm ≤ 4094 ∧ em = 0 := by omega
  have t2 := t2 hb.2.2.2.2.2
  have ho : oc = 99 := by omega
  obtain ⟨x, hx⟩ : ∃ x, x = imm / 4096 % 2 := ⟨_, rfl⟩
  obtain ⟨y, hy⟩ : ∃ y, y = imm / 32 % 64 := ⟨_, rfl⟩
  obtain ⟨z, hz⟩ : ∃ z, z = imm / 2 % 16 := ⟨_, rfl⟩
  obtain ⟨w, hw⟩ : ∃ w, w = imm / 2048 % 2 := ⟨_, rfl⟩
  have hr : 0 ≤ x ∧ x < 2 ∧ 0 ≤ y ∧ y < 64 ∧ 0 ≤ z ∧ z < 16 ∧ 0 ≤ w ∧ w < 2 ∧ (x * 4096 + w * 2048 + y * 32 + z * 2 ≥ 4096 → imm = x * 4096 + w * 2048 + y * 32 + z * 2 - 8192) ∧ (x * 4096 + w * 2048 + y * 32 + z * 2 < 4096 → imm = x * 4096 + w * 2048 + y * 32 + z * 2) := by omega
  rw [← hx, ← hy, ← hz, ← hw]
  clear h hx hy hz hw t2
  refine ⟨⟨by omega, fun _ => by omega, fun _ => by omega⟩, ?_⟩
  rw [gInstr.mk.injEq]
  have e1 : (x * 2147483648 + y * 33554432 + rt * 1048576 + rs * 32768 + f3 * 4096 + z * 256 + w * 128 + 99) / 2147483648 % 2 = x := by omega
  have e2 : (x * 2147483648 + y * 33554432 + rt * 1048576 + rs * 32768 + f3 * 4096 + z * 256 + w * 128 + 99) / 128 % 2 = w := by omega
  have e3 : (x * 2147483648 + y * 33554432 + rt * 1048576 + rs * 32768 + f3 * 4096 + z * 256 + w * 128 + 99) / 33554432 % 64 = y := by omega
  have e4 : (x * 2147483648 + y * 33554432 + rt * 1048576 + rs * 32768 + f3 * 4096 + z * 256 + w * 128 + 99) / 256 % 16 = z := by omega
  rw [e1, e2, e3, e4]
  refine ⟨rfl, ?_, ?_, ?_, ?_⟩ <;> first | omega | (split <;> omega)
 rw [if_neg h4, if_neg h4]
 by_cases h5 : op = 19
 ·rw [if_pos h5, if_pos h5]
  have hb : (0 ≤ rd ∧ rd ≤ 31) ∧ rs = 0 ∧ rt = 0 ∧ 0 ≤ imm ∧ imm ≤ 1048575 := by omega
  clear h t2
  refine ⟨⟨by omega, fun _ => by omega, fun _ => by omega⟩, ?_⟩
  rw [gInstr.mk.injEq]
  refine ⟨rfl, ?_, ?_, ?_, ?_⟩ <;> omega
 rw [if_neg h5, if_neg h5]
 by_cases h6 : op = 20
 ·rw [if_pos h6, if_pos h6]
  have hb : (0 ≤ rd ∧ rd ≤ 31) ∧ rs = 0 ∧ rt = 0 ∧ -1048576 ≤ imm ∧ imm ≤ 1048574 ∧ em = 0 := by omega
  have t2 := t2 hb.2.2.2.2.2
  have ho : oc = 111 := by omega
  obtain ⟨x, hx⟩ : ∃ x, x = imm / 1048576 % 2 := ⟨_, rfl⟩
  obtain ⟨y, hy⟩ : ∃ y, y = imm / 2 % 1024 := ⟨_, rfl⟩
  obtain ⟨z, hz⟩ : ∃ z, z = imm / 2048 % 2 := ⟨_, rfl⟩
  obtain ⟨w, hw⟩ : ∃ w, w = imm / 4096 % 256 := ⟨_, rfl⟩
  have hr : 0 ≤ x ∧ x < 2 ∧ 0 ≤ y ∧ y < 1024 ∧ 0 ≤ z ∧ z < 2 ∧ 0 ≤ w ∧ w < 256 ∧ (x * 1048576 + w * 4096 + z * 2048 + y * 2 ≥ 1048576 → imm = x * 1048576 + w * 4096 + z * 2048 + y * 2 - 2097152) ∧ (x * 1048576 + w * 4096 + z * 2048 + y * 2 < 1048576 → imm = x * 1048576 + w * 4096 + z * 2048 + y * 2) := by omega
  rw [← hx, ← hy, ← hz, ← hw]
  clear h hx hy hz hw t2
  refine ⟨⟨by omega, fun _ => by omega, fun _ => by omega⟩, ?_⟩
  rw [gInstr.mk.injEq]
  have e1 : (x * 2147483648 + y * 2097152 + z * 1048576 + w * 4096 + rd * 128 + 111) / 2147483648 % 2 = x := by omega
  have e2 : (x * 2147483648 + y * 2097152 + z * 1048576 + w * 4096 + rd * 128 + 111) / 4096 % 256 = w := by omega
  have e3 : (x * 2147483648 + y * 2097152 + z * 1048576 + w * 4096 + rd * 128 + 111) / 1048576 % 2 = z := by omega
  have e4 : (x * 2147483648 + y * 2097152 + z * 1048576 + w * 4096 + rd * 128 + 111) / 2097152 % 1024 = y := by omega
  rw [e1, e2, e3, e4]
  refine ⟨rfl, ?_, ?_, ?_, ?_⟩ <;> first | omega | (split <;> omega)
 rw [if_neg h6, if_neg h6]
 refine ⟨⟨by omega, fun _ => by omega, fun _ => by omega⟩, ?_⟩
 rw [gInstr.mk.injEq]
 refine ⟨rfl, ?_, ?_, ?_, ?_⟩ <;> omega

theorem dec_i (u : Int) (hu : 0 ≤ u ∧ u < 4294967296) : (∃ op, (1 ≤ op ∧ op ≤ 21) ∧ mt op u ∧ encZ (fld op u) = u ∧ i_InstrDecode u = some (fld op u, true)) ∨
  ((∀ op, 1 ≤ op ∧ op ≤ 21 → mt op u → encZ (fld op u) ≠ u) ∧ i_InstrDecode u = some (⟨0, 0, 0, 0, 0⟩, false)) := by
 have key : ∀ (m : Nat) (k : Int) (z : gInstr), k + (m : Int) = 22 → 1 ≤ k → (∀ op, 1 ≤ op ∧ op < k → mt op u → encZ (fld op u) ≠ u) →
   (∃ op, (1 ≤ op ∧ op ≤ 21) ∧ mt op u ∧ encZ (fld op u) = u ∧ loopM (i_InstrDecode_L1 u) (k, z) = some (.inr (fld op u, true))) ∨
   ((∀ op, 1 ≤ op ∧ op ≤ 21 → mt op u → encZ (fld op u) ≠ u) ∧ loopM (i_InstrDecode_L1 u) (k, z) = some (.inl z)) := by
  intro m
  induction m with
  | zero =>
   intro k z hk h1 hn
   right
   refine ⟨fun op ho => hn op (by omega), loopM_done ?_⟩
   unfold i_InstrDecode_L1
   dsimp only
   rw [if_neg (by rw [ile_iff]; omega)]
  | succ m ih =>
   intro k z hk h1 hn
   have hk2 : 1 ≤ k ∧ k ≤ 21 := by omega
   obtain ⟨r, hr, hr2⟩ := tab_row k hk2
   have stp : i_InstrDecode_L1 u (k, z) = if mt k u then (if encZ (fld k u) = u then some (.done (.inr (fld k u, true))) else some (.next (k + 1, z))) else some (.next (k + 1, z)) := by
    unfold i_InstrDecode_L1
    dsimp only
    rw [if_pos (by rw [ile_iff]; omega), hr, bind_some', matches_val k u hk2 hu r hr2, bind_some', iadd_eq _ _ (by omega)]
    by_cases hm : mt k u
    ·rw [if_neg (by simp [hm, bnot]), if_pos hm, decodeAs_val k u hk2 hu, bind_some']
     rw [(enc_i (fld k u) (VP_fld k u hk2)).1, bind_some', if_pos rfl, bind_some']
     by_cases hq : encZ (fld k u) = u
     ·rw [if_pos (by rw [ieq_iff]; exact hq), if_pos hq]
     ·rw [if_neg (by rw [ieq_iff]; exact hq), if_neg hq]
    ·rw [if_pos (by simp [hm, bnot]), if_neg hm]
   by_cases hm : mt k u
   ·by_cases hq : encZ (fld k u) = u
    ·left
     rw [if_pos hm, if_pos hq] at stp
     exact ⟨k, hk2, hm, hq, loopM_done stp⟩
    ·rw [if_pos hm, if_neg hq] at stp
     rw [loopM_next stp]
     refine ih (k + 1) z (by omega) (by omega) (fun op ho hmo => ?_)
     by_cases e : op = k
     ·subst e; exact hq
     ·exact hn op (by omega) hmo
   ·rw [if_neg hm] at stp
    rw [loopM_next stp]
    refine ih (k + 1) z (by omega) (by omega) (fun op ho hmo => ?_)
    by_cases e : op = k
    ·subst e; exact absurd hmo hm
    ·exact hn op (by omega) hmo
 unfold i_InstrDecode
 rw [isUns u hu, bind_some', if_neg (by decide)]
 rcases key 21 1 ⟨0, 0, 0, 0, 0⟩ (by decide) (by decide) (fun op ho => absurd ho.2 (by omega)) with ⟨op, h1, h2, h3, h4⟩ | ⟨h1, h2⟩
 ·left
  refine ⟨op, h1, h2, h3, ?_⟩
  rw [h4]; rfl
 ·right
  refine ⟨h1, ?_⟩
  rw [h2]; rfl

end Go.Abs
