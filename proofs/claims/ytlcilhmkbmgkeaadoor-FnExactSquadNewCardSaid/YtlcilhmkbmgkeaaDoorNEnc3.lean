/- An instruction as a word: both ways of encoding give the same. -/
import Derived.Test.YtlcilhmkbmgkeaaDoorNEnc2
set_option linter.unusedSimpArgs false
set_option linter.unusedVariables false
set_option maxHeartbeats 4000000
set_option maxRecDepth 20000
namespace Go.Abs
open Go

/-- the fixed fields of the instructions -/
def T3 (op : Int) : Int := ([0, 0, 0, 4, 6, 7, 6, 4, 1, 5, 2, 0, 3, 2, 0, 2, 0, 1, 0, 0, 0] : List Int).getD (op - 1).toNat 0
def T7 (op : Int) : Int := ([0, 32, 1, 1, 1, 0, 0, 0, 0, 32, 0] : List Int).getD (op - 1).toNat 0
def OPC (op : Int) : Int := ([51, 51, 51, 51, 51, 51, 51, 51, 51, 51, 51, 19, 19, 3, 103, 35, 99, 99, 55, 111, 115] : List Int).getD (op - 1).toNat 0
/-- an instruction as a number -/
def encZ (p : gInstr) : Int :=
  if p.Op ≤ 11 then T7 p.Op * 33554432 + p.Rt * 1048576 + p.Rs * 32768 + T3 p.Op * 4096 + p.Rd * 128 + 51
  else if p.Op ≤ 15 then p.Imm % 4096 * 1048576 + p.Rs * 32768 + T3 p.Op * 4096 + p.Rd * 128 + OPC p.Op
  else if p.Op = 16 then p.Imm / 32 % 128 * 33554432 + p.Rt * 1048576 + p.Rs * 32768 + 2 * 4096 + p.Imm % 32 * 128 + 35
  else if p.Op ≤ 18 then p.Imm / 4096 % 2 * 2147483648 + p.Imm / 32 % 64 * 33554432 + p.Rt * 1048576 + p.Rs * 32768 + T3 p.Op * 4096 + p.Imm / 2 % 16 * 256 + p.Imm / 2048 % 2 * 128 + 99
  else if p.Op = 19 then p.Imm * 4096 + p.Rd * 128 + 55
  else if p.Op = 20 then p.Imm / 1048576 % 2 * 2147483648 + p.Imm / 2 % 1024 * 2097152 + p.Imm / 2048 % 2 * 1048576 + p.Imm / 4096 % 256 * 4096 + p.Rd * 128 + 111
  else 115
def EncOk (p : gInstr) : Prop := ∃ e, i_InstrEncode p = some (e, true) ∧ s_InstrEncode p = some (e, true) ∧ (0 ≤ e ∧ e < 4294967296) ∧ e = encZ p

theorem row_R (op : Int) (h : 1 ≤ op ∧ op ≤ 11) : ∃ nm f3 f7, idx instrTab (isub .i64 op 1) = some ⟨nm, 51, f3, f7⟩ ∧ s_l42Three op = some f3 ∧ s_l42Seven op = some f7 ∧ (0 ≤ f3 ∧ f3 < 8) ∧ (0 ≤ f7 ∧ f7 < 128) ∧ f3 = T3 op ∧ f7 = T7 op := by
  obtain rfl | rfl | rfl | rfl | rfl | rfl | rfl | rfl | rfl | rfl | rfl : op = 1 ∨ op = 2 ∨ op = 3 ∨ op = 4 ∨ op = 5 ∨ op = 6 ∨ op = 7 ∨ op = 8 ∨ op = 9 ∨ op = 10 ∨ op = 11 := by omega
  all_goals exact ⟨_, _, _, rfl, rfl, rfl, by decide, by decide, rfl, rfl⟩

theorem nieq {a b : Int} (h : a ≠ b) : ieq a b = false := by simpa [ieq] using h
theorem tt : bnot true = false := rfl

theorem iadd64 {a b : Int} (h : 0 ≤ a ∧ a ≤ 4294967296000) (k : 0 ≤ b ∧ b ≤ 4294967296000) : iadd .i64 a b = a + b := iadd_eq _ _ (by omega)

theorem mid42 (p : gInstr) (c f3 : Int) (hs : 0 ≤ p.Rs ∧ p.Rs < 32) (h3 : s_l42Three p.Op = some f3) (b3 : 0 ≤ f3 ∧ f3 < 8) (hc : 0 ≤ c ∧ c < 128) : s_l42Mid p c = some (p.Rs * 32768 + f3 * 4096 + c) := by
  unfold s_l42Mid
  have e1 : s_l42Put p.Rs 15 = some (p.Rs * 32768) := putK 15 32768 (by decide) (by decide) (by omega)
  have e2 : s_l42Put f3 12 = some (f3 * 4096) := putK 12 4096 (by decide) (by decide) (by omega)
  rw [e1, h3]
  simp only [bind_some', e2]
  simp (disch := omega) only [iadd64]

theorem enc_R (p : gInstr) (h : VP p) (ho : 1 ≤ p.Op ∧ p.Op ≤ 11) : EncOk p := by
  have hv : decide (VP p) = true := by simpa using h
  obtain ⟨op, rd, rs, rt, imm⟩ := p
  unfold VP at h
  dsimp only at h ho
  generalize imm.tmod 2 = em at h
  have hd : 0 ≤ rd ∧ rd < 32 := by omega
  have hs : 0 ≤ rs ∧ rs < 32 := by omega
  have ht : 0 ≤ rt ∧ rt < 32 := by omega
  clear h
  obtain ⟨nm, f3, f7, t1, t2, t3, b3, b7, z3, z7⟩ := row_R op ho
  obtain ⟨u, hu, _⟩ := unsigned_ok imm
  have hf : i_formatOf op = some 82 := by rw [fmt, if_pos ho]
  have s20 : shlx .i64 rt 20 = some (rt * 1048576) := shlK 20 1048576 (by decide) (by decide) (by omega)
  have s15 : shlx .i64 rs 15 = some (rs * 32768) := shlK 15 32768 (by decide) (by decide) (by omega)
  have s12 : shlx .i64 f3 12 = some (f3 * 4096) := shlK 12 4096 (by decide) (by decide) (by omega)
  have s25 : shlx .i64 f7 25 = some (f7 * 33554432) := shlK 25 33554432 (by decide) (by decide) (by omega)
  have s7 : shlx .i64 rd 7 = some (rd * 128) := shlK 7 128 (by decide) (by decide) (by omega)
  have p20 : s_l42Put rt 20 = some (rt * 1048576) := putK 20 1048576 (by decide) (by decide) (by omega)
  have p25 : s_l42Put f7 25 = some (f7 * 33554432) := putK 25 33554432 (by decide) (by decide) (by omega)
  have p7 : s_l42Put rd 7 = some (rd * 128) := putK 7 128 (by decide) (by decide) (by omega)
  have w20 : Wn 32505856 (rt * 1048576) := fieldW rt 5 20 32 1048576 _ (by decide) (by decide) (by decide) ht
  have w15 : Wn 1015808 (rs * 32768) := fieldW rs 5 15 32 32768 _ (by decide) (by decide) (by decide) hs
  have w12 : Wn 28672 (f3 * 4096) := fieldW f3 3 12 8 4096 _ (by decide) (by decide) (by decide) b3
  have w25 : Wn 4261412864 (f7 * 33554432) := fieldW f7 7 25 128 33554432 _ (by decide) (by decide) (by decide) b7
  have w7 : Wn 3968 (rd * 128) := fieldW rd 5 7 32 128 _ (by decide) (by decide) (by decide) hd
  have w0 : Wn 51 51 := ⟨51, rfl, rfl⟩
  obtain ⟨e1, w1⟩ := iorW w20 w15 (by decide) (by decide)
  obtain ⟨e2, w2⟩ := iorW w1 w12 (by decide) (by decide)
  obtain ⟨e3, w3⟩ := iorW w2 w0 (by decide) (by decide)
  obtain ⟨e4, w4⟩ := iorW w25 w3 (by decide) (by decide)
  obtain ⟨e5, w5⟩ := iorW w4 w7 (by decide) (by decide)
  refine ⟨f7 * 33554432 + (rt * 1048576 + rs * 32768 + f3 * 4096 + 51) + rd * 128, ?_, ?_, by omega, ?_⟩
  rotate_left 2
  · unfold encZ; dsimp only; rw [if_pos (by omega), ← z3, ← z7]; omega
  · unfold i_InstrEncode
    rw [ivalid, hv]
    dsimp only
    simp -implicitDefEqProofs only [bind_some', tt, Bool.false_eq_true, if_false, t1, hu, s20, s15, s12, hf, s25, s7, e1, e2, e3, e4, e5, ieq, Int.reduceBEq, if_true]
  · unfold s_InstrEncode
    rw [svalid, hv]
    have n12 : ieq op 12 = false := nieq (by omega)
    have n13 : ieq op 13 = false := nieq (by omega)
    have n14 : ieq op 14 = false := nieq (by omega)
    have n15 : ieq op 15 = false := nieq (by omega)
    have n16 : ieq op 16 = false := nieq (by omega)
    have n17 : ieq op 17 = false := nieq (by omega)
    have n18 : ieq op 18 = false := nieq (by omega)
    have n19 : ieq op 19 = false := nieq (by omega)
    have n20 : ieq op 20 = false := nieq (by omega)
    have n21 : ieq op 21 = false := nieq (by omega)
    have hm := mid42 ⟨op, rd, rs, rt, imm⟩ 51 f3 hs t2 b3 (by decide)
    dsimp only at hm
    unfold s_l42Encode
    simp only [bind_some', tt, Bool.false_eq_true, if_false, n12, n13, n14, n15, n16, n17, n18, n19, n20, n21, t3, p25, p20, hm, p7]
    simp (disch := omega) only [iadd64]
    simp only [Option.some.injEq, Prod.mk.injEq, and_true]
    omega

/-- the immediate, read as a number without sign -/
theorem uns (imm : Int) (h : -2147483648 ≤ imm ∧ imm ≤ 2147483647) : ∃ u, i_Unsigned imm = some u ∧ (0 ≤ u ∧ u < 4294967296) ∧ u = imm % 4294967296 := by
  obtain ⟨u, hu, h1, h2, h3⟩ := unsigned_ok imm
  have := h3 h
  exact ⟨u, hu, by omega, this⟩

theorem row_I (op : Int) (h : 12 ≤ op ∧ op ≤ 15) : ∃ nm oc f3, idx instrTab (isub .i64 op 1) = some ⟨nm, oc, f3, 0⟩ ∧ s_l42Three op = some f3 ∧ (0 ≤ f3 ∧ f3 < 8) ∧ Wn 127 oc ∧ (∀ i : gInstr, i.Op = op → s_l42Encode i = s_l42Imm i oc) ∧ f3 = T3 op ∧ oc = OPC op := by
  obtain rfl | rfl | rfl | rfl : op = 12 ∨ op = 13 ∨ op = 14 ∨ op = 15 := by omega
  all_goals
    refine ⟨_, _, _, rfl, rfl, by decide, ⟨_, rfl, rfl⟩, fun i hi => ?_, rfl, rfl⟩
    unfold s_l42Encode
    rw [hi]
    simp only [bind_id]
    rfl

theorem enc_I (p : gInstr) (h : VP p) (ho : 12 ≤ p.Op ∧ p.Op ≤ 15) : EncOk p := by
  have hv : decide (VP p) = true := by simpa using h
  obtain ⟨op, rd, rs, rt, imm⟩ := p
  unfold VP at h
  dsimp only at h ho
  generalize imm.tmod 2 = em at h
  have hd : 0 ≤ rd ∧ rd < 32 := by omega
  have hs : 0 ≤ rs ∧ rs < 32 := by omega
  have ht : rt = 0 := by omega
  have hi : -2048 ≤ imm ∧ imm ≤ 2047 := by omega
  subst ht
  clear h
  obtain ⟨nm, oc, f3, t1, t2, b3, wo, he, z3, zo⟩ := row_I op ho
  have bo := wo.le
  obtain ⟨u, hu, bu, eu⟩ := uns imm (by omega)
  have hf : i_formatOf op = some 73 := by rw [fmt, if_neg (by omega), if_pos ho]
  have s20 : shlx .i64 0 20 = some (0 * 1048576) := shlK 20 1048576 (by decide) (by decide) (by omega)
  have s15 : shlx .i64 rs 15 = some (rs * 32768) := shlK 15 32768 (by decide) (by decide) (by omega)
  have s12 : shlx .i64 f3 12 = some (f3 * 4096) := shlK 12 4096 (by decide) (by decide) (by omega)
  have s7 : shlx .i64 rd 7 = some (rd * 128) := shlK 7 128 (by decide) (by decide) (by omega)
  have p7 : s_l42Put rd 7 = some (rd * 128) := putK 7 128 (by decide) (by decide) (by omega)
  have b1 : i_InstrEncode_1 0 12 20 u = some (u / 1 % 4096 * 1048576) := ibitsK u 0 12 20 1 4096 1048576 (by decide) (by decide) (by decide) bu (by decide) (by omega)
  have w20 : Wn 32505856 (0 * 1048576) := fieldW 0 5 20 32 1048576 _ (by decide) (by decide) (by decide) (by decide)
  have w15 : Wn 1015808 (rs * 32768) := fieldW rs 5 15 32 32768 _ (by decide) (by decide) (by decide) hs
  have w12 : Wn 28672 (f3 * 4096) := fieldW f3 3 12 8 4096 _ (by decide) (by decide) (by decide) b3
  have w7 : Wn 3968 (rd * 128) := fieldW rd 5 7 32 128 _ (by decide) (by decide) (by decide) hd
  obtain ⟨e1, w1⟩ := iorW w20 w15 (by decide) (by decide)
  obtain ⟨e2, w2⟩ := iorW w1 w12 (by decide) (by decide)
  obtain ⟨e3, w3⟩ := iorW w2 wo (by decide) (by decide)
  have wim : Wn 4293918720 (u / 1 % 4096 * 1048576) := fieldW (u / 1 % 4096) 12 20 4096 1048576 _ (by decide) (by decide) (by decide) (by omega)
  have wz : Wn 0 (0 * 1048576) := ⟨0, rfl, rfl⟩
  obtain ⟨e1', w1'⟩ := iorW wz w15 (by decide) (by decide)
  obtain ⟨e2', w2'⟩ := iorW w1' w12 (by decide) (by decide)
  obtain ⟨e3', w3'⟩ := iorW w2' wo (by decide) (by decide)
  obtain ⟨e4, w4⟩ := iorW wim w3' (by decide) (by decide)
  obtain ⟨e5, w5⟩ := iorW w4 w7 (by decide) (by decide)
  refine ⟨u / 1 % 4096 * 1048576 + (0 * 1048576 + rs * 32768 + f3 * 4096 + oc) + rd * 128, ?_, ?_, by omega, ?_⟩
  rotate_left 2
  · unfold encZ; dsimp only; rw [if_neg (by omega), if_pos (by omega), ← z3, ← zo]; omega
  · unfold i_InstrEncode
    rw [ivalid, hv]
    dsimp only
    simp -implicitDefEqProofs only [bind_some', tt, Bool.false_eq_true, if_false, t1, hu, s20, s15, s12, hf, s7, b1, e1, e2, e3, e4, e5, ieq, Int.reduceBEq, if_true, Bool.false_eq_true, if_false]
  · unfold s_InstrEncode
    rw [svalid, hv, he _ rfl]
    have hm := mid42 ⟨op, rd, rs, 0, imm⟩ oc f3 hs t2 b3 (by omega)
    have hq : s_l42Mod imm 4096 = some (if imm < 0 then imm + 4096 else imm) := mod42 _ _ (by omega) (by omega)
    have hp : s_l42Put (if imm < 0 then imm + 4096 else imm) 20 = some ((if imm < 0 then imm + 4096 else imm) * 1048576) := putK 20 1048576 (by decide) (by decide) (by split <;> omega)
    have hx : (if imm < 0 then imm + 4096 else imm) = u / 1 % 4096 := by split <;> omega
    unfold s_l42Imm
    dsimp only at hm ⊢
    simp only [bind_some', tt, Bool.false_eq_true, if_false, hq, hp, hm, p7]
    rw [hx]
    simp (disch := omega) only [iadd64]
    simp only [Option.some.injEq, Prod.mk.injEq, and_true]
    omega
end Go.Abs
