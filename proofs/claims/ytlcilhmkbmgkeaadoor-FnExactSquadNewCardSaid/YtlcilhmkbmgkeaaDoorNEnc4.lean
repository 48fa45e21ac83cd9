/- An instruction as a word: the other formats, and all together. -/
import Derived.Test.YtlcilhmkbmgkeaaDoorNEnc3
set_option linter.unusedSimpArgs false
set_option linter.unusedVariables false
set_option maxHeartbeats 4000000
set_option maxRecDepth 20000
namespace Go.Abs
open Go

theorem enc_S (p : gInstr) (h : VP p) (ho : p.Op = 16) : EncOk p := by
  have hv : decide (VP p) = true := by simpa using h
  obtain ⟨op, rd, rs, rt, imm⟩ := p
  unfold VP at h
  dsimp only at h ho
  generalize imm.tmod 2 = em at h
  have hd : rd = 0 := by omega
  have hs : 0 ≤ rs ∧ rs < 32 := by omega
  have ht : 0 ≤ rt ∧ rt < 32 := by omega
  have hi : -2048 ≤ imm ∧ imm ≤ 2047 := by omega
  subst hd ho
  clear h
  obtain ⟨u, hu, bu, eu⟩ := uns imm (by omega)
  have t1 : idx instrTab (isub .i64 16 1) = some ⟨⟨#[115, 119]⟩, 35, 2, 0⟩ := rfl
  have t2 : s_l42Three 16 = some 2 := rfl
  have hf : i_formatOf 16 = some 83 := rfl
  have s20 : shlx .i64 rt 20 = some (rt * 1048576) := shlK 20 1048576 (by decide) (by decide) (by omega)
  have s15 : shlx .i64 rs 15 = some (rs * 32768) := shlK 15 32768 (by decide) (by decide) (by omega)
  have s12 : shlx .i64 2 12 = some (2 * 4096) := shlK 12 4096 (by decide) (by decide) (by omega)
  have b1 : i_InstrEncode_1 5 7 25 u = some (u / 32 % 128 * 33554432) := ibitsK u 5 7 25 32 128 33554432 (by decide) (by decide) (by decide) bu (by decide) (by omega)
  have b2 : i_InstrEncode_1 0 5 7 u = some (u / 1 % 32 * 128) := ibitsK u 0 5 7 1 32 128 (by decide) (by decide) (by decide) bu (by decide) (by omega)
  have w20 : Wn 32505856 (rt * 1048576) := fieldW rt 5 20 32 1048576 _ (by decide) (by decide) (by decide) ht
  have w15 : Wn 1015808 (rs * 32768) := fieldW rs 5 15 32 32768 _ (by decide) (by decide) (by decide) hs
  have w12 : Wn 28672 (2 * 4096) := fieldW 2 3 12 8 4096 _ (by decide) (by decide) (by decide) (by decide)
  have wo : Wn 127 35 := ⟨35, rfl, rfl⟩
  obtain ⟨e1, w1⟩ := iorW w20 w15 (by decide) (by decide)
  obtain ⟨e2, w2⟩ := iorW w1 w12 (by decide) (by decide)
  obtain ⟨e3, w3⟩ := iorW w2 wo (by decide) (by decide)
  have wa : Wn 4261412864 (u / 32 % 128 * 33554432) := fieldW (u / 32 % 128) 7 25 128 33554432 _ (by decide) (by decide) (by decide) (by omega)
  have wb : Wn 3968 (u / 1 % 32 * 128) := fieldW (u / 1 % 32) 5 7 32 128 _ (by decide) (by decide) (by decide) (by omega)
  obtain ⟨e4, w4⟩ := iorW wa w3 (by decide) (by decide)
  obtain ⟨e5, w5⟩ := iorW w4 wb (by decide) (by decide)
  refine ⟨u / 32 % 128 * 33554432 + (rt * 1048576 + rs * 32768 + 2 * 4096 + 35) + u / 1 % 32 * 128, ?_, ?_, by omega, ?_⟩
  rotate_left 2
  · unfold encZ; dsimp only; rw [if_neg (by omega), if_neg (by omega), if_pos rfl]; omega
  · unfold i_InstrEncode
    rw [ivalid, hv]
    dsimp only
    simp -implicitDefEqProofs only [bind_some', tt, Bool.false_eq_true, if_false, t1, hu, s20, s15, s12, hf, b1, b2, e1, e2, e3, e4, e5, ieq, Int.reduceBEq, if_true]
  · unfold s_InstrEncode
    rw [svalid, hv]
    have hm := mid42 ⟨16, 0, rs, rt, imm⟩ 35 2 hs t2 (by decide) (by decide)
    have hq : s_l42Mod imm 4096 = some (if imm < 0 then imm + 4096 else imm) := mod42 _ _ (by omega) (by omega)
    have hx : (if imm < 0 then imm + 4096 else imm) = u % 4096 := by split <;> omega
    rw [hx] at hq
    have c1 : s_Bits (u % 4096) 5 7 = some (u % 4096 / 32 % 128) := bitsK (u % 4096) 5 7 32 128 (by decide) (by decide) (by omega) (by decide)
    have c2 : s_Bits (u % 4096) 0 5 = some (u % 4096 / 1 % 32) := bitsK (u % 4096) 0 5 1 32 (by decide) (by decide) (by omega) (by decide)
    have d1 : s_l42Put (u % 4096 / 32 % 128) 25 = some (u % 4096 / 32 % 128 * 33554432) := putK 25 33554432 (by decide) (by decide) (by omega)
    have d2 : s_l42Put (u % 4096 / 1 % 32) 7 = some (u % 4096 / 1 % 32 * 128) := putK 7 128 (by decide) (by decide) (by omega)
    have p20 : s_l42Put rt 20 = some (rt * 1048576) := putK 20 1048576 (by decide) (by decide) (by omega)
    unfold s_l42Encode
    dsimp only at hm ⊢
    simp -implicitDefEqProofs only [bind_some', tt, Bool.false_eq_true, if_false, hq, c1, c2, d1, d2, p20, hm, ieq, Int.reduceBEq, if_true]
    simp (disch := omega) only [iadd64]
    simp only [Option.some.injEq, Prod.mk.injEq, and_true]
    omega

theorem row_B (op : Int) (h : op = 17 ∨ op = 18) : ∃ nm f3, idx instrTab (isub .i64 op 1) = some ⟨nm, 99, f3, 0⟩ ∧ s_l42Three op = some f3 ∧ (0 ≤ f3 ∧ f3 < 8) ∧ (∀ i : gInstr, i.Op = op → s_l42Encode i = s_l42Branch i) ∧ f3 = T3 op := by
  obtain rfl | rfl := h
  all_goals
    refine ⟨_, _, rfl, rfl, by decide, fun i hi => ?_, rfl⟩
    unfold s_l42Encode
    rw [hi]
    simp only [bind_id]
    rfl

theorem enc_B (p : gInstr) (h : VP p) (ho : p.Op = 17 ∨ p.Op = 18) : EncOk p := by
  have hv : decide (VP p) = true := by simpa using h
  obtain ⟨op, rd, rs, rt, imm⟩ := p
  unfold VP at h
  dsimp only at h ho
  generalize imm.tmod 2 = em at h
  have hd : rd = 0 := by omega
  have hs : 0 ≤ rs ∧ rs < 32 := by omega
  have ht : 0 ≤ rt ∧ rt < 32 := by omega
  have hi : -4096 ≤ imm ∧ imm ≤ 4094 := by omega
  subst hd
  clear h
  obtain ⟨nm, f3, t1, t2, b3, he, z3⟩ := row_B op ho
  obtain ⟨u, hu, bu, eu⟩ := uns imm (by omega)
  have hf : i_formatOf op = some 66 := by rw [fmt, if_neg (by omega), if_neg (by omega), if_neg (by omega), if_pos ho]
  have s20 : shlx .i64 rt 20 = some (rt * 1048576) := shlK 20 1048576 (by decide) (by decide) (by omega)
  have s15 : shlx .i64 rs 15 = some (rs * 32768) := shlK 15 32768 (by decide) (by decide) (by omega)
  have s12 : shlx .i64 f3 12 = some (f3 * 4096) := shlK 12 4096 (by decide) (by decide) (by omega)
  have b1 : i_InstrEncode_1 12 1 31 u = some (u / 4096 % 2 * 2147483648) := ibitsK u 12 1 31 4096 2 2147483648 (by decide) (by decide) (by decide) bu (by decide) (by omega)
  have b2 : i_InstrEncode_1 5 6 25 u = some (u / 32 % 64 * 33554432) := ibitsK u 5 6 25 32 64 33554432 (by decide) (by decide) (by decide) bu (by decide) (by omega)
  have b4 : i_InstrEncode_1 1 4 8 u = some (u / 2 % 16 * 256) := ibitsK u 1 4 8 2 16 256 (by decide) (by decide) (by decide) bu (by decide) (by omega)
  have b5 : i_InstrEncode_1 11 1 7 u = some (u / 2048 % 2 * 128) := ibitsK u 11 1 7 2048 2 128 (by decide) (by decide) (by decide) bu (by decide) (by omega)
  have w20 : Wn 32505856 (rt * 1048576) := fieldW rt 5 20 32 1048576 _ (by decide) (by decide) (by decide) ht
  have w15 : Wn 1015808 (rs * 32768) := fieldW rs 5 15 32 32768 _ (by decide) (by decide) (by decide) hs
  have w12 : Wn 28672 (f3 * 4096) := fieldW f3 3 12 8 4096 _ (by decide) (by decide) (by decide) b3
  have wo : Wn 127 99 := ⟨99, rfl, rfl⟩
  obtain ⟨e1, w1⟩ := iorW w20 w15 (by decide) (by decide)
  obtain ⟨e2, w2⟩ := iorW w1 w12 (by decide) (by decide)
  obtain ⟨e3, w3⟩ := iorW w2 wo (by decide) (by decide)
  have wa : Wn 2147483648 (u / 4096 % 2 * 2147483648) := fieldW (u / 4096 % 2) 1 31 2 2147483648 _ (by decide) (by decide) (by decide) (by omega)
  have wb : Wn 2113929216 (u / 32 % 64 * 33554432) := fieldW (u / 32 % 64) 6 25 64 33554432 _ (by decide) (by decide) (by decide) (by omega)
  have wc : Wn 3840 (u / 2 % 16 * 256) := fieldW (u / 2 % 16) 4 8 16 256 _ (by decide) (by decide) (by decide) (by omega)
  have wd : Wn 128 (u / 2048 % 2 * 128) := fieldW (u / 2048 % 2) 1 7 2 128 _ (by decide) (by decide) (by decide) (by omega)
  obtain ⟨e4, w4⟩ := iorW wa wb (by decide) (by decide)
  obtain ⟨e5, w5⟩ := iorW w4 w3 (by decide) (by decide)
  obtain ⟨e6, w6⟩ := iorW w5 wc (by decide) (by decide)
  obtain ⟨e7, w7⟩ := iorW w6 wd (by decide) (by decide)
  refine ⟨u / 4096 % 2 * 2147483648 + u / 32 % 64 * 33554432 + (rt * 1048576 + rs * 32768 + f3 * 4096 + 99) + u / 2 % 16 * 256 + u / 2048 % 2 * 128, ?_, ?_, by omega, ?_⟩
  rotate_left 2
  · unfold encZ; dsimp only; rw [if_neg (by omega), if_neg (by omega), if_neg (by omega), if_pos (by omega), ← z3]; omega
  · unfold i_InstrEncode
    rw [ivalid, hv]
    dsimp only
    simp -implicitDefEqProofs only [bind_some', tt, Bool.false_eq_true, if_false, t1, hu, s20, s15, s12, hf, b1, b2, b4, b5, e1, e2, e3, e4, e5, e6, e7, ieq, Int.reduceBEq, if_true]
  · unfold s_InstrEncode
    rw [svalid, hv, he _ rfl]
    have hm := mid42 ⟨op, 0, rs, rt, imm⟩ 99 f3 hs t2 b3 (by decide)
    have hq : s_l42Mod imm 8192 = some (if imm < 0 then imm + 8192 else imm) := mod42 _ _ (by omega) (by omega)
    have hx : (if imm < 0 then imm + 8192 else imm) = u % 8192 := by split <;> omega
    rw [hx] at hq
    have c1 : s_Bits (u % 8192) 12 1 = some (u % 8192 / 4096 % 2) := bitsK (u % 8192) 12 1 4096 2 (by decide) (by decide) (by omega) (by decide)
    have c2 : s_Bits (u % 8192) 5 6 = some (u % 8192 / 32 % 64) := bitsK (u % 8192) 5 6 32 64 (by decide) (by decide) (by omega) (by decide)
    have c3 : s_Bits (u % 8192) 1 4 = some (u % 8192 / 2 % 16) := bitsK (u % 8192) 1 4 2 16 (by decide) (by decide) (by omega) (by decide)
    have c4 : s_Bits (u % 8192) 11 1 = some (u % 8192 / 2048 % 2) := bitsK (u % 8192) 11 1 2048 2 (by decide) (by decide) (by omega) (by decide)
    have d1 : s_l42Put (u % 8192 / 4096 % 2) 31 = some (u % 8192 / 4096 % 2 * 2147483648) := putK 31 2147483648 (by decide) (by decide) (by omega)
    have d2 : s_l42Put (u % 8192 / 32 % 64) 25 = some (u % 8192 / 32 % 64 * 33554432) := putK 25 33554432 (by decide) (by decide) (by omega)
    have d3 : s_l42Put (u % 8192 / 2 % 16) 8 = some (u % 8192 / 2 % 16 * 256) := putK 8 256 (by decide) (by decide) (by omega)
    have d4 : s_l42Put (u % 8192 / 2048 % 2) 7 = some (u % 8192 / 2048 % 2 * 128) := putK 7 128 (by decide) (by decide) (by omega)
    have p20 : s_l42Put rt 20 = some (rt * 1048576) := putK 20 1048576 (by decide) (by decide) (by omega)
    unfold s_l42Branch
    dsimp only at hm ⊢
    simp -implicitDefEqProofs only [bind_some', tt, Bool.false_eq_true, if_false, hq, c1, c2, c3, c4, d1, d2, d3, d4, p20, hm]
    have g1 : u % 8192 / 4096 % 2 = u / 4096 % 2 := by omega
    have g2 : u % 8192 / 32 % 64 = u / 32 % 64 := by omega
    have g3 : u % 8192 / 2 % 16 = u / 2 % 16 := by omega
    have g4 : u % 8192 / 2048 % 2 = u / 2048 % 2 := by omega
    rw [g1, g2, g3, g4]
    simp (disch := omega) only [iadd64]
    simp only [Option.some.injEq, Prod.mk.injEq, and_true]
    omega

theorem enc_U (p : gInstr) (h : VP p) (ho : p.Op = 19) : EncOk p := by
  have hv : decide (VP p) = true := by simpa using h
  obtain ⟨op, rd, rs, rt, imm⟩ := p
  unfold VP at h
  dsimp only at h ho
  generalize imm.tmod 2 = em at h
  have hd : 0 ≤ rd ∧ rd < 32 := by omega
  have hs : rs = 0 := by omega
  have ht : rt = 0 := by omega
  have hi : 0 ≤ imm ∧ imm < 1048576 := by omega
  subst hs ht ho
  clear h
  obtain ⟨u, hu, bu, eu⟩ := uns imm (by omega)
  have t1 : idx instrTab (isub .i64 19 1) = some ⟨⟨#[108, 117, 105]⟩, 55, 0, 0⟩ := rfl
  have hf : i_formatOf 19 = some 85 := rfl
  have s20 : shlx .i64 0 20 = some (0 * 1048576) := shlK 20 1048576 (by decide) (by decide) (by omega)
  have s15 : shlx .i64 0 15 = some (0 * 32768) := shlK 15 32768 (by decide) (by decide) (by omega)
  have s12 : shlx .i64 0 12 = some (0 * 4096) := shlK 12 4096 (by decide) (by decide) (by omega)
  have s7 : shlx .i64 rd 7 = some (rd * 128) := shlK 7 128 (by decide) (by decide) (by omega)
  have b1 : i_InstrEncode_1 0 20 12 u = some (u / 1 % 1048576 * 4096) := ibitsK u 0 20 12 1 1048576 4096 (by decide) (by decide) (by decide) bu (by decide) (by omega)
  have wo : Wn 127 55 := ⟨55, rfl, rfl⟩
  have w7 : Wn 3968 (rd * 128) := fieldW rd 5 7 32 128 _ (by decide) (by decide) (by decide) hd
  have wa : Wn 4294963200 (u / 1 % 1048576 * 4096) := fieldW (u / 1 % 1048576) 20 12 1048576 4096 _ (by decide) (by decide) (by decide) (by omega)
  obtain ⟨e1, w1⟩ := iorW wa w7 (by decide) (by decide)
  obtain ⟨e2, w2⟩ := iorW w1 wo (by decide) (by decide)
  refine ⟨u / 1 % 1048576 * 4096 + rd * 128 + 55, ?_, ?_, by omega, ?_⟩
  rotate_left 2
  · unfold encZ; dsimp only; rw [if_neg (by omega), if_neg (by omega), if_neg (by omega), if_neg (by omega), if_pos rfl]; omega
  · unfold i_InstrEncode
    rw [ivalid, hv]
    dsimp only
    simp -implicitDefEqProofs only [bind_some', tt, Bool.false_eq_true, if_false, t1, hu, s20, s15, s12, s7, hf, b1, e1, e2, ieq, Int.reduceBEq, if_true]
  · unfold s_InstrEncode
    rw [svalid, hv]
    have d1 : s_l42Put imm 12 = some (imm * 4096) := putK 12 4096 (by decide) (by decide) (by omega)
    have d2 : s_l42Put rd 7 = some (rd * 128) := putK 7 128 (by decide) (by decide) (by omega)
    unfold s_l42Encode
    dsimp only
    simp -implicitDefEqProofs only [bind_some', tt, Bool.false_eq_true, if_false, d1, d2, ieq, Int.reduceBEq, if_true]
    simp (disch := omega) only [iadd64]
    simp only [Option.some.injEq, Prod.mk.injEq, and_true]
    omega

theorem enc_J (p : gInstr) (h : VP p) (ho : p.Op = 20) : EncOk p := by
  have hv : decide (VP p) = true := by simpa using h
  obtain ⟨op, rd, rs, rt, imm⟩ := p
  unfold VP at h
  dsimp only at h ho
  generalize imm.tmod 2 = em at h
  have hd : 0 ≤ rd ∧ rd < 32 := by omega
  have hs : rs = 0 := by omega
  have ht : rt = 0 := by omega
  have hi : -1048576 ≤ imm ∧ imm ≤ 1048574 := by omega
  subst hs ht ho
  clear h
  obtain ⟨u, hu, bu, eu⟩ := uns imm (by omega)
  have t1 : idx instrTab (isub .i64 20 1) = some ⟨⟨#[106, 97, 108]⟩, 111, 0, 0⟩ := rfl
  have hf : i_formatOf 20 = some 74 := rfl
  have s20 : shlx .i64 0 20 = some (0 * 1048576) := shlK 20 1048576 (by decide) (by decide) (by omega)
  have s15 : shlx .i64 0 15 = some (0 * 32768) := shlK 15 32768 (by decide) (by decide) (by omega)
  have s12 : shlx .i64 0 12 = some (0 * 4096) := shlK 12 4096 (by decide) (by decide) (by omega)
  have s7 : shlx .i64 rd 7 = some (rd * 128) := shlK 7 128 (by decide) (by decide) (by omega)
  have b1 : i_InstrEncode_1 20 1 31 u = some (u / 1048576 % 2 * 2147483648) := ibitsK u 20 1 31 1048576 2 2147483648 (by decide) (by decide) (by decide) bu (by decide) (by omega)
  have b2 : i_InstrEncode_1 1 10 21 u = some (u / 2 % 1024 * 2097152) := ibitsK u 1 10 21 2 1024 2097152 (by decide) (by decide) (by decide) bu (by decide) (by omega)
  have b3 : i_InstrEncode_1 11 1 20 u = some (u / 2048 % 2 * 1048576) := ibitsK u 11 1 20 2048 2 1048576 (by decide) (by decide) (by decide) bu (by decide) (by omega)
  have b4 : i_InstrEncode_1 12 8 12 u = some (u / 4096 % 256 * 4096) := ibitsK u 12 8 12 4096 256 4096 (by decide) (by decide) (by decide) bu (by decide) (by omega)
  have wo : Wn 127 111 := ⟨111, rfl, rfl⟩
  have w7 : Wn 3968 (rd * 128) := fieldW rd 5 7 32 128 _ (by decide) (by decide) (by decide) hd
  have wa : Wn 2147483648 (u / 1048576 % 2 * 2147483648) := fieldW (u / 1048576 % 2) 1 31 2 2147483648 _ (by decide) (by decide) (by decide) (by omega)
  have wb : Wn 2145386496 (u / 2 % 1024 * 2097152) := fieldW (u / 2 % 1024) 10 21 1024 2097152 _ (by decide) (by decide) (by decide) (by omega)
  have wc : Wn 1048576 (u / 2048 % 2 * 1048576) := fieldW (u / 2048 % 2) 1 20 2 1048576 _ (by decide) (by decide) (by decide) (by omega)
  have wd : Wn 1044480 (u / 4096 % 256 * 4096) := fieldW (u / 4096 % 256) 8 12 256 4096 _ (by decide) (by decide) (by decide) (by omega)
  obtain ⟨e1, w1⟩ := iorW wa wb (by decide) (by decide)
  obtain ⟨e2, w2⟩ := iorW w1 wc (by decide) (by decide)
  obtain ⟨e3, w3⟩ := iorW w2 wd (by decide) (by decide)
  obtain ⟨e4, w4⟩ := iorW w3 w7 (by decide) (by decide)
  obtain ⟨e5, w5⟩ := iorW w4 wo (by decide) (by decide)
  refine ⟨u / 1048576 % 2 * 2147483648 + u / 2 % 1024 * 2097152 + u / 2048 % 2 * 1048576 + u / 4096 % 256 * 4096 + rd * 128 + 111, ?_, ?_, by omega, ?_⟩
  rotate_left 2
  · unfold encZ; dsimp only; rw [if_neg (by omega), if_neg (by omega), if_neg (by omega), if_neg (by omega), if_neg (by omega), if_pos rfl]; omega
  · unfold i_InstrEncode
    rw [ivalid, hv]
    dsimp only
    simp -implicitDefEqProofs only [bind_some', tt, Bool.false_eq_true, if_false, t1, hu, s20, s15, s12, s7, hf, b1, b2, b3, b4, e1, e2, e3, e4, e5, ieq, Int.reduceBEq, if_true]
  · unfold s_InstrEncode
    rw [svalid, hv]
    have hq : s_l42Mod imm 2097152 = some (if imm < 0 then imm + 2097152 else imm) := mod42 _ _ (by omega) (by omega)
    have hx : (if imm < 0 then imm + 2097152 else imm) = u % 2097152 := by split <;> omega
    rw [hx] at hq
    have c1 : s_Bits (u % 2097152) 20 1 = some (u % 2097152 / 1048576 % 2) := bitsK (u % 2097152) 20 1 1048576 2 (by decide) (by decide) (by omega) (by decide)
    have c2 : s_Bits (u % 2097152) 1 10 = some (u % 2097152 / 2 % 1024) := bitsK (u % 2097152) 1 10 2 1024 (by decide) (by decide) (by omega) (by decide)
    have c3 : s_Bits (u % 2097152) 11 1 = some (u % 2097152 / 2048 % 2) := bitsK (u % 2097152) 11 1 2048 2 (by decide) (by decide) (by omega) (by decide)
    have c4 : s_Bits (u % 2097152) 12 8 = some (u % 2097152 / 4096 % 256) := bitsK (u % 2097152) 12 8 4096 256 (by decide) (by decide) (by omega) (by decide)
    have g1 : u % 2097152 / 1048576 % 2 = u / 1048576 % 2 := by omega
    have g2 : u % 2097152 / 2 % 1024 = u / 2 % 1024 := by omega
    have g3 : u % 2097152 / 2048 % 2 = u / 2048 % 2 := by omega
    have g4 : u % 2097152 / 4096 % 256 = u / 4096 % 256 := by omega
    rw [g1] at c1; rw [g2] at c2; rw [g3] at c3; rw [g4] at c4
    have d1 : s_l42Put (u / 1048576 % 2) 31 = some (u / 1048576 % 2 * 2147483648) := putK 31 2147483648 (by decide) (by decide) (by omega)
    have d2 : s_l42Put (u / 2 % 1024) 21 = some (u / 2 % 1024 * 2097152) := putK 21 2097152 (by decide) (by decide) (by omega)
    have d3 : s_l42Put (u / 2048 % 2) 20 = some (u / 2048 % 2 * 1048576) := putK 20 1048576 (by decide) (by decide) (by omega)
    have d4 : s_l42Put (u / 4096 % 256) 12 = some (u / 4096 % 256 * 4096) := putK 12 4096 (by decide) (by decide) (by omega)
    have d5 : s_l42Put rd 7 = some (rd * 128) := putK 7 128 (by decide) (by decide) (by omega)
    unfold s_l42Encode s_l42Jump
    dsimp only
    simp -implicitDefEqProofs only [bind_some', tt, Bool.false_eq_true, if_false, hq, c1, c2, c3, c4, d1, d2, d3, d4, d5, ieq, Int.reduceBEq, if_true]
    simp (disch := omega) only [iadd64]

theorem enc_E (p : gInstr) (h : VP p) (ho : p.Op = 21) : EncOk p := by
  have hv : decide (VP p) = true := by simpa using h
  obtain ⟨op, rd, rs, rt, imm⟩ := p
  unfold VP at h
  dsimp only at h ho
  generalize imm.tmod 2 = em at h
  have hd : rd = 0 := by omega
  have hs : rs = 0 := by omega
  have ht : rt = 0 := by omega
  have hi : imm = 0 := by omega
  subst hs ht ho hi hd
  clear h
  obtain ⟨u, hu, bu, eu⟩ := uns 0 (by omega)
  have t1 : idx instrTab (isub .i64 21 1) = some ⟨⟨#[101, 99, 97, 108, 108]⟩, 115, 0, 0⟩ := rfl
  have hf : i_formatOf 21 = some 69 := rfl
  have s20 : shlx .i64 0 20 = some (0 * 1048576) := shlK 20 1048576 (by decide) (by decide) (by omega)
  have s15 : shlx .i64 0 15 = some (0 * 32768) := shlK 15 32768 (by decide) (by decide) (by omega)
  have s12 : shlx .i64 0 12 = some (0 * 4096) := shlK 12 4096 (by decide) (by decide) (by omega)
  refine ⟨115, ?_, ?_, by omega, rfl⟩
  · unfold i_InstrEncode
    rw [ivalid, hv]
    dsimp only
    simp -implicitDefEqProofs only [bind_some', tt, Bool.false_eq_true, if_false, t1, hu, s20, s15, s12, hf, ieq, Int.reduceBEq, if_true]
  · unfold s_InstrEncode
    rw [svalid, hv]
    unfold s_l42Encode
    dsimp only
    simp -implicitDefEqProofs only [bind_some', tt, Bool.false_eq_true, if_false, ieq, Int.reduceBEq, if_true]

theorem enc_ok (p : gInstr) (h : VP p) : EncOk p := by
  have : (1 ≤ p.Op ∧ p.Op ≤ 11) ∨ (12 ≤ p.Op ∧ p.Op ≤ 15) ∨ p.Op = 16 ∨ (p.Op = 17 ∨ p.Op = 18) ∨ p.Op = 19 ∨ p.Op = 20 ∨ p.Op = 21 := by unfold VP at h; omega
  rcases this with a | a | a | a | a | a | a
  · exact enc_R p h a
  · exact enc_I p h a
  · exact enc_S p h a
  · exact enc_B p h a
  · exact enc_U p h a
  · exact enc_J p h a
  · exact enc_E p h a

/-- both encoders give the same -/
theorem encode_eq (p : gInstr) : ∃ e b, i_InstrEncode p = some (e, b) ∧ s_InstrEncode p = some (e, b) ∧ 0 ≤ e ∧ e < 4294967296 := by
  by_cases h : VP p
  · obtain ⟨e, h1, h2, h3, _⟩ := enc_ok p h
    exact ⟨e, true, h1, h2, h3⟩
  · have hv : decide (VP p) = false := by simpa using h
    refine ⟨0, false, ?_, ?_, by decide, by decide⟩
    · unfold i_InstrEncode
      rw [ivalid, hv, bind_some', if_pos (show bnot false = true from rfl)]
    · unfold s_InstrEncode
      rw [svalid, hv, bind_some', if_pos (show bnot false = true from rfl)]
end Go.Abs
