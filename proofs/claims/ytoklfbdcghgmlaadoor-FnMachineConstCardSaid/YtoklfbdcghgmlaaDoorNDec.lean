/- The machine at the instructions that load a word: they are decoded and run. -/
import Derived.Test.YtoklfbdcghgmlaaDoorNEnc4
import Derived.Test.YtoklfbdcghgmlaaDoorNWordsC
import Derived.Test.YtoklfbdcghgmlaaDoorNPlIC
set_option linter.unusedSimpArgs false
set_option linter.unusedVariables false
set_option maxHeartbeats 4000000
set_option maxRecDepth 20000
namespace Go.Abs
open Go

theorem sxK (u : Int) (m : Nat) (b h : Int) (hb : (2 : Int) ^ m = b) (hh : (2 : Int) ^ (m - 1) = h) (hm : 1 ≤ m ∧ m ≤ 32) (hb2 : b ≤ 4294967296) (hu : 0 ≤ u ∧ u < b) : i_SignExtend u (m : Int) = some (if u ≥ h then u - b else u) := by
 rw [signExtend_eq]
 have e1 : isub .i64 b 1 = b - 1 := isub_eq _ _ (by omega)
 have e2 : isub .i64 (m : Int) 1 = ((m - 1 : Nat) : Int) := by rw [isub_eq _ _ (by omega)]; omega
 unfold s_SignExtend
 simp only [in6, bind_some', power_eq m (by omega), hb, e1, e2, power_eq (m - 1) (by omega), hh]
 have g1 : (ige (m : Int) 1 && ile (m : Int) 32) = true := by simp [ige, ile]; omega
 have g2 : (ige u 0 && ile u (b - 1)) = true := by simp [ige, ile]; omega
 rw [g1]
 simp only [tt, Bool.false_eq_true, if_false, bind_some', g2]
 by_cases hx : u ≥ h
 ·
  rw [if_pos (by rw [ige_iff]; exact hx), if_pos hx, isub_eq _ _ (by omega)]
 ·
  rw [if_neg (by rw [ige_iff]; exact hx), if_neg hx]

theorem and127 (e : Int) (h : 0 ≤ e ∧ e < 4294967296) : iand .i64 e 127 = e % 128 := by
 rw [iand_eq e 127 h.1 (by omega) (by decide) (by decide)]
 obtain ⟨n, rfl⟩ := Int.eq_ofNat_of_zero_le h.1
 show (((n : Int).toNat &&& 127 : Nat) : Int) = (n : Int) % 128
 rw [Int.toNat_natCast, show (127 : Nat) = 2 ^ 7 - 1 from rfl, Nat.and_two_pow_sub_one_eq_mod]
 omega

/-- a row of another code is passed by -/
theorem dec_next (e : Int) (z : gInstr) (k : Int) (hk : 1 ≤ k ∧ k ≤ 21) (h : 0 ≤ e ∧ e < 4294967296) (hr : ∃ r : gInstrRow, idx instrTab (isub .i64 k 1) = some r ∧ r.opcode ≠ e % 128) : i_InstrDecode_L1 e (k, z) = some (.next (k + 1, z)) := by
 obtain ⟨r, h1, h2⟩ := hr
 unfold i_InstrDecode_L1
 dsimp only
 rw [if_pos (by rw [ile_iff]; exact hk.2), h1, bind_some']
 have : i_instrRow_matches r k e = some false := by
  unfold i_instrRow_matches
  rw [and127 e h, if_pos (by rw [ine_iff]; exact h2)]
 rw [this, bind_some', if_pos (by rfl), iadd_eq _ _ (by omega)]

theorem isUns (e : Int) (h : 0 ≤ e ∧ e < 4294967296) : i_isUnsigned e = some true := by
 unfold i_isUnsigned
 rw [if_and, bind_some']
 congr 1; simp [ige, ilt]; omega

/-- what 'addi' is as a word -/
def wAddi (rd rs imm : Int) : Int := imm % 4096 * 1048576 + rs * 32768 + rd * 128 + 19
theorem addi_ok (rd rs imm : Int) (hd : 0 ≤ rd ∧ rd < 32) (hs : 0 ≤ rs ∧ rs < 32) (hi : -2048 ≤ imm ∧ imm ≤ 2047) :
  i_InstrEncode ⟨12, rd, rs, 0, imm⟩ = some (wAddi rd rs imm, true) ∧ (0 ≤ wAddi rd rs imm ∧ wAddi rd rs imm < 4294967296) ∧ i_InstrDecode (wAddi rd rs imm) = some (⟨12, rd, rs, 0, imm⟩, true) := by
 have hv : VP ⟨12, rd, rs, 0, imm⟩ := by unfold VP; simp; omega
 have he : i_InstrEncode ⟨12, rd, rs, 0, imm⟩ = some (wAddi rd rs imm, true) := by
  obtain ⟨e, h1, h2, h3⟩ := enc_ok _ hv
  rw [h1]
  congr 2
  -- the reference's sum
  have hd' : decide (VP ⟨12, rd, rs, 0, imm⟩) = true := by simpa using hv
  unfold s_InstrEncode at h2
  rw [svalid, hd'] at h2
  have hm := mid42 ⟨12, rd, rs, 0, imm⟩ 19 0 hs rfl (by decide) (by decide)
  have hq : s_l42Mod imm 4096 = some (if imm < 0 then imm + 4096 else imm) := mod42 _ _ (by omega) (by omega)
  have hx : (if imm < 0 then imm + 4096 else imm) = imm % 4096 := by split <;> omega
  rw [hx] at hq
  have d1 : s_l42Put (imm % 4096) 20 = some (imm % 4096 * 1048576) := putK 20 1048576 (by decide) (by decide) (by omega)
  have d2 : s_l42Put rd 7 = some (rd * 128) := putK 7 128 (by decide) (by decide) (by omega)
  unfold s_l42Encode s_l42Imm at h2
  dsimp only at hm h2
  simp -implicitDefEqProofs only [bind_some', tt, Bool.false_eq_true, if_false, hq, d1, d2, hm, ieq, Int.reduceBEq, if_true] at h2
  simp (disch := omega) only [iadd64, Option.some.injEq, Prod.mk.injEq, and_true] at h2
  unfold wAddi; omega
 have hb : 0 ≤ wAddi rd rs imm ∧ wAddi rd rs imm < 4294967296 := by unfold wAddi; omega
 refine ⟨he, hb, ?_⟩
 have e7 : wAddi rd rs imm % 128 = 19 := by unfold wAddi; omega
 have row : ∀ k : Int, 1 ≤ k → k ≤ 11 → ∃ r : gInstrRow, idx instrTab (isub .i64 k 1) = some r ∧ r.opcode ≠ wAddi rd rs imm % 128 := by
  intro k h1 h2
  obtain ⟨nm, f3, f7, g1, _⟩ := row_R k ⟨h1, h2⟩
  exact ⟨_, g1, by rw [e7]; show (51 : Int) ≠ 19; decide⟩
 have step : ∀ k : Int, 1 ≤ k → k ≤ 11 → ∀ z, loopM (i_InstrDecode_L1 (wAddi rd rs imm)) (k, z) = loopM (i_InstrDecode_L1 (wAddi rd rs imm)) (k + 1, z) := fun k h1 h2 z => loopM_next (dec_next _ z k ⟨h1, by omega⟩ hb (row k h1 h2))
 have go : ∀ z, loopM (i_InstrDecode_L1 (wAddi rd rs imm)) (1, z) = loopM (i_InstrDecode_L1 (wAddi rd rs imm)) (12, z) := by
  intro z
  rw [step 1 (by decide) (by decide), step (1 + 1) (by decide) (by decide), step (1 + 1 + 1) (by decide) (by decide), step (1 + 1 + 1 + 1) (by decide) (by decide), step (1 + 1 + 1 + 1 + 1) (by decide) (by decide), step (1 + 1 + 1 + 1 + 1 + 1) (by decide) (by decide),
   step (1 + 1 + 1 + 1 + 1 + 1 + 1) (by decide) (by decide), step (1 + 1 + 1 + 1 + 1 + 1 + 1 + 1) (by decide) (by decide), step (1 + 1 + 1 + 1 + 1 + 1 + 1 + 1 + 1) (by decide) (by decide), step (1 + 1 + 1 + 1 + 1 + 1 + 1 + 1 + 1 + 1) (by decide) (by decide), step (1 + 1 + 1 + 1 + 1 + 1 + 1 + 1 + 1 + 1 + 1) (by decide) (by decide)]
  rfl
 have fin : ∀ z, i_InstrDecode_L1 (wAddi rd rs imm) (12, z) = some (.done (.inr (⟨12, rd, rs, 0, imm⟩, true))) := by
  intro z
  have bK : ∀ (l m : Nat) (a b v : Int), (2 : Int) ^ l = a → (2 : Int) ^ m = b → l ≤ 31 ∧ 1 ≤ m ∧ m + l ≤ 32 → wAddi rd rs imm / a % b = v → i_Bits (wAddi rd rs imm) (l : Int) (m : Int) = some v := by
   intro l m a b v ha hb' hl hv
   rw [bits_eq, bitsK _ l m a b ha hb' hb hl, hv]
  have t1 : idx instrTab (isub .i64 12 1) = some ⟨⟨#[97, 100, 100, 105]⟩, 19, 0, 0⟩ := rfl
  have f12 : i_formatOf 12 = some 73 := rfl
  have q3 : i_Bits (wAddi rd rs imm) 12 3 = some 0 := bK 12 3 4096 8 0 (by decide) (by decide) (by decide) (by unfold wAddi; omega)
  have qd : i_Bits (wAddi rd rs imm) 7 5 = some rd := bK 7 5 128 32 rd (by decide) (by decide) (by decide) (by unfold wAddi; omega)
  have qs : i_Bits (wAddi rd rs imm) 15 5 = some rs := bK 15 5 32768 32 rs (by decide) (by decide) (by decide) (by unfold wAddi; omega)
  have qt : i_Bits (wAddi rd rs imm) 20 5 = some (wAddi rd rs imm / 1048576 % 32) := bK 20 5 1048576 32 _ (by decide) (by decide) (by decide) rfl
  have qi : i_Bits (wAddi rd rs imm) 20 12 = some (imm % 4096) := bK 20 12 1048576 4096 _ (by decide) (by decide) (by decide) (by unfold wAddi; omega)
  have sx : i_SignExtend (imm % 4096) 12 = some (if imm % 4096 ≥ 2048 then imm % 4096 - 4096 else imm % 4096) := sxK _ 12 4096 2048 (by decide) (by decide) (by decide) (by decide) (by omega)
  have sx2 : (if imm % 4096 ≥ 2048 then imm % 4096 - 4096 else imm % 4096) = imm := by split <;> omega
  rw [sx2] at sx
  have mt : i_instrRow_matches ⟨⟨#[97, 100, 100, 105]⟩, 19, 0, 0⟩ 12 (wAddi rd rs imm) = some true := by
   unfold i_instrRow_matches
   dsimp only
   rw [and127 _ hb, e7]
   simp -implicitDefEqProofs only [bind_some', f12, q3, ieq, ine, Int.reduceBEq, Int.reduceBNe, if_true, Bool.false_eq_true, if_false]
  have da : i_decodeAs 12 (wAddi rd rs imm) = some ⟨12, rd, rs, 0, imm⟩ := by
   unfold i_decodeAs
   simp -implicitDefEqProofs only [bind_some', f12, qd, qs, qt, qi, sx, ieq, Int.reduceBEq, if_true, Bool.false_eq_true, if_false]
  have ie : ieq (wAddi rd rs imm) (wAddi rd rs imm) = true := by rw [ieq_iff]
  unfold i_InstrDecode_L1
  dsimp only
  rw [if_pos (by decide), t1, bind_some', mt, bind_some', if_neg (by decide), da, bind_some', he, bind_some', if_pos rfl, bind_some', ie, if_pos rfl]
 unfold i_InstrDecode
 rw [isUns _ hb, bind_some', if_neg (by decide), go, loopM_done (fin _)]
 rfl

/-- what 'lui' is as a word -/
def wLui (rd imm : Int) : Int := imm * 4096 + rd * 128 + 55
theorem lui_ok (rd imm : Int) (hd : 0 ≤ rd ∧ rd < 32) (hi : 0 ≤ imm ∧ imm < 1048576) :
  i_InstrEncode ⟨19, rd, 0, 0, imm⟩ = some (wLui rd imm, true) ∧ (0 ≤ wLui rd imm ∧ wLui rd imm < 4294967296) ∧ i_InstrDecode (wLui rd imm) = some (⟨19, rd, 0, 0, imm⟩, true) := by
 have hv : VP ⟨19, rd, 0, 0, imm⟩ := by unfold VP; simp; omega
 have he : i_InstrEncode ⟨19, rd, 0, 0, imm⟩ = some (wLui rd imm, true) := by
  obtain ⟨e, h1, h2, h3⟩ := enc_ok _ hv
  rw [h1]
  congr 2
  have hd' : decide (VP ⟨19, rd, 0, 0, imm⟩) = true := by simpa using hv
  unfold s_InstrEncode at h2
  rw [svalid, hd'] at h2
  have d1 : s_l42Put imm 12 = some (imm * 4096) := putK 12 4096 (by decide) (by decide) (by omega)
  have d2 : s_l42Put rd 7 = some (rd * 128) := putK 7 128 (by decide) (by decide) (by omega)
  unfold s_l42Encode at h2
  dsimp only at h2
  simp -implicitDefEqProofs only [bind_some', tt, Bool.false_eq_true, if_false, d1, d2, ieq, Int.reduceBEq, if_true] at h2
  simp (disch := omega) only [iadd64, Option.some.injEq, Prod.mk.injEq, and_true] at h2
  unfold wLui; omega
 have hb : 0 ≤ wLui rd imm ∧ wLui rd imm < 4294967296 := by unfold wLui; omega
 refine ⟨he, hb, ?_⟩
 have e7 : wLui rd imm % 128 = 55 := by unfold wLui; omega
 have row : ∀ k : Int, 1 ≤ k → k ≤ 18 → ∃ r : gInstrRow, idx instrTab (isub .i64 k 1) = some r ∧ r.opcode ≠ wLui rd imm % 128 := by
  intro k h1 h2
  rw [e7]
  obtain rfl | rfl | rfl | rfl | rfl | rfl | rfl | rfl | rfl | rfl | rfl | rfl | rfl | rfl | rfl | rfl | rfl | rfl : k = 1 ∨ k = 2 ∨ k = 3 ∨ k = 4 ∨ k = 5 ∨ k = 6 ∨ k = 7 ∨ k = 8 ∨ k = 9 ∨ k = 10 ∨ k = 11 ∨ k = 12 ∨ k = 13 ∨ k = 14 ∨ k = 15 ∨ k = 16 ∨ k = 17 ∨ k = 18 := by omega
  all_goals exact ⟨_, rfl, by decide⟩
 have go : ∀ (n : Nat) (z : gInstr), n ≤ 18 → loopM (i_InstrDecode_L1 (wLui rd imm)) (1, z) = loopM (i_InstrDecode_L1 (wLui rd imm)) ((n : Int) + 1, z) := by
  intro n z
  induction n with
  | zero => intro _; rfl
  | succ n ih =>
   intro hn
   rw [ih (by omega), loopM_next (dec_next _ z ((n : Int) + 1) ⟨by omega, by omega⟩ hb (row _ (by omega) (by omega)))]
   rfl
 have fin : ∀ z, i_InstrDecode_L1 (wLui rd imm) (19, z) = some (.done (.inr (⟨19, rd, 0, 0, imm⟩, true))) := by
  intro z
  have bK : ∀ (l m : Nat) (a b v : Int), (2 : Int) ^ l = a → (2 : Int) ^ m = b → l ≤ 31 ∧ 1 ≤ m ∧ m + l ≤ 32 → wLui rd imm / a % b = v → i_Bits (wLui rd imm) (l : Int) (m : Int) = some v := by
   intro l m a b v ha hb' hl hv
   rw [bits_eq, bitsK _ l m a b ha hb' hb hl, hv]
  have t1 : idx instrTab (isub .i64 19 1) = some ⟨⟨#[108, 117, 105]⟩, 55, 0, 0⟩ := rfl
  have f19 : i_formatOf 19 = some 85 := rfl
  have qd : i_Bits (wLui rd imm) 7 5 = some rd := bK 7 5 128 32 rd (by decide) (by decide) (by decide) (by unfold wLui; omega)
  have qs : i_Bits (wLui rd imm) 15 5 = some (wLui rd imm / 32768 % 32) := bK 15 5 32768 32 _ (by decide) (by decide) (by decide) rfl
  have qt : i_Bits (wLui rd imm) 20 5 = some (wLui rd imm / 1048576 % 32) := bK 20 5 1048576 32 _ (by decide) (by decide) (by decide) rfl
  have qi : i_Bits (wLui rd imm) 12 20 = some imm := bK 12 20 4096 1048576 _ (by decide) (by decide) (by decide) (by unfold wLui; omega)
  have mt : i_instrRow_matches ⟨⟨#[108, 117, 105]⟩, 55, 0, 0⟩ 19 (wLui rd imm) = some true := by
   unfold i_instrRow_matches
   dsimp only
   rw [and127 _ hb, e7]
   simp -implicitDefEqProofs only [bind_some', f19, ieq, ine, Int.reduceBEq, Int.reduceBNe, if_true, Bool.false_eq_true, if_false]
  have da : i_decodeAs 19 (wLui rd imm) = some ⟨19, rd, 0, 0, imm⟩ := by
   unfold i_decodeAs
   simp -implicitDefEqProofs only [bind_some', f19, qd, qs, qt, qi, ieq, Int.reduceBEq, if_true, Bool.false_eq_true, if_false]
  have ie : ieq (wLui rd imm) (wLui rd imm) = true := by rw [ieq_iff]
  unfold i_InstrDecode_L1
  dsimp only
  rw [if_pos (by decide), t1, bind_some', mt, bind_some', if_neg (by decide), da, bind_some', he, bind_some', if_pos rfl, bind_some', ie, if_pos rfl]
 unfold i_InstrDecode
 rw [isUns _ hb, bind_some', if_neg (by decide), go 18 _ (by omega), show ((18 : Nat) : Int) + 1 = 19 from rfl, loopM_done (fin _)]
 rfl
end Go.Abs
