/- An instruction as a word: what both encoders give. -/
import Derived.Test.YtlcilhmkbmgkeaaGreatDoorNWordsN
set_option linter.unusedSimpArgs false
set_option linter.unusedVariables false
set_option maxHeartbeats 4000000
set_option maxRecDepth 20000
namespace Go.Abs
open Go

theorem in6 (x a b : Int) : s_l6In x a b = some (ige x a && ile x b) := by
 unfold s_l6In; rw [if_and, bind_some']
theorem mreg (x : Int) : i_isMachineReg x = some (ige x 0 && ilt x 32) := by
 unfold i_isMachineReg; rw [if_and, bind_some']
theorem rem2 (x : Int) : remx x 2 = some (x.tmod 2) := rfl
theorem i0 : imul .i64 0 31 = 0 := rfl

def VP (p : gInstr) : Prop :=
 (1 ≤ p.Op ∧ p.Op ≤ 11 ∧ (0 ≤ p.Rd ∧ p.Rd ≤ 31) ∧ (0 ≤ p.Rs ∧ p.Rs ≤ 31) ∧ (0 ≤ p.Rt ∧ p.Rt ≤ 31) ∧ p.Imm = 0) ∨
 (12 ≤ p.Op ∧ p.Op ≤ 15 ∧ (0 ≤ p.Rd ∧ p.Rd ≤ 31) ∧ (0 ≤ p.Rs ∧ p.Rs ≤ 31) ∧ p.Rt = 0 ∧ -2048 ≤ p.Imm ∧ p.Imm ≤ 2047) ∨
 (p.Op = 16 ∧ p.Rd = 0 ∧ (0 ≤ p.Rs ∧ p.Rs ≤ 31) ∧ (0 ≤ p.Rt ∧ p.Rt ≤ 31) ∧ -2048 ≤ p.Imm ∧ p.Imm ≤ 2047) ∨
 ((p.Op = 17 ∨ p.Op = 18) ∧ p.Rd = 0 ∧ (0 ≤ p.Rs ∧ p.Rs ≤ 31) ∧ (0 ≤ p.Rt ∧ p.Rt ≤ 31) ∧ -4096 ≤ p.Imm ∧ p.Imm ≤ 4094 ∧ p.Imm.tmod 2 = 0) ∨
 (p.Op = 19 ∧ (0 ≤ p.Rd ∧ p.Rd ≤ 31) ∧ p.Rs = 0 ∧ p.Rt = 0 ∧ 0 ≤ p.Imm ∧ p.Imm ≤ 1048575) ∨
 (p.Op = 20 ∧ (0 ≤ p.Rd ∧ p.Rd ≤ 31) ∧ p.Rs = 0 ∧ p.Rt = 0 ∧ -1048576 ≤ p.Imm ∧ p.Imm ≤ 1048574 ∧ p.Imm.tmod 2 = 0) ∨
 (p.Op = 21 ∧ p.Rd = 0 ∧ p.Rs = 0 ∧ p.Rt = 0 ∧ p.Imm = 0)

theorem bool_of {b : Bool} {P : Prop} [Decidable P] (h : b = true ↔ P) : some b = some (decide P) := by
 congr 1; rw [Bool.eq_iff_iff, h]; simp

instance (p : gInstr) : Decidable (VP p) := by unfold VP; infer_instance

theorem ite_some {c : Prop} [Decidable c] {α : Type} (a b : α) : (if c then some a else some b) = some (if c then a else b) := by split <;> rfl

theorem fmt (op : Int) : i_formatOf op = some (if 1 ≤ op ∧ op ≤ 11 then 82 else if 12 ≤ op ∧ op ≤ 15 then 73 else if op = 16 then 83 else if op = 17 ∨ op = 18 then 66 else if op = 19 then 85 else if op = 20 then 74 else if op = 21 then 69 else 32) := by
 unfold i_formatOf
 simp only [bind_some', if_and, if_or]
 simp only [ite_some]
 simp only [ige, ile, ieq, Bool.and_eq_true, Bool.or_eq_true, decide_eq_true_eq, beq_iff_eq, ge_iff_le]

theorem ivalid (p : gInstr) : i_InstrValid p = some (decide (VP p)) := by
 unfold i_InstrValid
 simp only [mreg, fmt, rem2, bind_some', if_and, if_or]
 simp only [ite_some]
 refine bool_of ?_
 unfold VP
 generalize p.Imm.tmod 2 = e
 obtain ⟨op, rd, rs, rt, imm⟩ := p
 simp only [ige, ile, igt, ilt, ieq, eqD, gInstr.mk.injEq]
 by_cases h1 : 1 ≤ op ∧ op ≤ 11
 ·rw [if_pos h1]; simp; omega
 rw [if_neg h1]
 by_cases h2 : 12 ≤ op ∧ op ≤ 15
 ·rw [if_pos h2]; simp; omega
 rw [if_neg h2]
 by_cases h3 : op = 16
 ·rw [if_pos h3]; simp; omega
 rw [if_neg h3]
 by_cases h4 : op = 17 ∨ op = 18
 ·rw [if_pos h4]; simp; omega
 rw [if_neg h4]
 by_cases h5 : op = 19
 ·rw [if_pos h5]; simp; omega
 rw [if_neg h5]
 by_cases h6 : op = 20
 ·rw [if_pos h6]; simp; omega
 rw [if_neg h6]
 by_cases h7 : op = 21
 ·rw [if_pos h7]; simp; omega
 rw [if_neg h7]
 simp; omega

def Wn (m : Nat) (x : Int) : Prop := ∃ n : Nat, x = (n : Int) ∧ n &&& m = n

theorem Wn.le {m : Nat} {x : Int} (h : Wn m x) : 0 ≤ x ∧ x ≤ m := by
 obtain ⟨n, rfl, hn⟩ := h
 have : n ≤ m := by rw [← hn]; exact Nat.and_le_right
 omega

theorem or_add_nat {x y : Nat} (hx : x < 2 ^ 62) (hy : y < 2 ^ 62) (h : x &&& y = 0) : x ||| y = x + y := by
 have := BitVec.add_eq_or_of_and_eq_zero (BitVec.ofNat 64 x) (BitVec.ofNat 64 y) (by
  apply BitVec.eq_of_toNat_eq
  rw [BitVec.toNat_and, BitVec.toNat_ofNat, BitVec.toNat_ofNat, Nat.mod_eq_of_lt (by omega), Nat.mod_eq_of_lt (by omega), h]; rfl)
 have := congrArg BitVec.toNat this
 rw [BitVec.toNat_add, BitVec.toNat_or, BitVec.toNat_ofNat, BitVec.toNat_ofNat, Nat.mod_eq_of_lt (a := x) (by omega), Nat.mod_eq_of_lt (a := y) (by omega), Nat.mod_eq_of_lt (by omega)] at this
 exact this.symm

theorem iorW {m n : Nat} {x y : Int} (hx : Wn m x) (hy : Wn n y) (h : m &&& n = 0) (hb : m ||| n < 2 ^ 62) : ior .i64 x y = x + y ∧ Wn (m ||| n) (x + y) := by
 have bx := hx.le; have by' := hy.le
 have hm : m ≤ m ||| n := Nat.left_le_or
 have hn : n ≤ m ||| n := Nat.right_le_or
 obtain ⟨a, rfl, ha⟩ := hx
 obtain ⟨b, rfl, hb'⟩ := hy
 have hz : a &&& b = 0 := by
  rw [← ha, ← hb']
  rw [Nat.and_assoc, show m &&& (b &&& n) = (m &&& n) &&& b by rw [Nat.and_comm b n, ← Nat.and_assoc], h]
  simp
 have e := or_add_nat (x := a) (y := b) (by omega) (by omega) hz
 have e2 : ior .i64 (a : Int) (b : Int) = ((a ||| b : Nat) : Int) := by
  have h0 : (a ||| b) < 2 ^ 62 := by rw [e]; have := or_add_nat (x := m) (y := n) (by omega) (by omega) h; omega
  unfold ior
  show IntKind.i64.wrap ((BitVec.ofInt 64 (a : Int) ||| BitVec.ofInt 64 (b : Int)).toNat : Int) = _
  rw [BitVec.toNat_or, bv_ofInt _ (by omega) (by omega), bv_ofInt _ (by omega) (by omega)]
  simp only [Int.toNat_natCast]
  exact wr64 _ (by omega)
 refine ⟨by rw [e2, e]; simp, a + b, by simp, ?_⟩
 rw [← e, Nat.and_or_distrib_left]
 have q1 : (a ||| b) &&& m = a := by
  rw [Nat.and_or_distrib_right, ha, ← hb', Nat.and_assoc, Nat.and_comm n m, h]; simp
 have q2 : (a ||| b) &&& n = b := by
  rw [Nat.and_or_distrib_right, hb', ← ha, Nat.and_assoc, h]; simp
 rw [q1, q2]

theorem fieldW (x : Int) (k s : Nat) (b c : Int) (m : Nat) (hb : (2 : Int) ^ k = b) (hc : (2 : Int) ^ s = c) (hm : (2 ^ k - 1) <<< s = m) (h : 0 ≤ x ∧ x < b) : Wn m (x * c) := by
 obtain ⟨n, rfl⟩ := Int.eq_ofNat_of_zero_le h.1
 refine ⟨n <<< s, ?_, ?_⟩
 ·rw [Nat.shiftLeft_eq, ← hc]; simp
 ·rw [← hm, ← Nat.shiftLeft_and_distrib, Nat.and_two_pow_sub_one_eq_mod, Nat.mod_eq_of_lt]
  have := h.2
  rw [← hb] at this
  exact_mod_cast this

theorem shlK {x : Int} (n : Nat) (c : Int) (hn : n ≤ 62) (hc : (2 : Int) ^ n = c) (h : 0 ≤ x * c ∧ x * c ≤ 4611686018427387904) : shlx .i64 x (n : Int) = some (x * c) := by
 unfold shlx
 rw [if_neg (by omega)]
 have : min (n : Int).toNat IntKind.i64.bits = n := by
  show min (n : Int).toNat 64 = n
  simp; omega
 rw [this, hc, wr64 _ (by omega)]

theorem putK {x : Int} (n : Nat) (c : Int) (hn : n ≤ 62) (hc : (2 : Int) ^ n = c) (h : 0 ≤ x * c ∧ x * c ≤ 4611686018427387904) : s_l42Put x (n : Int) = some (x * c) := by
 unfold s_l42Put
 rw [power_eq n hn, bind_some', hc, imul_eq _ _ (by omega)]

theorem bitsK (u : Int) (l m : Nat) (a b : Int) (ha : (2 : Int) ^ l = a) (hb : (2 : Int) ^ m = b) (hu : 0 ≤ u ∧ u < 4294967296) (h : l ≤ 31 ∧ 1 ≤ m ∧ m + l ≤ 32) : s_Bits u (l : Int) (m : Int) = some (u / a % b) := by
 have pa : 0 < a := by rw [← ha]; exact Int.pow_pos (by decide)
 have pb : 0 < b := by rw [← hb]; exact Int.pow_pos (by decide)
 have e : isub .i64 32 (l : Int) = 32 - l := isub_eq _ _ (by omega)
 unfold s_Bits
 simp only [in6, bind_some', if_or, e]
 rw [if_neg, power_eq l (by omega), bind_some', ha, power_eq m (by omega)]
 ·rw [quox_eq u a hu.1 (by omega) pa, bind_some', bind_some', hb, remx_eq _ _ (Int.ediv_nonneg hu.1 (by omega)) pb]
  rfl
 ·simp [bnot, ige, ile]; omega
theorem ibitsK (u : Int) (l m s : Nat) (a b c : Int) (ha : (2 : Int) ^ l = a) (hb : (2 : Int) ^ m = b) (hc : (2 : Int) ^ s = c) (hu : 0 ≤ u ∧ u < 4294967296) (h : l ≤ 31 ∧ 1 ≤ m ∧ m + l ≤ 32 ∧ s ≤ 31) (hx : (u / a % b) * c ≤ 4611686018427387904) :
  i_InstrEncode_1 (l : Int) (m : Int) (s : Int) u = some (u / a % b * c) := by
 have pb : 0 < b := by rw [← hb]; exact Int.pow_pos (by decide)
 have pc : 0 < c := by rw [← hc]; exact Int.pow_pos (by decide)
 unfold i_InstrEncode_1
 rw [bits_eq, bitsK u l m a b ha hb hu ⟨h.1, h.2.1, h.2.2.1⟩, bind_some', shlK s c (by omega) hc ⟨Int.mul_nonneg (Int.emod_nonneg _ (by omega)) (by omega), hx⟩, bind_some']

theorem mod42 (x p : Int) (h : -1000000000 ≤ x ∧ x ≤ 1000000000) (hp : 0 ≤ p ∧ p ≤ 1000000000) : s_l42Mod x p = some (if x < 0 then x + p else x) := by
 unfold s_l42Mod
 by_cases hx : x < 0
 ·rw [if_pos (by rw [ilt_iff]; exact hx), if_pos hx, iadd_eq _ _ (by omega)]
 ·rw [if_neg (by rw [ilt_iff]; exact hx), if_neg hx]

def T3 (op : Int) : Int := ([0, 0, 0, 4, 6, 7, 6, 4, 1, 5, 2, 0, 3, 2, 0, 2, 0, 1, 0, 0, 0] : List Int).getD (op - 1).toNat 0
def T7 (op : Int) : Int := ([0, 32, 1, 1, 1, 0, 0, 0, 0, 32, 0] : List Int).getD (op - 1).toNat 0
def OPC (op : Int) : Int := ([51, 51, 51, 51, 51, 51, 51, 51, 51, 51, 51, 19, 19, 3, 103, 35, 99, 99, 55, 111, 115] : List Int).getD (op - 1).toNat 0
def encZ (p : gInstr) : Int :=
 if p.Op ≤ 11 then T7 p.Op * 33554432 + p.Rt * 1048576 + p.Rs * 32768 + T3 p.Op * 4096 + p.Rd * 128 + 51
 else if p.Op ≤ 15 then p.Imm % 4096 * 1048576 + p.Rs * 32768 + T3 p.Op * 4096 + p.Rd * 128 + OPC p.Op
 else if p.Op = 16 then p.Imm / 32 % 128 * 33554432 + p.Rt * 1048576 + p.Rs * 32768 + 2 * 4096 + p.Imm % 32 * 128 + 35
 else if p.Op ≤ 18 then p.Imm / 4096 % 2 * 2147483648 + p.Imm / 32 % 64 * 33554432 + p.Rt * 1048576 + p.Rs * 32768 + T3 p.Op * 4096 + p.Imm / 2 % 16 * 256 + p.Imm / 2048 % 2 * 128 + 99
 else if p.Op = 19 then p.Imm * 4096 + p.Rd * 128 + 55
 else if p.Op = 20 then p.Imm / 1048576 % 2 * 2147483648 + p.Imm / 2 % 1024 * 2097152 + p.Imm / 2048 % 2 * 1048576 + p.Imm / 4096 % 256 * 4096 + p.Rd * 128 + 111
 else 115
def EncOk (p : gInstr) : Prop := ∃ e, i_InstrEncode p = some (e, true) ∧ s_l42Encode p = some e ∧ (0 ≤ e ∧ e < 4294967296) ∧ e = encZ p

theorem row_R (op : Int) (h : 1 ≤ op ∧ op ≤ 11) : ∃ nm f3 f7, idx instrTab (isub .i64 op 1) = some ⟨nm, 51, f3, f7⟩ ∧ s_l42Three op = some f3 ∧ s_l42Seven op = some f7 ∧ (0 ≤ f3 ∧ f3 < 8) ∧ (0 ≤ f7 ∧ f7 < 128) ∧ f3 = T3 op ∧ f7 = T7 op := by
 obtain rfl | rfl | rfl | rfl | rfl | rfl | rfl | rfl | rfl | rfl | rfl : op = 1 ∨ op = 2 ∨ op = 3 ∨ op = 4 ∨ op = 5 ∨ op = 6 ∨ op = 7 ∨ op = 8 ∨ op = 9 ∨ op = 10 ∨ op = 11 := by omega
 all_goals exact ⟨_, _, _, rfl, rfl, rfl, by decide, by decide, rfl, rfl⟩

theorem nieq {a b : Int} (h : a ≠ b) : ieq a b = false := by simpa [ieq] using h
theorem tt : bnot true = false := rfl

theorem iadd64 {a b : Int} (h : 0 ≤ a ∧ a ≤ 4294967296000) (k : 0 ≤ b ∧ b ≤ 4294967296000) : iadd .i64 a b = a + b := iadd_eq _ _ (by omega)

theorem mid42 (p : gInstr) (c f3 : Int) (hs : 0 ≤ p.Rs ∧ p.Rs < 32) (h3 : s_l42Three p.Op = some f3) (b3 : 0 ≤ f3 ∧ f3 < 8) (hc : 0 ≤ c ∧ c < 128) : s_l42Mid p c = some (p.Rs * 32768 + f3 * 4096 + c) := by
 unfold s_l42Mid
 have e1 : s_l42Put p.Rs 15 = some (p.Rs * 32768) := putK 15 32768 (by decide) (by decide) (by omega)
 have e2 : s_l42Put f3 12 = some (f3 * 4096) := putK 12 4096 (by decide) (by decide) (by omega)
 rw [e1, h3]
 simp only [bind_some', e2]
 simp (disch := omega) only [iadd64]

theorem enc_R (p : gInstr) (h : VP p) (ho : 1 ≤ p.Op ∧ p.Op ≤ 11) : EncOk p := by
 have hv : decide (VP p) = true := by simpa using h
 obtain ⟨op, rd, rs, rt, imm⟩ := p
 unfold VP at h
 dsimp only at h ho
 generalize imm.tmod 2 = em at h
 have hd : 0 ≤ rd ∧ rd < 32 := by omega
 have hs : 0 ≤ rs ∧ rs < 32 := by omega
 have ht : 0 ≤ rt ∧ rt < 32 := by omega
 clear h
 obtain ⟨nm, f3, f7, t1, t2, t3, b3, b7, z3, z7⟩ := row_R op ho
 obtain ⟨u, hu, _⟩ := unsigned_ok imm
 have hf : i_formatOf op = some 82 := by rw [fmt, if_pos ho]
 have s20 : shlx .i64 rt 20 = some (rt * 1048576) := shlK 20 1048576 (by decide) (by decide) (by omega)
 have s15 : shlx .i64 rs 15 = some (rs * 32768) := shlK 15 32768 (by decide) (by decide) (by omega)
 have s12 : shlx .i64 f3 12 = some (f3 * 4096) := shlK 12 4096 (by decide) (by decide) (by omega)
 have s25 : shlx .i64 f7 25 = some (f7 * 33554432) := shlK 25 33554432 (by decide) (by decide) (by omega)
 have s7 : shlx .i64 rd 7 = some (rd * 128) := shlK 7 128 (by decide) (by decide) (by omega)
 have p20 : s_l42Put rt 20 = some (rt * 1048576) := putK 20 1048576 (by decide) (by decide) (by omega)
 have p25 : s_l42Put f7 25 = some (f7 * 33554432) := putK 25 33554432 (by decide) (by decide) (by omega)
 have p7 : s_l42Put rd 7 = some (rd * 128) := putK 7 128 (by decide) (by decide) (by omega)
 have w20 : Wn 32505856 (rt * 1048576) := fieldW rt 5 20 32 1048576 _ (by decide) (by decide) (by decide) ht
 have w15 : Wn 1015808 (rs * 32768) := fieldW rs 5 15 32 32768 _ (by decide) (by decide) (by decide) hs
 have w12 : Wn 28672 (f3 * 4096) := fieldW f3 3 12 8 4096 _ (by decide) (by decide) (by decide) b3
 have w25 : Wn 4261412864 (f7 * 33554432) := fieldW f7 7 25 128 33554432 _ (by decide) (by decide) (by decide) b7
 have w7 : Wn 3968 (rd * 128) := fieldW rd 5 7 32 128 _ (by decide) (by decide) (by decide) hd
 have w0 : Wn 51 51 := ⟨51, rfl, rfl⟩
 obtain ⟨e1, w1⟩ := iorW w20 w15 (by decide) (by decide)
 obtain ⟨e2, w2⟩ := iorW w1 w12 (by decide) (by decide)
 obtain ⟨e3, w3⟩ := iorW w2 w0 (by decide) (by decide)
 obtain ⟨e4, w4⟩ := iorW w25 w3 (by decide) (by decide)
 obtain ⟨e5, w5⟩ := iorW w4 w7 (by decide) (by decide)
 refine ⟨f7 * 33554432 + (rt * 1048576 + rs * 32768 + f3 * 4096 + 51) + rd * 128, ?_, ?_, by omega, ?_⟩
 rotate_left 2
 ·unfold encZ; dsimp only; rw [if_pos (by omega), ← z3, ← z7]; omega
 ·unfold i_InstrEncode
  rw [ivalid, hv]
  dsimp only
  simp -implicitDefEqProofs only [bind_some', tt, Bool.false_eq_true, if_false, t1, hu, s20, s15, s12, hf, s25, s7, e1, e2, e3, e4, e5, ieq, Int.reduceBEq, if_true]
 ·skip
  have n12 : ieq op 12 = false := nieq (by omega)
  have n13 : ieq op 13 = false := nieq (by omega)
  have n14 : ieq op 14 = false := nieq (by omega)
  have n15 : ieq op 15 = false := nieq (by omega)
  have n16 : ieq op 16 = false := nieq (by omega)
  have n17 : ieq op 17 = false := nieq (by omega)
  have n18 : ieq op 18 = false := nieq (by omega)
  have n19 : ieq op 19 = false := nieq (by omega)
  have n20 : ieq op 20 = false := nieq (by omega)
  have n21 : ieq op 21 = false := nieq (by omega)
  have hm := mid42 ⟨op, rd, rs, rt, imm⟩ 51 f3 hs t2 b3 (by decide)
  dsimp only at hm
  unfold s_l42Encode
  simp only [bind_some', tt, Bool.false_eq_true, if_false, n12, n13, n14, n15, n16, n17, n18, n19, n20, n21, t3, p25, p20, hm, p7]
  simp (disch := omega) only [iadd64]
  simp only [Option.some.injEq, Prod.mk.injEq, and_true]
  omega

theorem uns (imm : Int) (h : -2147483648 ≤ imm ∧ imm ≤ 2147483647) : ∃ u, i_Unsigned imm = some u ∧ (0 ≤ u ∧ u < 4294967296) ∧ u = imm % 4294967296 := by
 obtain ⟨u, hu, h1, h2, h3⟩ := unsigned_ok imm
 have := h3 h
 exact ⟨u, hu, by omega, this⟩

theorem row_I (op : Int) (h : 12 ≤ op ∧ op ≤ 15) : ∃ nm oc f3, idx instrTab (isub .i64 op 1) = some ⟨nm, oc, f3, 0⟩ ∧ s_l42Three op = some f3 ∧ (0 ≤ f3 ∧ f3 < 8) ∧ Wn 127 oc ∧ (∀ i : gInstr, i.Op = op → s_l42Encode i = s_l42Imm i oc) ∧ f3 = T3 op ∧ oc = OPC op := by
 obtain rfl | rfl | rfl | rfl : op = 12 ∨ op = 13 ∨ op = 14 ∨ op = 15 := by omega
 all_goals
  refine ⟨_, _, _, rfl, rfl, by decide, ⟨_, rfl, rfl⟩, fun i hi => ?_, rfl, rfl⟩
  unfold s_l42Encode
  rw [hi]
  simp only [bind_id]
  rfl

theorem enc_I (p : gInstr) (h : VP p) (ho : 12 ≤ p.Op ∧ p.Op ≤ 15) : EncOk p := by
 have hv : decide (VP p) = true := by simpa using h
 obtain ⟨op, rd, rs, rt, imm⟩ := p
 unfold VP at h
 dsimp only at h ho
 generalize imm.tmod 2 = em at h
 have hd : 0 ≤ rd ∧ rd < 32 := by omega
 have hs : 0 ≤ rs ∧ rs < 32 := by omega
 have ht : rt = 0 := by omega
 have hi : -2048 ≤ imm ∧ imm ≤ 2047 := by omega
 subst ht
 clear h
 obtain ⟨nm, oc, f3, t1, t2, b3, wo, he, z3, zo⟩ := row_I op ho
 have bo := wo.le
 obtain ⟨u, hu, bu, eu⟩ := uns imm (by omega)
 have hf : i_formatOf op = some 73 := by rw [fmt, if_neg (by omega), if_pos ho]
 have s20 : shlx .i64 0 20 = some (0 * 1048576) := shlK 20 1048576 (by decide) (by decide) (by omega)
 have s15 : shlx .i64 rs 15 = some (rs * 32768) := shlK 15 32768 (by decide) (by decide) (by omega)
 have s12 : shlx .i64 f3 12 = some (f3 * 4096) := shlK 12 4096 (by decide) (by decide) (by omega)
 have s7 : shlx .i64 rd 7 = some (rd * 128) := shlK 7 128 (by decide) (by decide) (by omega)
 have p7 : s_l42Put rd 7 = some (rd * 128) := putK 7 128 (by decide) (by decide) (by omega)
 have b1 : i_InstrEncode_1 0 12 20 u = some (u / 1 % 4096 * 1048576) := ibitsK u 0 12 20 1 4096 1048576 (by decide) (by decide) (by decide) bu (by decide) (by omega)
 have w20 : Wn 32505856 (0 * 1048576) := fieldW 0 5 20 32 1048576 _ (by decide) (by decide) (by decide) (by decide)
 have w15 : Wn 1015808 (rs * 32768) := fieldW rs 5 15 32 32768 _ (by decide) (by decide) (by decide) hs
 have w12 : Wn 28672 (f3 * 4096) := fieldW f3 3 12 8 4096 _ (by decide) (by decide) (by decide) b3
 have w7 : Wn 3968 (rd * 128) := fieldW rd 5 7 32 128 _ (by decide) (by decide) (by decide) hd
 obtain ⟨e1, w1⟩ := iorW w20 w15 (by decide) (by decide)
 obtain ⟨e2, w2⟩ := iorW w1 w12 (by decide) (by decide)
 obtain ⟨e3, w3⟩ := iorW w2 wo (by decide) (by decide)
 have wim : Wn 4293918720 (u / 1 % 4096 * 1048576) := fieldW (u / 1 % 4096) 12 20 4096 1048576 _ (by decide) (by decide) (by decide) (by omega)
 have wz : Wn 0 (0 * 1048576) := ⟨0, rfl, rfl⟩
 obtain ⟨e1', w1'⟩ := iorW wz w15 (by decide) (by decide)
 obtain ⟨e2', w2'⟩ := iorW w1' w12 (by decide) (by decide)
 obtain ⟨e3', w3'⟩ := iorW w2' wo (by decide) (by decide)
 obtain ⟨e4, w4⟩ := iorW wim w3' (by decide) (by decide)
 obtain ⟨e5, w5⟩ := iorW w4 w7 (by decide) (by decide)
 refine ⟨u / 1 % 4096 * 1048576 + (0 * 1048576 + rs * 32768 + f3 * 4096 + oc) + rd * 128, ?_, ?_, by omega, ?_⟩
 rotate_left 2
 ·unfold encZ; dsimp only; rw [if_neg (by omega), if_pos (by omega), ← z3, ← zo]; omega
 ·unfold i_InstrEncode
  rw [ivalid, hv]
  dsimp only
  simp -implicitDefEqProofs only [bind_some', tt, Bool.false_eq_true, if_false, t1, hu, s20, s15, s12, hf, s7, b1, e1, e2, e3, e4, e5, ieq, Int.reduceBEq, if_true, Bool.false_eq_true, if_false]
 ·rw [he _ rfl]
  have hm := mid42 ⟨op, rd, rs, 0, imm⟩ oc f3 hs t2 b3 (by omega)
  have hq : s_l42Mod imm 4096 = some (if imm < 0 then imm + 4096 else imm) := mod42 _ _ (by omega) (by omega)
  have hp : s_l42Put (if imm < 0 then imm + 4096 else imm) 20 = some ((if imm < 0 then imm + 4096 else imm) * 1048576) := putK 20 1048576 (by decide) (by decide) (by split <;> omega)
  have hx : (if imm < 0 then imm + 4096 else imm) = u / 1 % 4096 := by split <;> omega
  unfold s_l42Imm
  dsimp only at hm ⊢
  simp only [bind_some', tt, Bool.false_eq_true, if_false, hq, hp, hm, p7]
  rw [hx]
  simp (disch := omega) only [iadd64]
  simp only [Option.some.injEq, Prod.mk.injEq, and_true]
  omega

theorem enc_S (p : gInstr) (h : VP p) (ho : p.Op = 16) : EncOk p := by
 have hv : decide (VP p) = true := by simpa using h
 obtain ⟨op, rd, rs, rt, imm⟩ := p
 unfold VP at h
 dsimp only at h ho
 generalize imm.tmod 2 = em at h
 have hd : rd = 0 := by omega
 have hs : 0 ≤ rs ∧ rs < 32 := by omega
 have ht : 0 ≤ rt ∧ rt < 32 := by omega
 have hi : -2048 ≤ imm ∧ imm ≤ 2047 := by omega
 subst hd ho
 clear h
 obtain ⟨u, hu, bu, eu⟩ := uns imm (by omega)
 have t1 : idx instrTab (isub .i64 16 1) = some ⟨⟨#[115, 119]⟩, 35, 2, 0⟩ := rfl
 have t2 : s_l42Three 16 = some 2 := rfl
 have hf : i_formatOf 16 = some 83 := rfl
 have s20 : shlx .i64 rt 20 = some (rt * 1048576) := shlK 20 1048576 (by decide) (by decide) (by omega)
 have s15 : shlx .i64 rs 15 = some (rs * 32768) := shlK 15 32768 (by decide) (by decide) (by omega)
 have s12 : shlx .i64 2 12 = some (2 * 4096) := shlK 12 4096 (by decide) (by decide) (by omega)
 have b1 : i_InstrEncode_1 5 7 25 u = some (u / 32 % 128 * 33554432) := ibitsK u 5 7 25 32 128 33554432 (by decide) (by decide) (by decide) bu (by decide) (by omega)
 have b2 : i_InstrEncode_1 0 5 7 u = some (u / 1 % 32 * 128) := ibitsK u 0 5 7 1 32 128 (by decide) (by decide) (by decide) bu (by decide) (by omega)
 have w20 : Wn 32505856 (rt * 1048576) := fieldW rt 5 20 32 1048576 _ (by decide) (by decide) (by decide) ht
 have w15 : Wn 1015808 (rs * 32768) := fieldW rs 5 15 32 32768 _ (by decide) (by decide) (by decide) hs
 have w12 : Wn 28672 (2 * 4096) := fieldW 2 3 12 8 4096 _ (by decide) (by decide) (by decide) (by decide)
 have wo : Wn 127 35 := ⟨35, rfl, rfl⟩
 obtain ⟨e1, w1⟩ := iorW w20 w15 (by decide) (by decide)
 obtain ⟨e2, w2⟩ := iorW w1 w12 (by decide) (by decide)
 obtain ⟨e3, w3⟩ := iorW w2 wo (by decide) (by decide)
 have wa : Wn 4261412864 (u / 32 % 128 * 33554432) := fieldW (u / 32 % 128) 7 25 128 33554432 _ (by decide) (by decide) (by decide) (by omega)
 have wb : Wn 3968 (u / 1 % 32 * 128) := fieldW (u / 1 % 32) 5 7 32 128 _ (by decide) (by decide) (by decide) (by omega)
 obtain ⟨e4, w4⟩ := iorW wa w3 (by decide) (by decide)
 obtain ⟨e5, w5⟩ := iorW w4 wb (by decide) (by decide)
 refine ⟨u / 32 % 128 * 33554432 + (rt * 1048576 + rs * 32768 + 2 * 4096 + 35) + u / 1 % 32 * 128, ?_, ?_, by omega, ?_⟩
 rotate_left 2
 ·unfold encZ; dsimp only; rw [if_neg (by omega), if_neg (by omega), if_pos rfl]; omega
 ·unfold i_InstrEncode
  rw [ivalid, hv]
  dsimp only
  simp -implicitDefEqProofs only [bind_some', tt, Bool.false_eq_true, if_false, t1, hu, s20, s15, s12, hf, b1, b2, e1, e2, e3, e4, e5, ieq, Int.reduceBEq, if_true]
 ·skip
  have hm := mid42 ⟨16, 0, rs, rt, imm⟩ 35 2 hs t2 (by decide) (by decide)
  have hq : s_l42Mod imm 4096 = some (if imm < 0 then imm + 4096 else imm) := mod42 _ _ (by omega) (by omega)
  have hx : (if imm < 0 then imm + 4096 else imm) = u % 4096 := by split <;> omega
  rw [hx] at hq
  have c1 : s_Bits (u % 4096) 5 7 = some (u % 4096 / 32 % 128) := bitsK (u % 4096) 5 7 32 128 (by decide) (by decide) (by omega) (by decide)
  have c2 : s_Bits (u % 4096) 0 5 = some (u % 4096 / 1 % 32) := bitsK (u % 4096) 0 5 1 32 (by decide) (by decide) (by omega) (by decide)
  have d1 : s_l42Put (u % 4096 / 32 % 128) 25 = some (u % 4096 / 32 % 128 * 33554432) := putK 25 33554432 (by decide) (by decide) (by omega)
  have d2 : s_l42Put (u % 4096 / 1 % 32) 7 = some (u % 4096 / 1 % 32 * 128) := putK 7 128 (by decide) (by decide) (by omega)
  have p20 : s_l42Put rt 20 = some (rt * 1048576) := putK 20 1048576 (by decide) (by decide) (by omega)
  unfold s_l42Encode
  dsimp only at hm ⊢
  simp -implicitDefEqProofs only [bind_some', tt, Bool.false_eq_true, if_false, hq, c1, c2, d1, d2, p20, hm, ieq, Int.reduceBEq, if_true]
  simp (disch := omega) only [iadd64]
  simp only [Option.some.injEq, Prod.mk.injEq, and_true]
  omega

theorem row_B (op : Int) (h : op = 17 ∨ op = 18) : ∃ nm f3, idx instrTab (isub .i64 op 1) = some ⟨nm, 99, f3, 0⟩ ∧ s_l42Three op = some f3 ∧ (0 ≤ f3 ∧ f3 < 8) ∧ (∀ i : gInstr, i.Op = op → s_l42Encode i = s_l42Branch i) ∧ f3 = T3 op := by
 obtain rfl | rfl := h
 all_goals
  refine ⟨_, _, rfl, rfl, by decide, fun i hi => ?_, rfl⟩
  unfold s_l42Encode
  rw [hi]
  simp only [bind_id]
  rfl

theorem enc_B (p : gInstr) (h : VP p) (ho : p.Op = 17 ∨ p.Op = 18) : EncOk p := by
 have hv : decide (VP p) = true := by simpa using h
 obtain ⟨op, rd, rs, rt, imm⟩ := p
 unfold VP at h
 dsimp only at h ho
 generalize imm.tmod 2 = em at h
 have hd : rd = 0 := by omega
 have hs : 0 ≤ rs ∧ rs < 32 := by omega
 have ht : 0 ≤ rt ∧ rt < 32 := by omega
 have hi : -4096 ≤ imm ∧ imm ≤ 4094 := by omega
 subst hd
 clear h
 obtain ⟨nm, f3, t1, t2, b3, he, z3⟩ := row_B op ho
 obtain ⟨u, hu, bu, eu⟩ := uns imm (by omega)
 have hf : i_formatOf op = some 66 := by rw [fmt, if_neg (by omega), if_neg (by omega), if_neg (by omega), if_pos ho]
 have s20 : shlx .i64 rt 20 = some (rt * 1048576) := shlK 20 1048576 (by decide) (by decide) (by omega)
 have s15 : shlx .i64 rs 15 = some (rs * 32768) := shlK 15 32768 (by decide) (by decide) (by omega)
 have s12 : shlx .i64 f3 12 = some (f3 * 4096) := shlK 12 4096 (by decide) (by decide) (by omega)
 have b1 : i_InstrEncode_1 12 1 31 u = some (u / 4096 % 2 * 2147483648) := ibitsK u 12 1 31 4096 2 2147483648 (by decide) (by decide) (by decide) bu (by decide) (by omega)
 have b2 : i_InstrEncode_1 5 6 25 u = some (u / 32 % 64 * 33554432) := ibitsK u 5 6 25 32 64 33554432 (by decide) (by decide) (by decide) bu (by decide) (by omega)
 have b4 : i_InstrEncode_1 1 4 8 u = some (u / 2 % 16 * 256) := ibitsK u 1 4 8 2 16 256 (by decide) (by decide) (by decide) bu (by decide) (by omega)
 have b5 : i_InstrEncode_1 11 1 7 u = some (u / 2048 % 2 * 128) := ibitsK u 11 1 7 2048 2 128 (by decide) (by decide) (by decide) bu (by decide) (by omega)
 have w20 : Wn 32505856 (rt * 1048576) := fieldW rt 5 20 32 1048576 _ (by decide) (by decide) (by decide) ht
 have w15 : Wn 1015808 (rs * 32768) := fieldW rs 5 15 32 32768 _ (by decide) (by decide) (by decide) hs
 have w12 : Wn 28672 (f3 * 4096) := fieldW f3 3 12 8 4096 _ (by decide) (by decide) (by decide) b3
 have wo : Wn 127 99 := ⟨99, rfl, rfl⟩
 obtain ⟨e1, w1⟩ := iorW w20 w15 (by decide) (by decide)
 obtain ⟨e2, w2⟩ := iorW w1 w12 (by decide) (by decide)
 obtain ⟨e3, w3⟩ := iorW w2 wo (by decide) (by decide)
 have wa : Wn 2147483648 (u / 4096 % 2 * 2147483648) := fieldW (u / 4096 % 2) 1 31 2 2147483648 _ (by decide) (by decide) (by decide) (by omega)
 have wb : Wn 2113929216 (u / 32 % 64 * 33554432) := fieldW (u / 32 % 64) 6 25 64 33554432 _ (by decide) (by decide) (by decide) (by omega)
 have wc : Wn 3840 (u / 2 % 16 * 256) := fieldW (u / 2 % 16) 4 8 16 256 _ (by decide) (by decide) (by decide) (by omega)
 have wd : Wn 128 (u / 2048 % 2 * 128) := fieldW (u / 2048 % 2) 1 7 2 128 _ (by decide) (by decide) (by decide) (by omega)
 obtain ⟨e4, w4⟩ := iorW wa wb (by decide) (by decide)
 obtain ⟨e5, w5⟩ := iorW w4 w3 (by decide) (by decide)
 obtain ⟨e6, w6⟩ := iorW w5 wc (by decide) (by decide)
 obtain ⟨e7, w7⟩ := iorW w6 wd (by decide) (by decide)
 refine ⟨u / 4096 % 2 * 2147483648 + u / 32 % 64 * 33554432 + (rt * 1048576 + rs * 32768 + f3 * 4096 + 99) + u / 2 % 16 * 256 + u / 2048 % 2 * 128, ?_, ?_, by omega, ?_⟩
 rotate_left 2
 ·unfold encZ; dsimp only; rw [if_neg (by omega), if_neg (by omega), if_neg (by omega), if_pos (by omega), ← z3]; omega
 ·unfold i_InstrEncode
  rw [ivalid, hv]
  dsimp only
  simp -implicitDefEqProofs only [bind_some', tt, Bool.false_eq_true, if_false, t1, hu, s20, s15, s12, hf, b1, b2, b4, b5, e1, e2, e3, e4, e5, e6, e7, ieq, Int.reduceBEq, if_true]
 ·rw [he _ rfl]
  have hm := mid42 ⟨op, 0, rs, rt, imm⟩ 99 f3 hs t2 b3 (by decide)
  have hq : s_l42Mod imm 8192 = some (if imm < 0 then imm + 8192 else imm) := mod42 _ _ (by omega) (by omega)
  have hx : (if imm < 0 then imm + 8192 else imm) = u % 8192 := by split <;> omega
  rw [hx] at hq
  have c1 : s_Bits (u % 8192) 12 1 = some (u % 8192 / 4096 % 2) := bitsK (u % 8192) 12 1 4096 2 (by decide) (by decide) (by omega) (by decide)
  have c2 : s_Bits (u % 8192) 5 6 = some (u % 8192 / 32 % 64) := bitsK (u % 8192) 5 6 32 64 (by decide) (by decide) (by omega) (by decide)
  have c3 : s_Bits (u % 8192) 1 4 = some (u % 8192 / 2 % 16) := bitsK (u % 8192) 1 4 2 16 (by decide) (by decide) (by omega) (by decide)
  have c4 : s_Bits (u % 8192) 11 1 = some (u % 8192 / 2048 % 2) := bitsK (u % 8192) 11 1 2048 2 (by decide) (by decide) (by omega) (by decide)
  have d1 : s_l42Put (u % 8192 / 4096 % 2) 31 = some (u % 8192 / 4096 % 2 * 2147483648) := putK 31 2147483648 (by decide) (by decide) (by omega)
  have d2 : s_l42Put (u % 8192 / 32 % 64) 25 = some (u % 8192 / 32 % 64 * 33554432) := putK 25 33554432 (by decide) (by decide) (by omega)
  have d3 : s_l42Put (u % 8192 / 2 % 16) 8 = some (u % 8192 / 2 % 16 * 256) := putK 8 256 (by decide) (by decide) (by omega)
  have d4 : s_l42Put (u % 8192 / 2048 % 2) 7 = some (u % 8192 / 2048 % 2 * 128) := putK 7 128 (by decide) (by decide) (by omega)
  have p20 : s_l42Put rt 20 = some (rt * 1048576) := putK 20 1048576 (by decide) (by decide) (by omega)
  unfold s_l42Branch
  dsimp only at hm ⊢
  simp -implicitDefEqProofs only [bind_some', tt, Bool.false_eq_true, if_false, hq, c1, c2, c3, c4, d1, d2, d3, d4, p20, hm]
  have g1 : u % 8192 / 4096 % 2 = u / 4096 % 2 := by omega
  have g2 : u % 8192 / 32 % 64 = u / 32 % 64 := by omega
  have g3 : u % 8192 / 2 % 16 = u / 2 % 16 := by omega
  have g4 : u % 8192 / 2048 % 2 = u / 2048 % 2 := by omega
  rw [g1, g2, g3, g4]
  simp (disch := omega) only [iadd64]
  simp only [Option.some.injEq, Prod.mk.injEq, and_true]
  omega

theorem enc_U (p : gInstr) (h : VP p) (ho : p.Op = 19) : EncOk p := by
 have hv : decide (VP p) = true := by simpa using h
 obtain ⟨op, rd, rs, rt, imm⟩ := p
 unfold VP at h
 dsimp only at h ho
 generalize imm.tmod 2 = em at h
 have hd : 0 ≤ rd ∧ rd < 32 := by omega
 have hs : rs = 0 := by omega
 have ht : rt = 0 := by omega
 have hi : 0 ≤ imm ∧ imm < 1048576 := by omega
 subst hs ht ho
 clear h
 obtain ⟨u, hu, bu, eu⟩ := uns imm (by omega)
 have t1 : idx instrTab (isub .i64 19 1) = some ⟨⟨#[108, 117, 105]⟩, 55, 0, 0⟩ := rfl
 have hf : i_formatOf 19 = some 85 := rfl
 have s20 : shlx .i64 0 20 = some (0 * 1048576) := shlK 20 1048576 (by decide) (by decide) (by omega)
 have s15 : shlx .i64 0 15 = some (0 * 32768) := shlK 15 32768 (by decide) (by decide) (by omega)
 have s12 : shlx .i64 0 12 = some (0 * 4096) := shlK 12 4096 (by decide) (by decide) (by omega)
 have s7 : shlx .i64 rd 7 = some (rd * 128) := shlK 7 128 (by decide) (by decide) (by omega)
 have b1 : i_InstrEncode_1 0 20 12 u = some (u / 1 % 1048576 * 4096) := ibitsK u 0 20 12 1 1048576 4096 (by decide) (by decide) (by decide) bu (by decide) (by omega)
 have wo : Wn 127 55 := ⟨55, rfl, rfl⟩
 have w7 : Wn 3968 (rd * 128) := fieldW rd 5 7 32 128 _ (by decide) (by decide) (by decide) hd
 have wa : Wn 4294963200 (u / 1 % 1048576 * 4096) := fieldW (u / 1 % 1048576) 20 12 1048576 4096 _ (by decide) (by decide) (by decide) (by omega)
 obtain ⟨e1, w1⟩ := iorW wa w7 (by decide) (by decide)
 obtain ⟨e2, w2⟩ := iorW w1 wo (by decide) (by decide)
 refine ⟨u / 1 % 1048576 * 4096 + rd * 128 + 55, ?_, ?_, by omega, ?_⟩
 rotate_left 2
 ·unfold encZ; dsimp only; rw [if_neg (by omega), if_neg (by omega), if_neg (by omega), if_neg (by omega), if_pos rfl]; omega
 ·unfold i_InstrEncode
  rw [ivalid, hv]
  dsimp only
  simp -implicitDefEqProofs only [bind_some', tt, Bool.false_eq_true, if_false, t1, hu, s20, s15, s12, s7, hf, b1, e1, e2, ieq, Int.reduceBEq, if_true]
 ·skip
  have d1 : s_l42Put imm 12 = some (imm * 4096) := putK 12 4096 (by decide) (by decide) (by omega)
  have d2 : s_l42Put rd 7 = some (rd * 128) := putK 7 128 (by decide) (by decide) (by omega)
  unfold s_l42Encode
  dsimp only
  simp -implicitDefEqProofs only [bind_some', tt, Bool.false_eq_true, if_false, d1, d2, ieq, Int.reduceBEq, if_true]
  simp (disch := omega) only [iadd64]
  simp only [Option.some.injEq, Prod.mk.injEq, and_true]
  omega

theorem enc_J (p : gInstr) (h : VP p) (ho : p.Op = 20) : EncOk p := by
 have hv : decide (VP p) = true := by simpa using h
 obtain ⟨op, rd, rs, rt, imm⟩ := p
 unfold VP at h
 dsimp only at h ho
 generalize imm.tmod 2 = em at h
 have hd : 0 ≤ rd ∧ rd < 32 := by omega
 have hs : rs = 0 := by omega
 have ht : rt = 0 := by omega
 have hi : -1048576 ≤ imm ∧ imm ≤ 1048574 := by omega
 subst hs ht ho
 clear h
 obtain ⟨u, hu, bu, eu⟩ := uns imm (by omega)
 have t1 : idx instrTab (isub .i64 20 1) = some ⟨⟨#[106, 97, 108]⟩, 111, 0, 0⟩ := rfl
 have hf : i_formatOf 20 = some 74 := rfl
 have s20 : shlx .i64 0 20 = some (0 * 1048576) := shlK 20 1048576 (by decide) (by decide) (by omega)
 have s15 : shlx .i64 0 15 = some (0 * 32768) := shlK 15 32768 (by decide) (by decide) (by omega)
 have s12 : shlx .i64 0 12 = some (0 * 4096) := shlK 12 4096 (by decide) (by decide) (by omega)
 have s7 : shlx .i64 rd 7 = some (rd * 128) := shlK 7 128 (by decide) (by decide) (by omega)
 have b1 : i_InstrEncode_1 20 1 31 u = some (u / 1048576 % 2 * 2147483648) := ibitsK u 20 1 31 1048576 2 2147483648 (by decide) (by decide) (by decide) bu (by decide) (by omega)
 have b2 : i_InstrEncode_1 1 10 21 u = some (u / 2 % 1024 * 2097152) := ibitsK u 1 10 21 2 1024 2097152 (by decide) (by decide) (by decide) bu (by decide) (by omega)
 have b3 : i_InstrEncode_1 11 1 20 u = some (u / 2048 % 2 * 1048576) := ibitsK u 11 1 20 2048 2 1048576 (by decide) (by decide) (by decide) bu (by decide) (by omega)
 have b4 : i_InstrEncode_1 12 8 12 u = some (u / 4096 % 256 * 4096) := ibitsK u 12 8 12 4096 256 4096 (by decide) (by decide) (by decide) bu (by decide) (by omega)
 have wo : Wn 127 111 := ⟨111, rfl, rfl⟩
 have w7 : Wn 3968 (rd * 128) := fieldW rd 5 7 32 128 _ (by decide) (by decide) (by decide) hd
 have wa : Wn 2147483648 (u / 1048576 % 2 * 2147483648) := fieldW (u / 1048576 % 2) 1 31 2 2147483648 _ (by decide) (by decide) (by decide) (by omega)
 have wb : Wn 2145386496 (u / 2 % 1024 * 2097152) := fieldW (u / 2 % 1024) 10 21 1024 2097152 _ (by decide) (by decide) (by decide) (by omega)
 have wc : Wn 1048576 (u / 2048 % 2 * 1048576) := fieldW (u / 2048 % 2) 1 20 2 1048576 _ (by decide) (by decide) (by decide) (by omega)
 have wd : Wn 1044480 (u / 4096 % 256 * 4096) := fieldW (u / 4096 % 256) 8 12 256 4096 _ (by decide) (by decide) (by decide) (by omega)
 obtain ⟨e1, w1⟩ := iorW wa wb (by decide) (by decide)
 obtain ⟨e2, w2⟩ := iorW w1 wc (by decide) (by decide)
 obtain ⟨e3, w3⟩ := iorW w2 wd (by decide) (by decide)
 obtain ⟨e4, w4⟩ := iorW w3 w7 (by decide) (by decide)
 obtain ⟨e5, w5⟩ := iorW w4 wo (by decide) (by decide)
 refine ⟨u / 1048576 % 2 * 2147483648 + u / 2 % 1024 * 2097152 + u / 2048 % 2 * 1048576 + u / 4096 % 256 * 4096 + rd * 128 + 111, ?_, ?_, by omega, ?_⟩
 rotate_left 2
 ·unfold encZ; dsimp only; rw [if_neg (by omega), if_neg (by omega), if_neg (by omega), if_neg (by omega), if_neg (by omega), if_pos rfl]; omega
 ·unfold i_InstrEncode
  rw [ivalid, hv]
  dsimp only
  simp -implicitDefEqProofs only [bind_some', tt, Bool.false_eq_true, if_false, t1, hu, s20, s15, s12, s7, hf, b1, b2, b3, b4, e1, e2, e3, e4, e5, ieq, Int.reduceBEq, if_true]
 ·skip
  have hq : s_l42Mod imm 2097152 = some (if imm < 0 then imm + 2097152 else imm) := mod42 _ _ (by omega) (by omega)
  have hx : (if imm < 0 then imm + 2097152 else imm) = u % 2097152 := by split <;> omega
  rw [hx] at hq
  have c1 : s_Bits (u % 2097152) 20 1 = some (u % 2097152 / 1048576 % 2) := bitsK (u % 2097152) 20 1 1048576 2 (by decide) (by decide) (by omega) (by decide)
  have c2 : s_Bits (u % 2097152) 1 10 = some (u % 2097152 / 2 % 1024) := bitsK (u % 2097152) 1 10 2 1024 (by decide) (by decide) (by omega) (by decide)
  have c3 : s_Bits (u % 2097152) 11 1 = some (u % 2097152 / 2048 % 2) := bitsK (u % 2097152) 11 1 2048 2 (by decide) (by decide) (by omega) (by decide)
  have c4 : s_Bits (u % 2097152) 12 8 = some (u % 2097152 / 4096 % 256) := bitsK (u % 2097152) 12 8 4096 256 (by decide) (by decide) (by omega) (by decide)
  have g1 : u % 2097152 / 1048576 % 2 = u / 1048576 % 2 := by omega
  have g2 : u % 2097152 / 2 % 1024 = u / 2 % 1024 := by omega
  have g3 : u % 2097152 / 2048 % 2 = u / 2048 % 2 := by omega
  have g4 : u % 2097152 / 4096 % 256 = u / 4096 % 256 := by omega
  rw [g1] at c1; rw [g2] at c2; rw [g3] at c3; rw [g4] at c4
  have d1 : s_l42Put (u / 1048576 % 2) 31 = some (u / 1048576 % 2 * 2147483648) := putK 31 2147483648 (by decide) (by decide) (by omega)
  have d2 : s_l42Put (u / 2 % 1024) 21 = some (u / 2 % 1024 * 2097152) := putK 21 2097152 (by decide) (by decide) (by omega)
  have d3 : s_l42Put (u / 2048 % 2) 20 = some (u / 2048 % 2 * 1048576) := putK 20 1048576 (by decide) (by decide) (by omega)
  have d4 : s_l42Put (u / 4096 % 256) 12 = some (u / 4096 % 256 * 4096) := putK 12 4096 (by decide) (by decide) (by omega)
  have d5 : s_l42Put rd 7 = some (rd * 128) := putK 7 128 (by decide) (by decide) (by omega)
  unfold s_l42Encode s_l42Jump
  dsimp only
  simp -implicitDefEqProofs only [bind_some', tt, Bool.false_eq_true, if_false, hq, c1, c2, c3, c4, d1, d2, d3, d4, d5, ieq, Int.reduceBEq, if_true]
  simp (disch := omega) only [iadd64]

theorem enc_E (p : gInstr) (h : VP p) (ho : p.Op = 21) : EncOk p := by
 have hv : decide (VP p) = true := by simpa using h
 obtain ⟨op, rd, rs, rt, imm⟩ := p
 unfold VP at h
 dsimp only at h ho
 generalize imm.tmod 2 = em at h
 have hd : rd = 0 := by omega
 have hs : rs = 0 := by omega
 have ht : rt = 0 := by omega
 have hi : imm = 0 := by omega
 subst hs ht ho hi hd
 clear h
 obtain ⟨u, hu, bu, eu⟩ := uns 0 (by omega)
 have t1 : idx instrTab (isub .i64 21 1) = some ⟨⟨#[101, 99, 97, 108, 108]⟩, 115, 0, 0⟩ := rfl
 have hf : i_formatOf 21 = some 69 := rfl
 have s20 : shlx .i64 0 20 = some (0 * 1048576) := shlK 20 1048576 (by decide) (by decide) (by omega)
 have s15 : shlx .i64 0 15 = some (0 * 32768) := shlK 15 32768 (by decide) (by decide) (by omega)
 have s12 : shlx .i64 0 12 = some (0 * 4096) := shlK 12 4096 (by decide) (by decide) (by omega)
 refine ⟨115, ?_, ?_, by omega, rfl⟩
 ·unfold i_InstrEncode
  rw [ivalid, hv]
  dsimp only
  simp -implicitDefEqProofs only [bind_some', tt, Bool.false_eq_true, if_false, t1, hu, s20, s15, s12, hf, ieq, Int.reduceBEq, if_true]
 ·skip
  unfold s_l42Encode
  dsimp only
  simp -implicitDefEqProofs only [bind_some', tt, Bool.false_eq_true, if_false, ieq, Int.reduceBEq, if_true]

theorem enc_ok (p : gInstr) (h : VP p) : EncOk p := by
 have : (1 ≤ p.Op ∧ p.Op ≤ 11) ∨ (12 ≤ p.Op ∧ p.Op ≤ 15) ∨ p.Op = 16 ∨ (p.Op = 17 ∨ p.Op = 18) ∨ p.Op = 19 ∨ p.Op = 20 ∨ p.Op = 21 := by unfold VP at h; omega
 rcases this with a | a | a | a | a | a | a
 ·exact enc_R p h a
 ·exact enc_I p h a
 ·exact enc_S p h a
 ·exact enc_B p h a
 ·exact enc_U p h a
 ·exact enc_J p h a
 ·exact enc_E p h a


theorem enc_i (p : gInstr) (h : VP p) : i_InstrEncode p = some (encZ p, true) ∧ 0 ≤ encZ p ∧ encZ p < 4294967296 := by
 obtain ⟨e, h1, _, h2, rfl⟩ := enc_ok p h
 exact ⟨h1, h2⟩
theorem enc_s (p : gInstr) (h : VP p) : s_l42Encode p = some (encZ p) := by
 obtain ⟨e, _, h1, _, rfl⟩ := enc_ok p h
 exact h1
end Go.Abs
