/- An instruction as a word: sums and unions of parts are the same. -/
import Derived.Test.YtlcilhmkbmgkeaaDoorNEnc
set_option linter.unusedSimpArgs false
set_option linter.unusedVariables false
set_option maxHeartbeats 4000000
namespace Go.Abs
open Go

/-- a number within a mask -/
def Wn (m : Nat) (x : Int) : Prop := ∃ n : Nat, x = (n : Int) ∧ n &&& m = n

theorem Wn.le {m : Nat} {x : Int} (h : Wn m x) : 0 ≤ x ∧ x ≤ m := by
  obtain ⟨n, rfl, hn⟩ := h
  have : n ≤ m := by rw [← hn]; exact Nat.and_le_right
  omega

theorem or_add_nat {x y : Nat} (hx : x < 2 ^ 62) (hy : y < 2 ^ 62) (h : x &&& y = 0) : x ||| y = x + y := by
  have := BitVec.add_eq_or_of_and_eq_zero (BitVec.ofNat 64 x) (BitVec.ofNat 64 y) (by
    apply BitVec.eq_of_toNat_eq
    rw [BitVec.toNat_and, BitVec.toNat_ofNat, BitVec.toNat_ofNat, Nat.mod_eq_of_lt (by omega), Nat.mod_eq_of_lt (by omega), h]; rfl)
  have := congrArg BitVec.toNat this
  rw [BitVec.toNat_add, BitVec.toNat_or, BitVec.toNat_ofNat, BitVec.toNat_ofNat, Nat.mod_eq_of_lt (a := x) (by omega), Nat.mod_eq_of_lt (a := y) (by omega), Nat.mod_eq_of_lt (by omega)] at this
  exact this.symm

theorem iorW {m n : Nat} {x y : Int} (hx : Wn m x) (hy : Wn n y) (h : m &&& n = 0) (hb : m ||| n < 2 ^ 62) : ior .i64 x y = x + y ∧ Wn (m ||| n) (x + y) := by
  have bx := hx.le; have by' := hy.le
  have hm : m ≤ m ||| n := Nat.left_le_or
  have hn : n ≤ m ||| n := Nat.right_le_or
  obtain ⟨a, rfl, ha⟩ := hx
  obtain ⟨b, rfl, hb'⟩ := hy
  have hz : a &&& b = 0 := by
    rw [← ha, ← hb']
    rw [Nat.and_assoc, show m &&& (b &&& n) = (m &&& n) &&& b by rw [Nat.and_comm b n, ← Nat.and_assoc], h]
    simp
  have e := or_add_nat (x := a) (y := b) (by omega) (by omega) hz
  have e2 : ior .i64 (a : Int) (b : Int) = ((a ||| b : Nat) : Int) := by
    have h0 : (a ||| b) < 2 ^ 62 := by rw [e]; have := or_add_nat (x := m) (y := n) (by omega) (by omega) h; omega
    unfold ior
    show IntKind.i64.wrap ((BitVec.ofInt 64 (a : Int) ||| BitVec.ofInt 64 (b : Int)).toNat : Int) = _
    rw [BitVec.toNat_or, bv_ofInt _ (by omega) (by omega), bv_ofInt _ (by omega) (by omega)]
    simp only [Int.toNat_natCast]
    exact wr64 _ (by omega)
  refine ⟨by rw [e2, e]; simp, a + b, by simp, ?_⟩
  rw [← e, Nat.and_or_distrib_left]
  have q1 : (a ||| b) &&& m = a := by
    rw [Nat.and_or_distrib_right, ha, ← hb', Nat.and_assoc, Nat.and_comm n m, h]; simp
  have q2 : (a ||| b) &&& n = b := by
    rw [Nat.and_or_distrib_right, hb', ← ha, Nat.and_assoc, h]; simp
  rw [q1, q2]

theorem fieldW (x : Int) (k s : Nat) (b c : Int) (m : Nat) (hb : (2 : Int) ^ k = b) (hc : (2 : Int) ^ s = c) (hm : (2 ^ k - 1) <<< s = m) (h : 0 ≤ x ∧ x < b) : Wn m (x * c) := by
  obtain ⟨n, rfl⟩ := Int.eq_ofNat_of_zero_le h.1
  refine ⟨n <<< s, ?_, ?_⟩
  · rw [Nat.shiftLeft_eq, ← hc]; simp
  · rw [← hm, ← Nat.shiftLeft_and_distrib, Nat.and_two_pow_sub_one_eq_mod, Nat.mod_eq_of_lt]
    have := h.2
    rw [← hb] at this
    exact_mod_cast this

theorem shlK {x : Int} (n : Nat) (c : Int) (hn : n ≤ 62) (hc : (2 : Int) ^ n = c) (h : 0 ≤ x * c ∧ x * c ≤ 4611686018427387904) : shlx .i64 x (n : Int) = some (x * c) := by
  unfold shlx
  rw [if_neg (by omega)]
  have : min (n : Int).toNat IntKind.i64.bits = n := by
    show min (n : Int).toNat 64 = n
    simp; omega
  rw [this, hc, wr64 _ (by omega)]

theorem putK {x : Int} (n : Nat) (c : Int) (hn : n ≤ 62) (hc : (2 : Int) ^ n = c) (h : 0 ≤ x * c ∧ x * c ≤ 4611686018427387904) : s_l42Put x (n : Int) = some (x * c) := by
  unfold s_l42Put
  rw [power_eq n hn, bind_some', hc, imul_eq _ _ (by omega)]

theorem bitsK (u : Int) (l m : Nat) (a b : Int) (ha : (2 : Int) ^ l = a) (hb : (2 : Int) ^ m = b) (hu : 0 ≤ u ∧ u < 4294967296) (h : l ≤ 31 ∧ 1 ≤ m ∧ m + l ≤ 32) : s_Bits u (l : Int) (m : Int) = some (u / a % b) := by
  have pa : 0 < a := by rw [← ha]; exact Int.pow_pos (by decide)
  have pb : 0 < b := by rw [← hb]; exact Int.pow_pos (by decide)
  have e : isub .i64 32 (l : Int) = 32 - l := isub_eq _ _ (by omega)
  unfold s_Bits
  simp only [in6, bind_some', if_or, e]
  rw [if_neg, power_eq l (by omega), bind_some', ha, power_eq m (by omega)]
  · rw [quox_eq u a hu.1 (by omega) pa, bind_some', bind_some', hb, remx_eq _ _ (Int.ediv_nonneg hu.1 (by omega)) pb]
    rfl
  · simp [bnot, ige, ile]; omega
theorem ibitsK (u : Int) (l m s : Nat) (a b c : Int) (ha : (2 : Int) ^ l = a) (hb : (2 : Int) ^ m = b) (hc : (2 : Int) ^ s = c) (hu : 0 ≤ u ∧ u < 4294967296) (h : l ≤ 31 ∧ 1 ≤ m ∧ m + l ≤ 32 ∧ s ≤ 31) (hx : (u / a % b) * c ≤ 4611686018427387904) :
    i_InstrEncode_1 (l : Int) (m : Int) (s : Int) u = some (u / a % b * c) := by
  have pb : 0 < b := by rw [← hb]; exact Int.pow_pos (by decide)
  have pc : 0 < c := by rw [← hc]; exact Int.pow_pos (by decide)
  unfold i_InstrEncode_1
  rw [bits_eq, bitsK u l m a b ha hb hu ⟨h.1, h.2.1, h.2.2.1⟩, bind_some', shlK s c (by omega) hc ⟨Int.mul_nonneg (Int.emod_nonneg _ (by omega)) (by omega), hx⟩, bind_some']

theorem mod42 (x p : Int) (h : -1000000000 ≤ x ∧ x ≤ 1000000000) (hp : 0 ≤ p ∧ p ≤ 1000000000) : s_l42Mod x p = some (if x < 0 then x + p else x) := by
  unfold s_l42Mod
  by_cases hx : x < 0
  · rw [if_pos (by rw [ilt_iff]; exact hx), if_pos hx, iadd_eq _ _ (by omega)]
  · rw [if_neg (by rw [ilt_iff]; exact hx), if_neg hx]
end Go.Abs
