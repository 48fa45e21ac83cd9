/- The machine: the program's step and the reference's are one. -/
import Derived.Test.YtlcilhmkbmgkeaaGreatDoorNDc
import Derived.Test.YtlcilhmkbmgkeaaGreatDoorNApp
import Derived.Test.YtlcilhmkbmgkeaaGreatDoorNHartZ
set_option linter.unusedSimpArgs false
set_option linter.unusedVariables false
set_option maxHeartbeats 8000000
set_option maxRecDepth 20000
namespace Go.Abs
open Go

/-! the reference's decoder -/
theorem fields_val (op u : Int) (h : 1 ≤ op ∧ op ≤ 21) (hu : 0 ≤ u ∧ u < 4294967296) : s_l42Fields op u = some (fld op u) := by
 have bK : ∀ (l m : Nat) (a b : Int), (2 : Int) ^ l = a → (2 : Int) ^ m = b → l ≤ 31 ∧ 1 ≤ m ∧ m + l ≤ 32 → s_Bits u (l : Int) (m : Int) = some (u / a % b) := fun l m a b ha hb' hl => bitsK u l m a b ha hb' hu hl
 have sK : ∀ (x : Int) (m : Nat) (b h : Int), (2 : Int) ^ m = b → (2 : Int) ^ (m - 1) = h → 1 ≤ m ∧ m ≤ 32 → b ≤ 4294967296 → 0 ≤ x ∧ x < b → s_SignExtend x (m : Int) = some (if x ≥ h then x - b else x) := fun x m b h a1 a2 a3 a4 a5 => by rw [← signExtend_eq]; exact sxK x m b h a1 a2 a3 a4 a5
 have qd : s_Bits u 7 5 = some (u / 128 % 32) := bK 7 5 128 32 (by decide) (by decide) (by decide)
 have qs : s_Bits u 15 5 = some (u / 32768 % 32) := bK 15 5 32768 32 (by decide) (by decide) (by decide)
 have qt : s_Bits u 20 5 = some (u / 1048576 % 32) := bK 20 5 1048576 32 (by decide) (by decide) (by decide)
 unfold s_l42Fields fld
 rw [qd, bind_some', qs, bind_some', qt, bind_some']
 by_cases h1 : op ≤ 11
 ·rw [if_pos (by rw [ile_iff]; exact h1), if_pos h1]
 rw [if_neg (by rw [ile_iff]; exact h1), if_neg h1]
 by_cases h2 : op ≤ 15
 ·rw [if_pos (by rw [ile_iff]; exact h2), if_pos h2]
  have qi : s_Bits u 20 12 = some (u / 1048576 % 4096) := bK 20 12 1048576 4096 (by decide) (by decide) (by decide)
  rw [qi, bind_some', show (12 : Int) = ((12 : Nat) : Int) from rfl, sK _ 12 4096 2048 (by decide) (by decide) (by decide) (by decide) (by omega), bind_some']
 rw [if_neg (by rw [ile_iff]; exact h2), if_neg h2]
 by_cases h3 : op = 16
 ·rw [if_pos (by rw [ieq_iff]; exact h3), if_pos h3]
  have q1 : s_Bits u 25 7 = some (u / 33554432 % 128) := bK 25 7 33554432 128 (by decide) (by decide) (by decide)
  rw [q1, bind_some', imul_eq _ _ (by omega), iadd_eq _ _ (by omega), show (12 : Int) = ((12 : Nat) : Int) from rfl, sK _ 12 4096 2048 (by decide) (by decide) (by decide) (by decide) (by omega), bind_some']
 rw [if_neg (by rw [ieq_iff]; exact h3), if_neg h3, if_or, bind_some']
 by_cases h4 : op ≤ 18
 ·rw [if_pos (by rw [Bool.or_eq_true, ieq_iff, ieq_iff]; omega), if_pos h4]
  have q1 : s_Bits u 31 1 = some (u / 2147483648 % 2) := bK 31 1 2147483648 2 (by decide) (by decide) (by decide)
  have q2 : s_Bits u 7 1 = some (u / 128 % 2) := bK 7 1 128 2 (by decide) (by decide) (by decide)
  have q3 : s_Bits u 25 6 = some (u / 33554432 % 64) := bK 25 6 33554432 64 (by decide) (by decide) (by decide)
  have q4 : s_Bits u 8 4 = some (u / 256 % 16) := bK 8 4 256 16 (by decide) (by decide) (by decide)
  rw [q1, bind_some', q2, bind_some', q3, bind_some', q4, bind_some']
  simp (disch := omega) only [imul_eq, iadd_eq]
  rw [show (13 : Int) = ((13 : Nat) : Int) from rfl, sK _ 13 8192 4096 (by decide) (by decide) (by decide) (by decide) (by omega), bind_some']
 rw [if_neg (by rw [Bool.or_eq_true, ieq_iff, ieq_iff]; omega), if_neg h4]
 by_cases h5 : op = 19
 ·rw [if_pos (by rw [ieq_iff]; exact h5), if_pos h5]
  have qi : s_Bits u 12 20 = some (u / 4096 % 1048576) := bK 12 20 4096 1048576 (by decide) (by decide) (by decide)
  rw [qi, bind_some']
 rw [if_neg (by rw [ieq_iff]; exact h5), if_neg h5]
 by_cases h6 : op = 20
 ·rw [if_pos (by rw [ieq_iff]; exact h6), if_pos h6]
  have q1 : s_Bits u 31 1 = some (u / 2147483648 % 2) := bK 31 1 2147483648 2 (by decide) (by decide) (by decide)
  have q2 : s_Bits u 12 8 = some (u / 4096 % 256) := bK 12 8 4096 256 (by decide) (by decide) (by decide)
  have q3 : s_Bits u 20 1 = some (u / 1048576 % 2) := bK 20 1 1048576 2 (by decide) (by decide) (by decide)
  have q4 : s_Bits u 21 10 = some (u / 2097152 % 1024) := bK 21 10 2097152 1024 (by decide) (by decide) (by decide)
  rw [q1, bind_some', q2, bind_some', q3, bind_some', q4, bind_some']
  simp (disch := omega) only [imul_eq, iadd_eq]
  rw [show (21 : Int) = ((21 : Nat) : Int) from rfl, sK _ 21 2097152 1048576 (by decide) (by decide) (by decide) (by decide) (by omega), bind_some']
 rw [if_neg (by rw [ieq_iff]; exact h6), if_neg h6]

theorem loop_op (u : Int) (hu : 0 ≤ u ∧ u < 4294967296) : ∀ (m : Nat) (k : Int), k + (m : Int) = 12 → 1 ≤ k →
  (∃ j, k ≤ j ∧ j ≤ 11 ∧ (u / 4096 % 8 = T3 j ∧ u / 33554432 % 128 = T7 j) ∧ loopM (s_l42Op_L1 u) k = some (.inr j)) ∨ ((∀ j, k ≤ j ∧ j ≤ 11 → ¬ (u / 4096 % 8 = T3 j ∧ u / 33554432 % 128 = T7 j)) ∧ loopM (s_l42Op_L1 u) k = some (.inl ())) := by
 intro m
 induction m with
 | zero =>
  intro k hk _
  right
  refine ⟨fun j hj => by omega, loopM_done ?_⟩
  unfold s_l42Op_L1
  dsimp only
  rw [if_neg (by rw [ile_iff]; omega)]
 | succ m ih =>
  intro k hk h1
  obtain ⟨_, f3, f7, _, t3, t7, _, _, z3, z7⟩ := row_R k (by omega)
  have q3 : s_Bits u 12 3 = some (u / 4096 % 8) := bitsK u 12 3 4096 8 (by decide) (by decide) hu (by decide)
  have q7 : s_Bits u 25 7 = some (u / 33554432 % 128) := bitsK u 25 7 33554432 128 (by decide) (by decide) hu (by decide)
  have st : s_l42Op_L1 u k = if (u / 4096 % 8 = T3 k ∧ u / 33554432 % 128 = T7 k) then some (.done (.inr k)) else some (.next (k + 1)) := by
   unfold s_l42Op_L1
   dsimp only
   rw [if_pos (by rw [ile_iff]; omega), q3, bind_some', t3, bind_some', z3, q7, iadd_eq _ _ (by omega)]
   by_cases a : u / 4096 % 8 = T3 k
   ·rw [if_pos (by rw [ieq_iff]; exact a), bind_some', t7, bind_some', z7, bind_some']
    by_cases b : u / 33554432 % 128 = T7 k
    ·rw [if_pos (by rw [ieq_iff]; exact b), if_pos ⟨a, b⟩]
    ·rw [if_neg (by rw [ieq_iff]; exact b), if_neg (fun q => b q.2)]
   ·rw [if_neg (by rw [ieq_iff]; exact a), bind_some', if_neg (by decide), if_neg (fun q => a q.1)]
  by_cases hq : u / 4096 % 8 = T3 k ∧ u / 33554432 % 128 = T7 k
  ·rw [if_pos hq] at st
   exact .inl ⟨k, by omega, by omega, hq, loopM_done st⟩
  ·rw [if_neg hq] at st
   rw [loopM_next st]
   rcases ih (k + 1) (by omega) (by omega) with ⟨j, a, b, c, d⟩ | ⟨a, b⟩
   ·exact .inl ⟨j, by omega, b, c, d⟩
   ·refine .inr ⟨fun j hj => ?_, b⟩
    by_cases e : j = k
    ·subst e; exact hq
    ·exact a j (by omega)

theorem opS (u : Int) (hu : 0 ≤ u ∧ u < 4294967296) : ∃ op, s_l42Op u = some op ∧ 0 ≤ op ∧ op ≤ 21 ∧ ∀ k, 1 ≤ k ∧ k ≤ 21 → mt k u → op = k := by
 have q0 : s_Bits u 0 7 = some (u / 1 % 128) := bitsK u 0 7 1 128 (by decide) (by decide) hu (by decide)
 rw [Int.ediv_one] at q0
 have q3 : s_Bits u 12 3 = some (u / 4096 % 8) := bitsK u 12 3 4096 8 (by decide) (by decide) hu (by decide)
 unfold s_l42Op
 rw [q0, bind_some', q3]
 by_cases a1 : u % 128 = 51
 ·rw [if_pos (by rw [ieq_iff]; exact a1)]
  rcases loop_op u hu 11 1 (by decide) (by decide) with ⟨j, b1, b2, b3, b4⟩ | ⟨b1, b2⟩
  ·rw [b4]
   refine ⟨j, rfl, by omega, by omega, fun k hk hm => ?_⟩
   have cj := opc_cases j (by omega)
   exact mt_uniq (by omega) hk ⟨by omega, fun _ => b3.1, fun _ => b3.2⟩ hm
  ·rw [b2]
   refine ⟨0, rfl, by omega, by omega, fun k hk hm => ?_⟩
   have ck := opc_cases k hk
   obtain ⟨m1, m2, m3⟩ := hm
   have : k ≤ 11 := by omega
   exact absurd ⟨m2 (by omega), m3 this⟩ (b1 k (by omega))
 rw [if_neg (by rw [ieq_iff]; exact a1)]
 by_cases a2 : u % 128 = 19
 ·rw [if_pos (by rw [ieq_iff]; exact a2), bind_some']
  by_cases c : u / 4096 % 8 = 0
  ·rw [if_pos (by rw [ieq_iff]; exact c)]
   refine ⟨12, rfl, by omega, by omega, fun k hk hm => ?_⟩
   have ck := opc_cases k hk
   obtain ⟨m1, m2, m3⟩ := hm
   have h2 := m2
   have : k = 12 ∨ k = 13 := by omega
   rcases this with rfl | rfl
   ·rfl
   ·have : T3 13 = 3 := rfl
    have := m2 (by decide); omega
  ·rw [if_neg (by rw [ieq_iff]; exact c)]
   refine ⟨13, rfl, by omega, by omega, fun k hk hm => ?_⟩
   have ck := opc_cases k hk
   obtain ⟨m1, m2, m3⟩ := hm
   have : k = 12 ∨ k = 13 := by omega
   rcases this with rfl | rfl
   ·have : T3 12 = 0 := rfl
    have := m2 (by decide); omega
   ·rfl
 rw [if_neg (by rw [ieq_iff]; exact a2)]
 by_cases a3 : u % 128 = 3
 ·rw [if_pos (by rw [ieq_iff]; exact a3)]
  refine ⟨14, rfl, by omega, by omega, fun k hk hm => ?_⟩
  have ck := opc_cases k hk
  have := hm.1; omega
 rw [if_neg (by rw [ieq_iff]; exact a3)]
 by_cases a4 : u % 128 = 103
 ·rw [if_pos (by rw [ieq_iff]; exact a4)]
  refine ⟨15, rfl, by omega, by omega, fun k hk hm => ?_⟩
  have ck := opc_cases k hk
  have := hm.1; omega
 rw [if_neg (by rw [ieq_iff]; exact a4)]
 by_cases a5 : u % 128 = 35
 ·rw [if_pos (by rw [ieq_iff]; exact a5)]
  refine ⟨16, rfl, by omega, by omega, fun k hk hm => ?_⟩
  have ck := opc_cases k hk
  have := hm.1; omega
 rw [if_neg (by rw [ieq_iff]; exact a5)]
 by_cases a6 : u % 128 = 99
 ·rw [if_pos (by rw [ieq_iff]; exact a6), bind_some']
  by_cases c : u / 4096 % 8 = 0
  ·rw [if_pos (by rw [ieq_iff]; exact c)]
   refine ⟨17, rfl, by omega, by omega, fun k hk hm => ?_⟩
   have ck := opc_cases k hk
   obtain ⟨m1, m2, m3⟩ := hm
   have : k = 17 ∨ k = 18 := by omega
   rcases this with rfl | rfl
   ·rfl
   ·have : T3 18 = 1 := rfl
    have := m2 (by decide); omega
  ·rw [if_neg (by rw [ieq_iff]; exact c)]
   refine ⟨18, rfl, by omega, by omega, fun k hk hm => ?_⟩
   have ck := opc_cases k hk
   obtain ⟨m1, m2, m3⟩ := hm
   have : k = 17 ∨ k = 18 := by omega
   rcases this with rfl | rfl
   ·have : T3 17 = 0 := rfl
    have := m2 (by decide); omega
   ·rfl
 rw [if_neg (by rw [ieq_iff]; exact a6)]
 by_cases a7 : u % 128 = 55
 ·rw [if_pos (by rw [ieq_iff]; exact a7)]
  refine ⟨19, rfl, by omega, by omega, fun k hk hm => ?_⟩
  have ck := opc_cases k hk
  have := hm.1; omega
 rw [if_neg (by rw [ieq_iff]; exact a7)]
 by_cases a8 : u % 128 = 111
 ·rw [if_pos (by rw [ieq_iff]; exact a8)]
  refine ⟨20, rfl, by omega, by omega, fun k hk hm => ?_⟩
  have ck := opc_cases k hk
  have := hm.1; omega
 rw [if_neg (by rw [ieq_iff]; exact a8)]
 by_cases a9 : u % 128 = 115
 ·rw [if_pos (by rw [ieq_iff]; exact a9)]
  refine ⟨21, rfl, by omega, by omega, fun k hk hm => ?_⟩
  have ck := opc_cases k hk
  have := hm.1; omega
 rw [if_neg (by rw [ieq_iff]; exact a9)]
 refine ⟨0, rfl, by omega, by omega, fun k hk hm => ?_⟩
 have ck := opc_cases k hk
 have := hm.1; omega

theorem fld_op (op u : Int) : (fld op u).Op = op := by
 unfold fld
 repeat' split
 all_goals rfl

theorem dec_eq (u : Int) (hu : 0 ≤ u ∧ u < 4294967296) : (∃ p, VP p ∧ i_InstrDecode u = some (p, true) ∧ s_InstrDecode u = some (p, true)) ∨ (i_InstrDecode u = some (⟨0, 0, 0, 0, 0⟩, false) ∧ s_InstrDecode u = some (⟨0, 0, 0, 0, 0⟩, false)) := by
 obtain ⟨o, h1, h2, h3, h4⟩ := opS u hu
 have e0 : (ige u 0 && ile u 4294967295) = true := by simp [ige, ile]; omega
 have hs : s_InstrDecode u = if o = 0 then some (⟨0, 0, 0, 0, 0⟩, false) else if encZ (fld o u) = u then some (fld o u, true) else some (⟨0, 0, 0, 0, 0⟩, false) := by
  unfold s_InstrDecode
  rw [in6, e0, bind_some', h1]
  by_cases ho : o = 0
  ·subst ho; rfl
  ·have e1 : ieq o 0 = false := nieq ho
   have v := VP_fld o u (by omega)
   simp only [bind_some', tt, Bool.false_eq_true, if_false, e1, fields_val o u (by omega) hu, enc_s _ v, if_neg ho]
   by_cases hq : encZ (fld o u) = u
   ·rw [if_neg (by rw [ine_iff]; exact fun a => a hq), if_pos hq]
   ·rw [if_pos (by rw [ine_iff]; exact hq), if_neg hq]
 rcases dec_i u hu with ⟨op, k1, k2, k3, k4⟩ | ⟨k1, k2⟩
 ·obtain rfl := h4 op k1 k2
  refine .inl ⟨_, VP_fld o u k1, k4, ?_⟩
  rw [hs, if_neg (by omega), if_pos k3]
 ·refine .inr ⟨k2, ?_⟩
  rw [hs]
  by_cases ho : o = 0
  ·rw [if_pos ho]
  ·rw [if_neg ho]
   by_cases hq : encZ (fld o u) = u
   ·have := (encZ_fld _ (VP_fld o u (by omega))).2.2.1
    rw [fld_op, hq] at this
    exact absurd hq (k1 o (by omega) this)
   ·rw [if_neg hq]

/-! operators -/
theorem w64 (y : Int) : -9223372036854775808 ≤ IntKind.i64.wrap y ∧ IntKind.i64.wrap y ≤ 9223372036854775807 := by
 rw [IntKind.wrap_i64]; omega
theorem wrap_both (x : Int) (h : -9223372036854775808 ≤ x ∧ x ≤ 9223372036854775807) : ∃ w, i_Wrap x = some w ∧ s_Wrap x = some w ∧ isW w = true := by
 refine ⟨_, (wrap_eq x h).trans (wrap_val x h), wrap_val x h, ?_⟩
 unfold isW; simp; omega
theorem isW_iff (x : Int) : isW x = true ↔ -2147483648 ≤ x ∧ x ≤ 2147483647 := by unfold isW; simp
theorem shr_w (a : Int) (k : Nat) (h : -2147483648 ≤ a ∧ a ≤ 2147483647) : -2147483648 ≤ a / 2 ^ k ∧ a / 2 ^ k ≤ 2147483647 := by
 have h1 : (1 : Int) ≤ 2 ^ k := by exact_mod_cast Nat.one_le_two_pow
 generalize (2 : Int) ^ k = b at h1 ⊢
 constructor
 ·rw [Int.le_ediv_iff_mul_le (by omega)]
  have : -2147483648 * b ≤ -2147483648 := by omega
  omega
 ·have : a / b ≤ 2147483647 / 1 ∨ True := .inr trivial
  by_cases h0 : 0 ≤ a
  ·have := Int.ediv_le_self b h0; omega
  ·have := Int.ediv_neg_of_neg_of_pos (by omega : a < 0) (by omega : 0 < b); omega
theorem tmod_w (a b : Int) (hb : -2147483648 ≤ b ∧ b ≤ 2147483647) (h0 : b ≠ 0) (ha : -2147483648 ≤ a ∧ a ≤ 2147483647) : -2147483648 ≤ a.tmod b ∧ a.tmod b ≤ 2147483647 := by
 have h1 : (a.tmod b).natAbs = a.natAbs % b.natAbs := Int.natAbs_tmod a b
 have h2 : a.natAbs % b.natAbs < b.natAbs := Nat.mod_lt _ (by omega)
 omega
theorem apply_eq (n a b : Int) (hn : 1 ≤ n ∧ n ≤ 12) (ha : -2147483648 ≤ a ∧ a ≤ 2147483647) (hb : -2147483648 ≤ b ∧ b ≤ 2147483647) : ∃ r, i_apply n a b = some r ∧ s_Apply n a b = some (r, true) ∧ isW r = true := by
 have wa := (isW_iff a).2 ha
 have wb := (isW_iff b).2 hb
 obtain ⟨s0, s1⟩ := and31 b hb
 have hv : s_OpValid n = some true := by
  unfold s_OpValid; rw [in6, bind_some']; congr 1; simp [ige, ile]; omega
 have fl : ∀ c : Bool, s_l2Flag c = i_truth c := fun _ => rfl
 have tw : ∀ c : Bool, ∃ r, i_truth c = some r ∧ isW r = true := by
  intro c; cases c
  ·exact ⟨0, rfl, rfl⟩
  ·exact ⟨1, rfl, rfl⟩
 unfold i_apply s_Apply
 rw [hv, s_WordValid_val, s_WordValid_val, wa, wb]
 unfold s_l2Divide s_l2Remain
 generalize hz : ieq b 0 = z
 simp only [bind_some', tt, Bool.false_eq_true, if_false, bind_id]
 obtain rfl | rfl | rfl | rfl | rfl | rfl | rfl | rfl | rfl | rfl | rfl | rfl : n = 1 ∨ n = 2 ∨ n = 3 ∨ n = 4 ∨ n = 5 ∨ n = 6 ∨ n = 7 ∨ n = 8 ∨ n = 9 ∨ n = 10 ∨ n = 11 ∨ n = 12 := by omega
 all_goals simp -implicitDefEqProofs only [ieq, Int.reduceBEq, Bool.false_eq_true, if_false, if_true]
 ·exact ⟨_, rfl, rfl, by rw [isW_iff, ior_w a b ha hb]; exact bw _⟩
 ·exact ⟨_, rfl, rfl, by rw [isW_iff, ixor_w a b ha hb]; exact bw _⟩
 ·exact ⟨_, rfl, rfl, by rw [isW_iff, iand_w a b ha hb]; exact bw _⟩
 ·obtain ⟨r, h1, h2⟩ := tw (a == b)
  rw [fl, h1]; exact ⟨r, rfl, rfl, h2⟩
 ·obtain ⟨r, h1, h2⟩ := tw (ilt a b)
  rw [fl, h1]; exact ⟨r, rfl, rfl, h2⟩
 ·unfold s_l2Shift
  rw [if_neg (by decide)]
  have e : shlx .i64 a (iand .i64 b 31) = some (IntKind.i64.wrap (a * 2 ^ (min (iand .i64 b 31).toNat IntKind.i64.bits))) := by unfold shlx; rw [if_neg (by omega)]
  rw [e, bind_some', bind_some']
  obtain ⟨w, h1, h2, h3⟩ := wrap_both _ (w64 (a * 2 ^ (min (iand .i64 b 31).toNat IntKind.i64.bits)))
  rw [h1, h2]; exact ⟨w, rfl, rfl, h3⟩
 ·unfold s_l2Shift
  rw [if_pos rfl]
  have e : shrx .i64 a (iand .i64 b 31) = some (a / 2 ^ (min (iand .i64 b 31).toNat IntKind.i64.bits)) := by
   unfold shrx
   rw [if_neg (by omega), Int.fdiv_eq_ediv_of_nonneg]
   exact_mod_cast Nat.zero_le _
  rw [e]
  exact ⟨_, rfl, rfl, (isW_iff _).2 (shr_w a _ ha)⟩
 ·obtain ⟨w, h1, h2, h3⟩ := wrap_both (iadd .i64 a b) (w64 _)
  rw [h1, h2]; exact ⟨w, rfl, rfl, h3⟩
 ·obtain ⟨w, h1, h2, h3⟩ := wrap_both (isub .i64 a b) (w64 _)
  rw [h1, h2]; exact ⟨w, rfl, rfl, h3⟩
 ·obtain ⟨w, h1, h2, h3⟩ := wrap_both (imul .i64 a b) (w64 _)
  rw [h1, h2]; exact ⟨w, rfl, rfl, h3⟩
 ·cases z
  case true => exact ⟨-1, rfl, rfl, rfl⟩
  case false =>
   have h : ¬ b = 0 := fun q => by rw [q] at hz; exact absurd hz (by decide)
   have e : quox .i64 a b = some (IntKind.i64.wrap (a.tdiv b)) := by unfold quox; rw [if_neg h]
   simp only [Bool.false_eq_true, if_false, e, bind_some']
   obtain ⟨w, h1, h2, h3⟩ := wrap_both _ (w64 (a.tdiv b))
   rw [h1, h2]; exact ⟨w, rfl, rfl, h3⟩
 ·cases z
  case true => exact ⟨a, rfl, rfl, wa⟩
  case false =>
   have h : ¬ b = 0 := fun q => by rw [q] at hz; exact absurd hz (by decide)
   have e : remx a b = some (a.tmod b) := by unfold remx; rw [if_neg h]
   simp only [Bool.false_eq_true, if_false, e, bind_some']
   exact ⟨_, rfl, rfl, (isW_iff _).2 (tmod_w a b hb h ha)⟩

theorem andNot1 (w : Int) (h : -2147483648 ≤ w ∧ w ≤ 2147483647) : iandNot .i64 w 1 = isub .i64 w (iand .i64 w 1) ∧ isW (iandNot .i64 w 1) = true := by
 have hx : (BitVec.ofInt 64 w).toInt = w := by
  rw [BitVec.toInt_ofInt]; simp only [Int.bmod]; omega
 generalize hX : BitVec.ofInt 64 w = x at hx
 have ht : (x &&& 1#64).toNat ≤ 1 := by rw [BitVec.toNat_and]; exact Nat.and_le_right
 have hti : (x &&& 1#64).toInt = ((x &&& 1#64).toNat : Int) := by
  rw [BitVec.toInt_eq_toNat_cond]; split <;> omega
 have hz : (x &&& 1#64) &&& (x &&& ~~~1#64) = 0#64 := by
  apply BitVec.eq_of_getLsbD_eq
  intro i hi
  simp only [BitVec.getLsbD_and, BitVec.getLsbD_not, BitVec.getLsbD_zero, hi]
  cases x.getLsbD i <;> cases (1#64).getLsbD i <;> simp
 have ho : (x &&& 1#64) ||| (x &&& ~~~1#64) = x := by
  apply BitVec.eq_of_getLsbD_eq
  intro i hi
  simp only [BitVec.getLsbD_or, BitVec.getLsbD_and, BitVec.getLsbD_not, hi]
  cases x.getLsbD i <;> cases (1#64).getLsbD i <;> simp
 have hs : (x &&& 1#64) + (x &&& ~~~1#64) = x := by rw [BitVec.add_eq_or_of_and_eq_zero _ _ hz, ho]
 have gen : ∀ p q r : BitVec 64, p + q = r → q = r - p := fun p q r h => by rw [← h, BitVec.add_comm, BitVec.add_sub_cancel]
 have hn : x &&& ~~~1#64 = x - (x &&& 1#64) := gen _ _ _ hs
 have e1 : iand .i64 w 1 = ((x &&& 1#64).toNat : Int) := by
  unfold iand
  show IntKind.i64.wrap ((BitVec.ofInt 64 w &&& BitVec.ofInt 64 1).toNat : Int) = _
  rw [hX, show BitVec.ofInt 64 1 = 1#64 from rfl, wr64 _ (by omega)]
 have e2 : iandNot .i64 w 1 = w - ((x &&& 1#64).toNat : Int) := by
  unfold iandNot
  show IntKind.i64.wrap ((BitVec.ofInt 64 w &&& ~~~(BitVec.ofInt 64 1)).toNat : Int) = _
  rw [hX, show BitVec.ofInt 64 1 = 1#64 from rfl, wrap_toInt, hn, BitVec.toInt_sub, hx, hti]
  simp only [Int.bmod]; omega
 rw [e1, e2, isub_eq _ _ (by omega)]
 refine ⟨rfl, ?_⟩
 -- the least word is even
 rw [isW_iff]
 have hp : w = -2147483648 → (x &&& 1#64).toNat = 0 := by
  rintro rfl
  rw [← hX]; rfl
 omega

/-! the machine's parts -/
structure Ma (m : gMachine) : Prop where
 rl : m.Regs.length = 32
 rw : m.Regs.all isW = true
 r0 : m.Regs[0]? = some 0
 pc : isW m.Pc = true
 ml : m.Mem.length ≤ 10000
 mw : m.Mem.all isW = true
theorem Ma_iff (m : gMachine) : isMach m = true ↔ Ma m := by
 unfold isMach
 simp only [Bool.and_eq_true, decide_eq_true_eq, beq_iff_eq]
 exact ⟨fun ⟨⟨⟨⟨⟨a, b⟩, c⟩, d⟩, e⟩, f⟩ => ⟨a, b, c, d, e, f⟩, fun h => ⟨⟨⟨⟨⟨h.rl, h.rw⟩, h.r0⟩, h.pc⟩, h.ml⟩, h.mw⟩⟩
theorem all_get {l : List Int} (h : l.all isW = true) {i x : Int} (hx : idx l i = some x) : isW x = true := by
 obtain ⟨_, _, h3⟩ := idx_lt3 hx
 exact List.all_eq_true.1 h x (List.mem_of_getElem? h3)
theorem Ma.reg {m : gMachine} (h : Ma m) {r : Int} (hr : 0 ≤ r ∧ r ≤ 31) : ∃ v, idx m.Regs r = some v ∧ -2147483648 ≤ v ∧ v ≤ 2147483647 := by
 have := h.rl
 obtain ⟨v, hv, _⟩ := idx_ok m.Regs r (by omega) (by omega)
 have := (isW_iff v).1 (all_get h.rw hv)
 exact ⟨v, hv, this.1, this.2⟩
def upd (R : List Int) (rd v : Int) : List Int := if rd = 0 then R else R.set rd.toNat v
theorem set_val (m : gMachine) (rd v : Int) (h : 0 ≤ rd ∧ rd ≤ 31) (hl : m.Regs.length = 32) : i_Machine_set_moo m rd v = some ⟨upd m.Regs rd v, m.Pc, m.Mem⟩ := by
 unfold i_Machine_set_moo upd
 by_cases h0 : rd = 0
 ·rw [if_neg (by rw [ine_iff]; exact fun a => a h0), if_pos h0]
 ·obtain ⟨w, hw, _⟩ := idx_ok m.Regs rd (by omega) (by omega)
  rw [if_pos (by rw [ine_iff]; exact h0), if_neg h0, hw, bind_some', setx_ok v hw]; rfl
theorem all_upd {l : List Int} {k : Nat} {x : Int} (h : l.all isW = true) (hx : isW x = true) : (l.set k x).all isW = true := by
 rw [List.all_eq_true] at h ⊢
 intro y hy
 rcases List.mem_or_eq_of_mem_set hy with hy | rfl
 ·exact h y hy
 ·exact hx
theorem Ma.upd {m : gMachine} (h : Ma m) {rd v pc : Int} (hr : 0 ≤ rd ∧ rd ≤ 31) (hv : isW v = true) (hp : isW pc = true) : Ma ⟨upd m.Regs rd v, pc, m.Mem⟩ := by
 unfold Go.Abs.upd
 split
 ·exact ⟨h.rl, h.rw, h.r0, hp, h.ml, h.mw⟩
 ·rename_i h0
  refine ⟨by simp [h.rl], all_upd h.rw hv, ?_, hp, h.ml, h.mw⟩
  show (m.Regs.set rd.toNat v)[0]? = some 0
  rw [List.getElem?_set_ne (by omega)]; exact h.r0
theorem word_cases (m : gMachine) (a : Int) (hl : m.Mem.length ≤ 10000) (ha : -2147483648 ≤ a ∧ a ≤ 2147483647) :
  (∃ k : Nat, k < m.Mem.length ∧ a = 4 * (k : Int) ∧ i_Machine_word_c0_2_moo m a = some (some (k : Int)) ∧ s_l44Word m.Mem a = some true ∧ quox .i64 a 4 = some (k : Int)) ∨ (i_Machine_word_c0_2_moo m a = some none ∧ s_l44Word m.Mem a = some false) := by
 unfold i_Machine_word_c0_2_moo s_l44Word
 by_cases h0 : a < 0
 ·right
  rw [if_pos (by rw [ilt_iff]; exact h0), if_neg (by rw [ige_iff]; omega)]
  exact ⟨rfl, rfl⟩
 have q : quox .i64 a 4 = some (a / 4) := quox_eq _ _ (by omega) (by omega) (by decide)
 have r : remx a 4 = some (a % 4) := remx_eq _ _ (by omega) (by decide)
 rw [if_neg (by rw [ilt_iff]; exact h0), if_pos (by rw [ige_iff]; omega), r, q]
 simp only [bind_some']
 by_cases h4 : a % 4 = 0
 ·have e1 : ine (a % 4) 0 = false := by rw [h4]; rfl
  have e2 : ieq (a % 4) 0 = true := by rw [ieq_iff]; exact h4
  simp only [e1, e2, Bool.false_eq_true, if_false, if_true, bind_some']
  by_cases hb : a / 4 < m.Mem.length
  ·left
   have e3 : ige (a / 4) (ilen m.Mem) = false := by rw [Bool.eq_false_iff, ne_eq, ige_iff]; unfold ilen; omega
   have e4 : ilt (a / 4) (ilen m.Mem) = true := by rw [ilt_iff]; unfold ilen; omega
   have ek : ((a / 4).toNat : Int) = a / 4 := by omega
   obtain ⟨v, hv, _⟩ := idx_ok m.Mem (a / 4) (by omega) hb
   refine ⟨(a / 4).toNat, by omega, by omega, ?_, ?_, ?_⟩
   ·rw [e3, if_neg (by decide), hv, bind_some', ek]
   ·rw [e4]
   ·rw [ek]
  ·right
   have e3 : ige (a / 4) (ilen m.Mem) = true := by rw [ige_iff]; unfold ilen; omega
   have e4 : ilt (a / 4) (ilen m.Mem) = false := by rw [Bool.eq_false_iff, ne_eq, ilt_iff]; unfold ilen; omega
   rw [e3, e4, if_pos rfl]
   exact ⟨rfl, rfl⟩
 ·right
  have e1 : ine (a % 4) 0 = true := by rw [ine_iff]; exact h4
  have e2 : ieq (a % 4) 0 = false := nieq h4
  rw [e1, e2]
  exact ⟨rfl, rfl⟩

theorem ops_val (op : Int) (h : 1 ≤ op ∧ op ≤ 11) : ∃ o, idx ([8, 9, 10, 11, 12, 3, 1, 2, 6, 7, 5] : List Int) (isub .i64 op 1) = some o ∧ 1 ≤ o ∧ o ≤ 12 := by
 obtain rfl | rfl | rfl | rfl | rfl | rfl | rfl | rfl | rfl | rfl | rfl : op = 1 ∨ op = 2 ∨ op = 3 ∨ op = 4 ∨ op = 5 ∨ op = 6 ∨ op = 7 ∨ op = 8 ∨ op = 9 ∨ op = 10 ∨ op = 11 := by omega
 all_goals exact ⟨_, rfl, by decide, by decide⟩
theorem n31 {m : gMachine} : (3 : Int) = 1 → Ma m := fun h => absurd h (by decide)

theorem step_eq (m : gMachine) (hM : Ma m) : ∃ c m', i_Machine_step m = some (c, m') ∧ s_l44Step m = some (c, m') ∧ (c = 1 → Ma m') := by
 have hpc := (isW_iff _).1 hM.pc
 unfold i_Machine_step s_l44Step
 rcases word_cases m m.Pc hM.ml hpc with ⟨k, hk, ep, w1, w2, w3⟩ | ⟨w1, w2⟩
 case inr =>
  rw [w1, w2, bind_some', bind_some']
  exact ⟨3, m, rfl, rfl, n31⟩
 have hml := hM.ml
 have hv : ∃ v, idx m.Mem (k : Int) = some v := ⟨_, idx_at (List.getElem?_eq_getElem hk)⟩
 obtain ⟨v, hv⟩ := hv
 obtain ⟨u, hu, bu, _⟩ := uns v ((isW_iff v).1 (all_get hM.mw hv))
 have hu2 : s_Unsigned v = some u := by rw [← unsigned_eq]; exact hu
 simp only [w1, w2, w3, bind_some', Option.isNone_some, Bool.false_eq_true, if_false, tt, hv, hu, hu2]
 rcases dec_eq u bu with ⟨p, vp, d1, d2⟩ | ⟨d1, d2⟩
 case inr =>
  rw [d1, d2, bind_some', bind_some']
  exact ⟨3, m, rfl, rfl, n31⟩
 have hr : (0 ≤ p.Rs ∧ p.Rs ≤ 31) ∧ (0 ≤ p.Rt ∧ p.Rt ≤ 31) ∧ (0 ≤ p.Rd ∧ p.Rd ≤ 31) ∧ (1 ≤ p.Op ∧ p.Op ≤ 21) ∧ (-1048576 ≤ p.Imm ∧ p.Imm ≤ 1048575) := by unfold VP at vp; omega
 obtain ⟨r1, r2, r3, r4, r5⟩ := hr
 obtain ⟨a, ha, wa⟩ := hM.reg r1
 obtain ⟨b, hb, wb⟩ := hM.reg r2
 have en : iadd .i64 m.Pc 4 = m.Pc + 4 := iadd_eq _ _ (by omega)
 have e4s : s_Wrap (m.Pc + 4) = some (m.Pc + 4) := by rw [wrap_val _ (by omega)]; congr 1; omega
 have e4 : i_Wrap (m.Pc + 4) = some (m.Pc + 4) := (wrap_eq _ (by omega)).trans e4s
 have wn : isW (m.Pc + 4) = true := (isW_iff _).2 (by omega)
 have st : ∀ v, i_Machine_set_moo m p.Rd v = some ⟨upd m.Regs p.Rd v, m.Pc, m.Mem⟩ := fun v => set_val m p.Rd v r3 hM.rl
 have st2 : ∀ v, i_Machine_set_c0_2_moo m p.Rd v = some ⟨upd m.Regs p.Rd v, m.Pc, m.Mem⟩ := st
 have st3 : ∀ v, s_l44Set_moo m p.Rd v = some ⟨upd m.Regs p.Rd v, m.Pc, m.Mem⟩ := st
 have st4 : ∀ v, s_l44Set_c0_2_moo m p.Rd v = some ⟨upd m.Regs p.Rd v, m.Pc, m.Mem⟩ := st
 have st5 : ∀ v, s_l44Set_c0_0_moo m p.Rd v = some ⟨upd m.Regs p.Rd v, m.Pc, m.Mem⟩ := st
 obtain ⟨aw, aw1, aw2, aw3⟩ := wrap_both (iadd .i64 a p.Imm) (w64 _)
 obtain ⟨pw, pw1, pw2, pw3⟩ := wrap_both (iadd .i64 m.Pc p.Imm) (w64 _)
 have baw := (isW_iff _).1 aw3
 unfold s_l44Do s_l44Jump_moo s_l44Load
 simp only [d1, d2, bind_some', tt, Bool.false_eq_true, if_false, ha, hb, en, e4, e4s, st, st2, st3, st4, st5, aw1, aw2, pw1, pw2]
 have hop : (1 ≤ p.Op ∧ p.Op ≤ 11) ∨ p.Op = 12 ∨ p.Op = 13 ∨ p.Op = 14 ∨ p.Op = 15 ∨ p.Op = 16 ∨ p.Op = 17 ∨ p.Op = 18 ∨ p.Op = 19 ∨ p.Op = 20 ∨ p.Op = 21 := by omega
 generalize hab : ieq a b = ab
 rcases hop with h | h | h | h | h | h | h | h | h | h | h
 ·obtain ⟨o, o1, o2⟩ := ops_val p.Op h
  obtain ⟨r, q1, q2, q3⟩ := apply_eq o a b o2 wa wb
  have n12 : ieq p.Op 12 = false := nieq (by omega)
  have n13 : ieq p.Op 13 = false := nieq (by omega)
  have n14 : ieq p.Op 14 = false := nieq (by omega)
  have n15 : ieq p.Op 15 = false := nieq (by omega)
  have n16 : ieq p.Op 16 = false := nieq (by omega)
  have n17 : ieq p.Op 17 = false := nieq (by omega)
  have n18 : ieq p.Op 18 = false := nieq (by omega)
  have n19 : ieq p.Op 19 = false := nieq (by omega)
  have n20 : ieq p.Op 20 = false := nieq (by omega)
  have n21 : ieq p.Op 21 = false := nieq (by omega)
  have alu : s_l44Alu p.Op a b = some r := by
   unfold s_l44Alu
   rw [o1, bind_some', q2]; rfl
  simp -implicitDefEqProofs only [bind_some', Bool.false_eq_true, if_false, n12, n13, n14, n15, n16, n17, n18, n19, n20, n21, o1, q1, alu, st, st5, en]
  exact ⟨1, _, rfl, rfl, fun _ => hM.upd r3 q3 wn⟩
 ·simp -implicitDefEqProofs only [h, ieq, Int.reduceBEq, Bool.false_eq_true, if_false, if_true, bind_some', en]
  exact ⟨1, _, rfl, rfl, fun _ => hM.upd r3 aw3 wn⟩
 ·obtain ⟨x, hx, _⟩ := unsigned_ok a
  obtain ⟨y, hy, _⟩ := unsigned_ok p.Imm
  have hx2 : s_Unsigned a = some x := by rw [← unsigned_eq]; exact hx
  have hy2 : s_Unsigned p.Imm = some y := by rw [← unsigned_eq]; exact hy
  have tw : ∀ c : Bool, ∃ r, i_truth c = some r ∧ s_l2Flag c = some r ∧ isW r = true := by
   intro c; cases c
   ·exact ⟨0, rfl, rfl, rfl⟩
   ·exact ⟨1, rfl, rfl, rfl⟩
  obtain ⟨r, t1, t2, t3⟩ := tw (ilt x y)
  simp -implicitDefEqProofs only [h, ieq, Int.reduceBEq, Bool.false_eq_true, if_false, if_true, bind_some', en, hx, hy, hx2, hy2, t1, t2, st, st3]
  exact ⟨1, _, rfl, rfl, fun _ => hM.upd r3 t3 wn⟩
 ·simp -implicitDefEqProofs only [h, ieq, Int.reduceBEq, Bool.false_eq_true, if_false, if_true, bind_some', en]
  rcases word_cases m aw hM.ml baw with ⟨j, hj, ej, x1, x2, x3⟩ | ⟨x1, x2⟩
  ·obtain ⟨y, hy⟩ : ∃ y, idx m.Mem (j : Int) = some y := ⟨_, idx_at (List.getElem?_eq_getElem hj)⟩
   simp -implicitDefEqProofs only [x1, x2, x3, bind_some', Option.isNone_some, Bool.false_eq_true, if_false, tt, hy, st2, st4, en]
   exact ⟨1, _, rfl, rfl, fun _ => hM.upd r3 (all_get hM.mw hy) wn⟩
  ·rw [x1, x2, bind_some', bind_some']
   exact ⟨3, m, rfl, rfl, n31⟩
 ·obtain ⟨z1, z2⟩ := andNot1 aw baw
  simp -implicitDefEqProofs only [h, ieq, Int.reduceBEq, Bool.false_eq_true, if_false, if_true, bind_some', z1] at z2 ⊢
  exact ⟨1, _, rfl, rfl, fun _ => hM.upd r3 wn z2⟩
 ·simp -implicitDefEqProofs only [h, ieq, Int.reduceBEq, Bool.false_eq_true, if_false, if_true, bind_some', en]
  rcases word_cases m aw hM.ml baw with ⟨j, hj, ej, x1, x2, x3⟩ | ⟨x1, x2⟩
  ·obtain ⟨y, hy⟩ : ∃ y, idx m.Mem (j : Int) = some y := ⟨_, idx_at (List.getElem?_eq_getElem hj)⟩
   simp -implicitDefEqProofs only [x1, x2, x3, bind_some', Option.isNone_some, Bool.false_eq_true, if_false, tt, hy, setx_ok b hy, en]
   exact ⟨1, _, rfl, rfl, fun _ => ⟨hM.rl, hM.rw, hM.r0, wn, by simp [hM.ml], all_upd hM.mw ((isW_iff b).2 wb)⟩⟩
  ·rw [x1, x2, bind_some', bind_some']
   exact ⟨3, m, rfl, rfl, n31⟩
 ·simp -implicitDefEqProofs only [h, ieq, Int.reduceBEq, Bool.false_eq_true, if_false, if_true, bind_some']
  cases beqb ab true
  ·exact ⟨1, _, rfl, rfl, fun _ => ⟨hM.rl, hM.rw, hM.r0, wn, hM.ml, hM.mw⟩⟩
  ·exact ⟨1, _, rfl, rfl, fun _ => ⟨hM.rl, hM.rw, hM.r0, pw3, hM.ml, hM.mw⟩⟩
 ·simp -implicitDefEqProofs only [h, ieq, Int.reduceBEq, Bool.false_eq_true, if_false, if_true, bind_some']
  cases beqb ab false
  ·exact ⟨1, _, rfl, rfl, fun _ => ⟨hM.rl, hM.rw, hM.r0, wn, hM.ml, hM.mw⟩⟩
  ·exact ⟨1, _, rfl, rfl, fun _ => ⟨hM.rl, hM.rw, hM.r0, pw3, hM.ml, hM.mw⟩⟩
 ·obtain ⟨lw, lw1, lw2, lw3⟩ := wrap_both (imul .i64 p.Imm 4096) (w64 _)
  simp -implicitDefEqProofs only [h, ieq, Int.reduceBEq, Bool.false_eq_true, if_false, if_true, bind_some', en, lw1, lw2, st, st3]
  exact ⟨1, _, rfl, rfl, fun _ => hM.upd r3 lw3 wn⟩
 ·simp -implicitDefEqProofs only [h, ieq, Int.reduceBEq, Bool.false_eq_true, if_false, if_true, bind_some', pw1, pw2]
  exact ⟨1, _, rfl, rfl, fun _ => hM.upd r3 wn pw3⟩
 ·simp -implicitDefEqProofs only [h, ieq, Int.reduceBEq, Bool.false_eq_true, if_false, if_true, bind_some']
  exact ⟨2, m, rfl, rfl, fun h => absurd h (by decide)⟩
end Go.Abs
