/- The machine at one instruction: what is fetched, and what a step does. -/
import Derived.Test.YtlcilhmkbmgkeaaDoorNDc
import Derived.Test.YtlcilhmkbmgkeaaDoorNPlIC
set_option linter.unusedSimpArgs false
set_option linter.unusedVariables false
set_option maxHeartbeats 8000000
set_option maxRecDepth 20000
namespace Go.Abs
open Go

theorem wrap_ex (e : Int) (he : -9223372036854775808 ≤ e ∧ e ≤ 9223372036854775807) : ∃ w, i_Wrap e = some w ∧ (-2147483648 ≤ w ∧ w ≤ 2147483647) ∧ (w - e) % 4294967296 = 0 := by
  refine ⟨_, (wrap_eq e he).trans (wrap_val e he), by omega, by omega⟩
theorem wrap_is (e n : Int) (he : -9223372036854775808 ≤ e ∧ e ≤ 9223372036854775807) (hn : -2147483648 ≤ n ∧ n ≤ 2147483647) (h : (e - n) % 4294967296 = 0) : i_Wrap e = some n := by
  rw [wrap_eq e he, wrap_val e he]; congr 1; omega
theorem uns_wrap (e w : Int) (he : 0 ≤ e ∧ e < 4294967296) (hw : i_Wrap e = some w) : i_Unsigned w = some e := by
  have h1 := (wrap_eq e (by omega)).symm.trans hw
  rw [wrap_val e (by omega)] at h1
  have h1 := Option.some.inj h1
  obtain ⟨u, hu, _, eu⟩ := uns w (by omega)
  rw [hu]; congr 1; omega

theorem word_at (m : gMachine) (a : Int) (k : Nat) (hk : k < m.Mem.length) (hl : m.Mem.length ≤ 10000) (hp : a = 4 * (k : Int)) : i_Machine_word_c0_2_moo m a = some (some (k : Int)) := by
  subst hp
  have q : quox .i64 (4 * (k : Int)) 4 = some (k : Int) := by rw [quox_eq _ _ (by omega) (by omega) (by decide)]; congr 1; omega
  have r : remx (4 * (k : Int)) 4 = some 0 := by rw [remx_eq _ _ (by omega) (by decide)]; congr 1; omega
  have hx : ∃ v, idx m.Mem (k : Int) = some v := ⟨_, idx_at (List.getElem?_eq_getElem hk)⟩
  obtain ⟨v, hv⟩ := hx
  unfold i_Machine_word_c0_2_moo
  have z1 : ilt (4 * (k : Int)) 0 = false := by rw [Bool.eq_false_iff, ne_eq, ilt_iff]; omega
  have z2 : ige (k : Int) (ilen m.Mem) = false := by rw [Bool.eq_false_iff, ne_eq, ige_iff]; unfold ilen; omega
  simp -implicitDefEqProofs only [z1, Bool.false_eq_true, if_false, r, bind_some', q, z2, hv, show ine (0 : Int) 0 = false from rfl]

theorem set_reg (m : gMachine) (rd v : Int) (h : 1 ≤ rd ∧ rd ≤ 31) (hr : m.Regs.length = 32) : i_Machine_set_moo m rd v = some ⟨m.Regs.set rd.toNat v, m.Pc, m.Mem⟩ := by
  unfold i_Machine_set_moo
  have hx : ∃ w, idx m.Regs rd = some w := by
    obtain ⟨w, hw, _⟩ := idx_ok m.Regs rd (by omega) (by omega)
    exact ⟨w, hw⟩
  obtain ⟨w, hw⟩ := hx
  rw [if_pos (by rw [ine_iff]; omega), hw, bind_some']
  unfold setx
  rw [if_pos (by omega)]
  rfl
theorem set_reg2 (m : gMachine) (rd v : Int) (h : 1 ≤ rd ∧ rd ≤ 31) (hr : m.Regs.length = 32) : i_Machine_set_c0_2_moo m rd v = some ⟨m.Regs.set rd.toNat v, m.Pc, m.Mem⟩ := set_reg m rd v h hr

structure Next (m : gMachine) (k : Nat) (p : gInstr) : Prop where
  hk : k < m.Mem.length
  hl : m.Mem.length ≤ 10000
  hp : m.Pc = 4 * (k : Int)
  hr : m.Regs.length = 32
  vp : VP p
  mem : ∃ w, idx m.Mem (k : Int) = some w ∧ i_Wrap (encZ p) = some w

theorem Next.fetch {m : gMachine} {k : Nat} {p : gInstr} (h : Next m k p) : ∃ w, i_Machine_word_c0_2_moo m m.Pc = some (some (k : Int)) ∧ idx m.Mem (k : Int) = some w ∧ i_Unsigned w = some (encZ p) ∧ i_InstrDecode (encZ p) = some (p, true) ∧ i_Wrap (iadd .i64 m.Pc 4) = some (4 * ((k + 1 : Nat) : Int)) := by
  obtain ⟨w, h1, h2⟩ := h.mem
  obtain ⟨_, b, d⟩ := dec_enc p h.vp
  have := h.hk; have := h.hl
  refine ⟨w, word_at m _ k h.hk h.hl h.hp, h1, uns_wrap _ _ b h2, d, ?_⟩
  rw [h.hp, iadd_eq _ _ (by omega)]
  exact wrap_is _ _ (by omega) (by omega) (by omega)

theorem step_R {m : gMachine} {k : Nat} {op rd rs rt : Int} (n : Next m k ⟨op, rd, rs, rt, 0⟩) (hop : 1 ≤ op ∧ op ≤ 11) (hd : 1 ≤ rd ∧ rd ≤ 31) {a b o r : Int} (ha : idx m.Regs rs = some a) (hb : idx m.Regs rt = some b)
    (ho : idx ([8, 9, 10, 11, 12, 3, 1, 2, 6, 7, 5] : List Int) (isub .i64 op 1) = some o) (hres : i_apply o a b = some r) : i_Machine_step m = some (1, ⟨m.Regs.set rd.toNat r, 4 * ((k + 1 : Nat) : Int), m.Mem⟩) := by
  obtain ⟨w, f1, f2, f3, f4, f5⟩ := n.fetch
  have n12 : ieq op 12 = false := nieq (by omega)
  have n13 : ieq op 13 = false := nieq (by omega)
  have n14 : ieq op 14 = false := nieq (by omega)
  have n15 : ieq op 15 = false := nieq (by omega)
  have n16 : ieq op 16 = false := nieq (by omega)
  have n17 : ieq op 17 = false := nieq (by omega)
  have n18 : ieq op 18 = false := nieq (by omega)
  have n19 : ieq op 19 = false := nieq (by omega)
  have n20 : ieq op 20 = false := nieq (by omega)
  have n21 : ieq op 21 = false := nieq (by omega)
  unfold i_Machine_step
  rw [f1, bind_some', if_neg (by simp)]
  simp -implicitDefEqProofs only [bind_some', f2, f3, f4, tt, Bool.false_eq_true, if_false, ha, hb, f5, n12, n13, n14, n15, n16, n17, n18, n19, n20, n21, if_true, ho, hres, set_reg m rd r hd n.hr]

theorem step_sltiu {m : gMachine} {k : Nat} {rd rs imm : Int} (n : Next m k ⟨13, rd, rs, 0, imm⟩) (hd : 1 ≤ rd ∧ rd ≤ 31) {v x u j : Int} (hv : idx m.Regs rs = some v) (hu : i_Unsigned v = some u) (hj : i_Unsigned imm = some j) (h0 : idx m.Regs 0 = some x) :
    i_Machine_step m = some (1, ⟨m.Regs.set rd.toNat (if u < j then 1 else 0), 4 * ((k + 1 : Nat) : Int), m.Mem⟩) := by
  obtain ⟨w, f1, f2, f3, f4, f5⟩ := n.fetch
  have tr : i_truth (ilt u j) = some (if u < j then 1 else 0) := by
    unfold i_truth
    by_cases h : u < j
    · rw [if_pos (by rw [ilt_iff]; exact h), if_pos h]
    · rw [if_neg (by rw [ilt_iff]; exact h), if_neg h]
  unfold i_Machine_step
  rw [f1, bind_some', if_neg (by simp)]
  simp -implicitDefEqProofs only [bind_some', f2, f3, f4, tt, Bool.false_eq_true, if_false, hv, hu, hj, h0, f5, ieq, Int.reduceBEq, if_true, tr, set_reg m rd _ hd n.hr]

theorem step_lw {m : gMachine} {k : Nat} {rd rs imm : Int} (n : Next m k ⟨14, rd, rs, 0, imm⟩) (hd : 1 ≤ rd ∧ rd ≤ 31) {v x y : Int} (j : Nat) (hv : idx m.Regs rs = some v) (hb : -2147483648 ≤ v ∧ v ≤ 2147483647) (hi : -2048 ≤ imm ∧ imm ≤ 2047) (he : v + imm = 4 * (j : Int)) (hj : j < m.Mem.length)
    (hy : idx m.Mem (j : Int) = some y) (h0 : idx m.Regs 0 = some x) :
    i_Machine_step m = some (1, ⟨m.Regs.set rd.toNat y, 4 * ((k + 1 : Nat) : Int), m.Mem⟩) := by
  obtain ⟨w, f1, f2, f3, f4, f5⟩ := n.fetch
  have := n.hl
  have e2 : iadd .i64 v imm = 4 * (j : Int) := by rw [iadd_eq _ _ (by omega), he]
  have e3 : i_Wrap (4 * (j : Int)) = some (4 * (j : Int)) := wrap_is _ _ (by omega) (by omega) (by omega)
  have e4 := word_at m (4 * (j : Int)) j hj n.hl rfl
  unfold i_Machine_step
  rw [f1, bind_some', if_neg (by simp)]
  simp -implicitDefEqProofs only [bind_some', f2, f3, f4, tt, Bool.false_eq_true, if_false, hv, h0, f5, ieq, Int.reduceBEq, if_true, e2, e3, e4, Option.isNone_some, hy, set_reg2 m rd y hd n.hr]

theorem step_sw {m : gMachine} {k : Nat} {rs rt imm : Int} (n : Next m k ⟨16, 0, rs, rt, imm⟩) {v z : Int} (j : Nat) (hv : idx m.Regs rs = some v) (hb : -2147483648 ≤ v ∧ v ≤ 2147483647) (hi : -2048 ≤ imm ∧ imm ≤ 2047) (he : v + imm = 4 * (j : Int)) (hj : j < m.Mem.length)
    (hz : idx m.Regs rt = some z) :
    i_Machine_step m = some (1, ⟨m.Regs, 4 * ((k + 1 : Nat) : Int), m.Mem.set j z⟩) := by
  obtain ⟨w, f1, f2, f3, f4, f5⟩ := n.fetch
  have := n.hl
  have e2 : iadd .i64 v imm = 4 * (j : Int) := by rw [iadd_eq _ _ (by omega), he]
  have e3 : i_Wrap (4 * (j : Int)) = some (4 * (j : Int)) := wrap_is _ _ (by omega) (by omega) (by omega)
  have e4 := word_at m (4 * (j : Int)) j hj n.hl rfl
  have e5 : ∃ q, idx m.Mem (j : Int) = some q := ⟨_, idx_at (List.getElem?_eq_getElem hj)⟩
  obtain ⟨q, e5⟩ := e5
  have e6 : setx m.Mem (j : Int) z = some (m.Mem.set j z) := by
    unfold setx; rw [if_pos (by omega)]; rfl
  unfold i_Machine_step
  rw [f1, bind_some', if_neg (by simp)]
  simp -implicitDefEqProofs only [bind_some', f2, f3, f4, tt, Bool.false_eq_true, if_false, hv, hz, f5, ieq, Int.reduceBEq, if_true, e2, e3, e4, Option.isNone_some, e5, e6]
end Go.Abs
