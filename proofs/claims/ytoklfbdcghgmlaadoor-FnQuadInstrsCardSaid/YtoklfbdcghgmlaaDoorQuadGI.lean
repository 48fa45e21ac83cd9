/- Each instruction of a quad is valid, and its registers are among those that are meant for it. -/
import Derived.Test.YtoklfbdcghgmlaaDoorLaw5
set_option linter.unusedSimpArgs false
set_option linter.unusedVariables false
set_option maxHeartbeats 8000000
namespace Go.Abs
open Go

theorem bits_lt (u low : Int) (m : Nat) (hm : m ≤ 32) : ∃ v, s_Bits u low m = some v ∧ 0 ≤ v ∧ v < 2 ^ m := by
  have p0 : (0 : Int) < 2 ^ m := by exact_mod_cast Nat.pow_pos (n := m) (by decide : 0 < 2)
  unfold s_Bits
  simp only [s_l6In, bind_id, if_and, if_or, bind_some']
  by_cases h : 0 ≤ u ∧ u < 4294967296 ∧ 0 ≤ low ∧ low ≤ 31 ∧ 1 ≤ (m : Int) ∧ (m : Int) ≤ 32 - low
  · obtain ⟨h1, h2, h3, h4, h5, h6⟩ := h
    have es : isub .i64 32 low = 32 - low := isub_eq _ _ (by omega)
    have e' : (bnot (ige u 0 && ile u 4294967295) || bnot (ige low 0 && ile low 31) || bnot (ige (m : Int) 1 && ile (m : Int) (32 - low))) = false := by
      rw [Bool.eq_false_iff]; simp [bnot, ige, ile]; omega
    rw [es, e']
    simp only [Bool.false_eq_true, if_false]
    obtain ⟨l, rfl⟩ : ∃ l : Nat, low = l := ⟨low.toNat, by omega⟩
    rw [power_eq l (by omega), power_eq m (by omega)]
    have pl : (0 : Int) < 2 ^ l := by exact_mod_cast Nat.pow_pos (n := l) (by decide : 0 < 2)
    simp only [bind_some']
    rw [quox_eq u _ h1 (by omega) pl]
    simp only [bind_some']
    have hv0 : 0 ≤ u / 2 ^ l := Int.ediv_nonneg h1 (by omega)
    rw [remx_eq _ _ hv0 p0]
    exact ⟨_, rfl, Int.emod_nonneg _ (by omega), Int.emod_lt_of_pos _ p0⟩
  · have e' : (bnot (ige u 0 && ile u 4294967295) || bnot (ige low 0 && ile low 31) || bnot (ige (m : Int) 1 && ile (m : Int) (isub .i64 32 low))) = true := by
      by_cases hl : 0 ≤ low ∧ low ≤ 31
      · rw [isub_eq _ _ (by omega)]; simp [bnot, ige, ile]; omega
      · simp [bnot, ige, ile]; omega
    rw [e']; exact ⟨0, rfl, by omega, p0⟩
theorem sx12 (u : Int) (h : 0 ≤ u ∧ u < 4096) : ∃ v, s_SignExtend u 12 = some v ∧ -2048 ≤ v ∧ v ≤ 2047 := by
  unfold s_SignExtend
  simp only [s_l6In, bind_id, if_and, if_or, bind_some']
  have e11 : isub .i64 12 1 = ((11 : Nat) : Int) := by rw [isub_eq _ _ (by omega)]; rfl
  have e12 : (12 : Int) = ((12 : Nat) : Int) := rfl
  rw [e11, e12, power_eq 12 (by omega), power_eq 11 (by omega)]
  have p12 : ((2 : Int) ^ 12) = 4096 := by decide
  have p11 : ((2 : Int) ^ 11) = 2048 := by decide
  rw [p12, p11]
  simp only [bind_some', if_or]
  have e1 : (ige ((12 : Nat) : Int) 1 && ile ((12 : Nat) : Int) 32) = true := by decide
  have e2 : (ige u 0 && ile u (isub .i64 4096 1)) = true := by rw [isub_eq _ _ (by omega)]; simp [ige, ile]; omega
  rw [e1, e2]
  simp only [bnot, Bool.not_true, Bool.or_self, Bool.false_eq_true, if_false]
  split
  · rename_i h2
    rw [ige_iff] at h2
    rw [isub_eq _ _ (by omega)]; exact ⟨_, rfl, by omega, by omega⟩
  · rename_i h2
    rw [ige_iff] at h2
    exact ⟨_, rfl, by omega, by omega⟩

/-- the registers for c colors -/
def regsOf (c : Int) : List Int := [0, 1, 2, 5, 6, 7, 10, 11, 17] ++ ([8, 9, 18, 19, 20, 21, 22, 23] : List Int).take c.toNat
def GI (c : Int) (i : gInstr) : Prop := i_InstrValid i = some true ∧ i.Rd ∈ regsOf c ∧ i.Rs ∈ regsOf c ∧ i.Rt ∈ regsOf c
theorem regsOf_base (c : Int) {x : Int} (h : x ∈ ([0, 1, 2, 5, 6, 7, 10, 11, 17] : List Int)) : x ∈ regsOf c := List.mem_append_left _ h
theorem regsOf_lt (c : Int) {x : Int} (h : x ∈ regsOf c) : 0 ≤ x ∧ x < 32 := by
  unfold regsOf at h
  rw [List.mem_append] at h
  rcases h with h | h
  · simp at h; omega
  · have := List.mem_of_mem_take h
    simp at this; omega
theorem regs_mem {p c s v : Int} (h : 0 ≤ p ∧ 0 ≤ c ∧ c ≤ 8) (hs : s ∈ regsOf c) (hv : s_l43Reg p c s = some v) : v ∈ regsOf c := by
  unfold s_l43Reg at hv
  split at hv
  · cases hv; exact hs
  · rename_i h1
    rw [ige_iff] at h1
    rw [bind_id] at hv
    obtain ⟨a, b, e⟩ := idx_lt3 hv
    refine List.mem_append_right _ (List.mem_of_getElem? (i := p.toNat) ?_)
    rw [List.getElem?_take_of_lt (by omega)]
    exact e
theorem fmt_R (op : Int) (h : 1 ≤ op ∧ op ≤ 11) : i_formatOf op = some 82 := by
  unfold i_formatOf
  have e : (ige op 1 && ile op 11) = true := by simp [ige, ile]; omega
  simp [if_and, e]
theorem valid_R (c : Int) {op rd rs rt : Int} (ho : 1 ≤ op ∧ op ≤ 11) (h1 : rd ∈ regsOf c) (h2 : rs ∈ regsOf c) (h3 : rt ∈ regsOf c) : GI c ⟨op, rd, rs, rt, 0⟩ := by
  have a := regsOf_lt c h1
  have b := regsOf_lt c h2
  have d := regsOf_lt c h3
  refine ⟨?_, h1, h2, h3⟩
  unfold i_InstrValid
  simp only [fmt_R op ho, i_isMachineReg, if_and, bind_id, bind_some']
  simp [ieq, ige, ilt, ile]; omega
theorem valid_I (c : Int) {op rd rs imm : Int} (ho : op = 12 ∨ op = 13 ∨ op = 14 ∨ op = 15) (h1 : rd ∈ regsOf c) (h2 : rs ∈ regsOf c) (hi : -2048 ≤ imm ∧ imm ≤ 2047) : GI c ⟨op, rd, rs, 0, imm⟩ := by
  have a := regsOf_lt c h1
  have b := regsOf_lt c h2
  refine ⟨?_, h1, h2, regsOf_base c (by simp)⟩
  have hf : i_formatOf op = some 73 := by rcases ho with rfl | rfl | rfl | rfl <;> rfl
  unfold i_InstrValid
  simp only [hf, i_isMachineReg, if_and, bind_id, bind_some']
  simp [ieq, ige, ilt, ile]; omega
theorem valid_S (c : Int) {rs rt imm : Int} (h1 : rs ∈ regsOf c) (h2 : rt ∈ regsOf c) (hi : -2048 ≤ imm ∧ imm ≤ 2047) : GI c ⟨16, 0, rs, rt, imm⟩ := by
  have a := regsOf_lt c h1
  have b := regsOf_lt c h2
  refine ⟨?_, regsOf_base c (by simp), h1, h2⟩
  have hf : i_formatOf 16 = some 83 := by rfl
  unfold i_InstrValid
  simp only [hf, i_isMachineReg, if_and, bind_id, bind_some']
  simp [ieq, ige, ilt, ile]; omega
theorem valid_bne (c : Int) {rs : Int} (h1 : rs ∈ regsOf c) : GI c ⟨18, 0, rs, 0, 8⟩ := by
  have a := regsOf_lt c h1
  refine ⟨?_, regsOf_base c (by simp), h1, regsOf_base c (by simp)⟩
  have hf : i_formatOf 18 = some 66 := by rfl
  have h8 : remx 8 2 = some 0 := by rfl
  unfold i_InstrValid
  simp only [hf, i_isMachineReg, if_and, bind_id, bind_some', h8]
  simp [ieq, ige, ilt, ile]; omega
theorem valid_lui (c : Int) {rd imm : Int} (h1 : rd ∈ regsOf c) (hi : 0 ≤ imm ∧ imm ≤ 1048575) : GI c ⟨19, rd, 0, 0, imm⟩ := by
  have a := regsOf_lt c h1
  refine ⟨?_, h1, regsOf_base c (by simp), regsOf_base c (by simp)⟩
  have hf : i_formatOf 19 = some 85 := by rfl
  unfold i_InstrValid
  simp only [hf, i_isMachineReg, if_and, bind_id, bind_some']
  simp [ieq, ige, ilt, ile]; omega
theorem valid_jal (c : Int) {imm : Int} (hi : -1048576 ≤ imm ∧ imm ≤ 1048574) (h2 : remx imm 2 = some 0) : GI c ⟨20, 0, 0, 0, imm⟩ := by
  refine ⟨?_, regsOf_base c (by simp), regsOf_base c (by simp), regsOf_base c (by simp)⟩
  have hf : i_formatOf 20 = some 74 := by rfl
  unfold i_InstrValid
  simp only [hf, i_isMachineReg, if_and, bind_id, bind_some', h2]
  simp [ieq, ige, ilt, ile]; omega
end Go.Abs
