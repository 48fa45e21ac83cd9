/- HartCall: the program's and the reference's answer alike. -/
import Derived.Test.YtlcilhmkbmgkeaaGreatDoorNPlZ
set_option linter.unusedSimpArgs false
set_option linter.unusedVariables false
set_option maxHeartbeats 8000000
namespace Go.Abs
open Go

def isBox (b : gBox) : Bool := (decide (1 ≤ b.Room) && decide (b.Room ≤ 4)) && decide ((b.Items.length : Int) ≤ b.Room) && b.Items.all isW
theorem s_BoxValid_val (b : gBox) (hl : b.Items.length ≤ maxLen) : s_BoxValid b = some (isBox b) := by
 unfold s_BoxValid s_l6In
 rw [s_l4Words_val _ _ hl]
 simp only [if_and, bind_some', bind_id, isBox, ilen, ige, ile, ge_iff_le, decide_true, Bool.true_and]
 rfl
theorem i_BoxValid_val (b : gBox) (hl : b.Items.length ≤ maxLen) : i_BoxValid b = some (isBox b) := by
 unfold i_BoxValid
 rw [i_areWords_val _ hl]
 simp only [if_and, bind_some', bind_id, isBox, ilen, ige, ile, ge_iff_le]
 rfl
def isBoxes (l : List gBox) : Bool := l.all isBox && decide (l.length ≤ 3)
theorem s_l15Boxes_val (l : List gBox) (hl : l.length ≤ 4000000) (hi : ∀ b ∈ l, b.Items.length ≤ 4000000) : s_l15Boxes l = some (isBoxes l) := by
 unfold s_l15Boxes
 have := all_loop (step := s_l15Boxes_L1 l) l isBox (.inl ()) (.inr false) (fun k hk => ?_) ?_
 ·rw [this]
  unfold isBoxes
  have e : ile (ilen l) 3 = decide (l.length ≤ 3) := by rw [Bool.eq_iff_iff, ile_iff]; unfold ilen; simp; omega
  cases l.all isBox <;> simp [e]
 ·unfold s_l15Boxes_L1
  dsimp only
  rw [if_pos (by rw [ilt_iff]; unfold ilen; omega), idx_at (List.getElem?_eq_getElem hk)]
  simp only [bind_some', s_BoxValid_val l[k] (by have := hi l[k] (List.getElem_mem hk); unfold maxLen; omega)]
  rw [iadd_eq _ _ (by omega)]
  cases isBox l[k] <;> rfl
 ·unfold s_l15Boxes_L1
  dsimp only
  rw [if_neg (by rw [ilt_iff]; unfold ilen; omega)]
theorem i_boxesValid_val (l : List gBox) (hl : l.length ≤ 4000000) (hi : ∀ b ∈ l, b.Items.length ≤ 4000000) : i_boxesValid l = some (isBoxes l) := by
 unfold i_boxesValid
 have := all_loop (step := i_boxesValid_L1 l) l isBox (.inl ()) (.inr false) (fun k hk => ?_) ?_
 ·rw [this]
  unfold isBoxes
  have e : ile (ilen l) 3 = decide (l.length ≤ 3) := by rw [Bool.eq_iff_iff, ile_iff]; unfold ilen; simp; omega
  cases l.all isBox <;> simp [e]
 ·unfold i_boxesValid_L1
  dsimp only
  rw [if_pos (by rw [ilt_iff]; unfold ilen; omega), idx_at (List.getElem?_eq_getElem hk)]
  simp only [bind_some', i_BoxValid_val l[k] (by have := hi l[k] (List.getElem_mem hk); unfold maxLen; omega)]
  rw [iadd_eq _ _ (by omega)]
  cases isBox l[k] <;> rfl
 ·unfold i_boxesValid_L1
  dsimp only
  rw [if_neg (by rw [ilt_iff]; unfold ilen; omega)]

def isMach (m : gMachine) : Bool := (decide (m.Regs.length = 32) && m.Regs.all isW) && (m.Regs[0]? == some 0) && isW m.Pc && decide (m.Mem.length ≤ 10000) && m.Mem.all isW
theorem s_MachineValid_val (m : gMachine) (hr : m.Regs.length ≤ 4000000) (hm : m.Mem.length ≤ 4000000) : s_MachineValid m = some (isMach m) := by
 unfold s_MachineValid
 rw [s_l4Words_val _ _ (by unfold maxLen; omega), s_l4Words_val m.Mem _ (by unfold maxLen; omega), s_WordValid_val]
 have e : ile (ilen m.Mem) 10000 = decide (m.Mem.length ≤ 10000) := by rw [Bool.eq_iff_iff, ile_iff]; unfold ilen; simp; omega
 have e2 : decide ((m.Regs.length : Int) = 32) = decide (m.Regs.length = 32) := by rw [Bool.eq_iff_iff]; simp; omega
 have e3 : decide ((m.Mem.length : Int) = ilen m.Mem) = true := by simp [ilen]
 simp only [bind_some', if_and, bind_id, e, e2, e3, Bool.true_and]
 unfold isMach
 by_cases h : (decide (m.Regs.length = 32) && m.Regs.all isW) = true
 ·have hlen : m.Regs.length = 32 := by simp at h; exact h.1
  have hi : idx m.Regs 0 = some m.Regs[0] := idx_at (k := 0) (List.getElem?_eq_getElem (by omega))
  have hg : m.Regs[0]? = some m.Regs[0] := List.getElem?_eq_getElem (by omega)
  rw [if_pos h, hi, hg, h]
  simp only [bind_some', Bool.true_and, Option.some_beq_some, ieq]
 ·rw [if_neg h]
  rw [Bool.not_eq_true] at h
  rw [h]
  simp
theorem i_MachineValid_val (m : gMachine) (hr : m.Regs.length ≤ 4000000) (hm : m.Mem.length ≤ 4000000) : i_MachineValid m = some (isMach m) := by
 unfold i_MachineValid
 rw [i_areWords_val _ (by unfold maxLen; omega), i_areWords_val m.Mem (by unfold maxLen; omega), i_WordValid_val]
 have e : ile (ilen m.Mem) 10000 = decide (m.Mem.length ≤ 10000) := by rw [Bool.eq_iff_iff, ile_iff]; unfold ilen; simp; omega
 have e2 : ieq (ilen m.Regs) 32 = decide (m.Regs.length = 32) := by rw [Bool.eq_iff_iff, ieq_iff]; unfold ilen; simp; omega
 simp only [bind_some', if_and, bind_id, e, e2]
 unfold isMach
 by_cases h : (decide (m.Regs.length = 32) && m.Regs.all isW) = true
 ·have hlen : m.Regs.length = 32 := by simp at h; exact h.1
  have hi : idx m.Regs 0 = some m.Regs[0] := idx_at (k := 0) (List.getElem?_eq_getElem (by omega))
  have hg : m.Regs[0]? = some m.Regs[0] := List.getElem?_eq_getElem (by omega)
  rw [if_pos h, hi, hg, h]
  simp only [bind_some', Bool.true_and, Option.some_beq_some, ieq]
 ·rw [if_neg h]
  rw [Bool.not_eq_true] at h
  rw [h]
  simp

/-! copies -/
theorem s_l44Copy_id (m : gMachine) (hr : m.Regs.length ≤ 4000000) (hm : m.Mem.length ≤ 4000000) : s_l44Copy m = some m := by
 unfold s_l44Copy
 rw [appx_nil' _ hr, appx_nil' _ hm]; rfl
theorem i_machineCopy_id (m : gMachine) (hr : m.Regs.length ≤ 4000000) (hm : m.Mem.length ≤ 4000000) : i_machineCopy m = some m := by
 unfold i_machineCopy
 rw [clone_id _ hr, clone_id _ hm]; rfl
theorem s_l15BoxesCopy_id (l : List gBox) (hl : l.length ≤ 4000000) (hi : ∀ b ∈ l, b.Items.length ≤ 4000000) : s_l15BoxesCopy l = some l := by
 unfold s_l15BoxesCopy
 have := up_loop (step := s_l15BoxesCopy_L1 l) (s0 := ((0 : Int), ([] : List gBox))) l.length (fun k => ((k : Int), l.take k)) l (by simp) (fun k hk => ?_) ?_
 ·rw [this]; rfl
 ·unfold s_l15BoxesCopy_L1
  dsimp only
  rw [if_pos (by rw [ilt_iff]; unfold ilen; omega), idx_at (List.getElem?_eq_getElem hk)]
  rw [bind_some', appx_nil' _ (hi _ (List.getElem_mem hk)), bind_some', appx_ok 32 _ _ (by simp; unfold maxLen; omega), bind_some', iadd_eq _ _ (by omega), List.take_add_one, List.getElem?_eq_getElem hk]
  rfl
 ·unfold s_l15BoxesCopy_L1
  dsimp only
  rw [if_neg (by rw [ilt_iff]; unfold ilen; omega)]
  simp
theorem i_boxesCopy_id (l : List gBox) (hl : l.length ≤ 4000000) (hi : ∀ b ∈ l, b.Items.length ≤ 4000000) : i_boxesCopy l = some l := by
 unfold i_boxesCopy
 have := up_loop (step := i_boxesCopy_L1 l) (s0 := ((0 : Int), ([] : List gBox))) l.length (fun k => ((k : Int), l.take k)) l (by simp) (fun k hk => ?_) ?_
 ·rw [this]; rfl
 ·unfold i_boxesCopy_L1
  dsimp only
  rw [if_pos (by rw [ilt_iff]; unfold ilen; omega), idx_at (List.getElem?_eq_getElem hk)]
  rw [bind_some', clone_id _ (hi _ (List.getElem_mem hk)), bind_some', appx_ok 32 _ _ (by simp; unfold maxLen; omega), bind_some', iadd_eq _ _ (by omega), List.take_add_one, List.getElem?_eq_getElem hk]
  rfl
 ·unfold i_boxesCopy_L1
  dsimp only
  rw [if_neg (by rw [ilt_iff]; unfold ilen; omega)]
  simp

/-! the call -/
theorem setx_same {α : Type} {l : List α} {i : Int} {x : α} (h : idx l i = some x) : setx l i x = some l := by
 obtain ⟨h0, h1, h2⟩ := idx_lt3 h
 rw [setx_iff]
 exact ⟨⟨h0, h1⟩, (set_same h2).symm⟩
theorem setx_ok {α : Type} {l : List α} {i : Int} {x : α} (y : α) (h : idx l i = some x) : setx l i y = some (l.set i.toNat y) := by
 obtain ⟨h0, h1, h2⟩ := idx_lt3 h
 rw [setx_iff]
 exact ⟨⟨h0, h1⟩, rfl⟩
theorem isBox_iff (b : gBox) : isBox b = true ↔ (1 ≤ b.Room ∧ b.Room ≤ 4) ∧ (b.Items.length : Int) ≤ b.Room ∧ b.Items.all isW = true := by
 simp [isBox, and_assoc]
theorem reg_at (m : gMachine) (h : isMach m = true) (k : Nat) (hk : k < 32) : ∃ v, idx m.Regs (k : Int) = some v ∧ isW v = true ∧ m.Regs[k]? = some v := by
 have hlen : m.Regs.length = 32 := by simp [isMach] at h; exact h.1.1.1.1.1
 have hall : m.Regs.all isW = true := by simp only [isMach, Bool.and_eq_true] at h; exact h.1.1.1.1.2
 have hg : m.Regs[k]? = some m.Regs[k] := List.getElem?_eq_getElem (by omega)
 exact ⟨m.Regs[k], idx_at hg, List.all_eq_true.1 hall _ (List.getElem_mem _), hg⟩

theorem put_eq (b : gBox) (x : Int) (hb : isBox b = true) (hx : isW x = true) : ∃ ok b', i_Box_put b x = some (ok, b') ∧ (ok = false → b' = b) ∧ (ok = true → b' = ⟨b.Room, b.Items ++ [x]⟩) ∧ (ok = true ↔ (b.Items.length : Int) < b.Room) ∧ ∃ b2, s_BoxPut b x = some (b2, ok) ∧ (ok = true → b2 = b') ∧ (ok = false → b2 = ⟨0, []⟩) := by
 obtain ⟨⟨h1, h2⟩, h3, h4⟩ := (isBox_iff b).1 hb
 unfold i_Box_put s_BoxPut
 rw [s_BoxValid_val b (by unfold maxLen; omega), hb, s_WordValid_val, hx]
 have e1 : (if bnot true = true then some true else (some true).bind fun r2 => some (bnot r2)) = some false := rfl
 simp only [bind_some', e1, if_or, Bool.false_or, show bnot true = false from rfl]
 by_cases hf : (b.Items.length : Int) = b.Room
 ·rw [if_pos (by rw [ieq_iff]; exact hf), if_pos (by rw [ige_iff]; unfold ilen; omega)]
  exact ⟨false, b, rfl, fun _ => rfl, fun h => (by cases h), by simp; omega, _, rfl, fun h => (by cases h), fun _ => rfl⟩
 ·rw [if_neg (by rw [ieq_iff]; exact hf), if_neg (by rw [ige_iff]; unfold ilen; omega)]
  rw [appx_ok 8 b.Items [x] (by simp; unfold maxLen; omega), appx_nil' _ (by omega)]
  rw [bind_some', bind_some', appx_ok 8 b.Items [x] (by simp; unfold maxLen; omega), bind_some']
  exact ⟨true, _, rfl, fun h => (by cases h), fun _ => rfl, by simp; omega, _, rfl, fun _ => rfl, fun h => (by cases h)⟩
theorem take_eq (b : gBox) (hb : isBox b = true) : ∃ v ok b', i_Box_take b = some (v, ok, b') ∧ (ok = false → b' = b) ∧ (ok = true ↔ b.Items ≠ []) ∧ (ok = true → ∃ t, b.Items = v :: t ∧ b' = ⟨b.Room, t⟩) ∧ ∃ b2 v2, s_BoxTake b = some (b2, v2, ok) ∧ (ok = true → b2 = b' ∧ v2 = v) := by
 obtain ⟨⟨h1, h2⟩, h3, h4⟩ := (isBox_iff b).1 hb
 unfold i_Box_take s_BoxTake
 rw [s_BoxValid_val b (by unfold maxLen; omega), hb]
 simp only [bind_some', if_or, show bnot true = false from rfl, Bool.false_or]
 obtain ⟨R, I⟩ := b
 simp only at h1 h2 h3 h4 ⊢
 cases I with
 | nil =>
  rw [if_pos (by rfl), if_pos (by rfl)]
  exact ⟨0, false, _, rfl, fun _ => rfl, by simp, fun h => (by cases h), _, _, rfl, fun h => (by cases h)⟩
 | cons v t =>
  have hn : ¬ ieq (ilen (v :: t)) 0 = true := by rw [ieq_iff]; simp [ilen]; omega
  simp only [List.length_cons] at h3
  rw [if_neg hn, if_neg hn]
  have c0 : cutx (v :: t) 0 0 = some [] := by rw [cutx_iff]; exact ⟨⟨by omega, by omega, by simp; omega⟩, rfl⟩
  have c1 : cutx (v :: t) 1 (ilen (v :: t)) = some t := by rw [cutx_iff]; exact ⟨⟨by omega, by simp [ilen]; omega, by simp [ilen]⟩, by simp [ilen]⟩
  have i0 : idx (v :: t) 0 = some v := idx_at (k := 0) rfl
  simp only [i0, c0, c1, bind_some', appx_nil' t (by omega)]
  exact ⟨v, true, _, rfl, fun h => (by cases h), by simp, fun _ => ⟨t, rfl, rfl⟩, _, _, rfl, fun _ => ⟨rfl, rfl⟩⟩
end Go.Abs
