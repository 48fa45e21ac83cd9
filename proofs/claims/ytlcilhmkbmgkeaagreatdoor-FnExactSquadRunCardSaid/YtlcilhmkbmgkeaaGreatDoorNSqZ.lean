/- laws.FnExactSquadOutcome's mirror: true for each squad. -/
import Derived.Test.YtlcilhmkbmgkeaaGreatDoorNHartZ
import Derived.Test.YtlcilhmkbmgkeaaGreatDoorNBoxZ
set_option linter.unusedSimpArgs false
set_option linter.unusedVariables false
set_option maxHeartbeats 8000000
namespace Go.Abs
open Go

theorem find_loop {α E : Type} {step : Int → Option (Flow Int E)} (l : List α) (W : α → Bool) (e0 : E) (f : Nat → E) (h : ∀ k (hk : k < l.length), step (k : Int) = some (if W l[k] = true then .next ((k + 1 : Nat) : Int) else .done (f k))) (hd : step (l.length : Int) = some (.done e0)) :
  (l.all W = true ∧ loopM step 0 = some e0) ∨ (l.all W = false ∧ ∃ k, loopM step 0 = some (f k)) := by
 have key : ∀ m k, k + m = l.length → ((l.drop k).all W = true ∧ loopM step (k : Int) = some e0) ∨ ((l.drop k).all W = false ∧ ∃ j, loopM step (k : Int) = some (f j)) := by
  intro m
  induction m with
  | zero =>
   intro k hk
   obtain rfl : k = l.length := by omega
   rw [List.drop_length]
   exact .inl ⟨rfl, loopM_done hd⟩
  | succ m ih =>
   intro k hk
   have hlt : k < l.length := by omega
   rw [List.drop_eq_getElem_cons hlt, List.all_cons]
   by_cases hw : W l[k] = true
   ·rw [loopM_next (by rw [h k hlt, if_pos hw]), hw, Bool.true_and]
    exact ih (k + 1) (by omega)
   ·rw [loopM_done (by rw [h k hlt, if_neg hw])]
    exact .inr ⟨by simp [hw], k, rfl⟩
 have := key l.length 0 (by omega)
 simpa using this

def SmallSq (q : gSquad) : Prop := q.Harts.length ≤ 4000000 ∧ (∀ m ∈ q.Harts, m.Regs.length ≤ 4000000 ∧ m.Mem.length ≤ 4000000) ∧ q.Boxes.length ≤ 4000000 ∧ (∀ b ∈ q.Boxes, b.Items.length ≤ 4000000) ∧ q.Out.length ≤ 4000000
def isSquad (q : gSquad) : Bool := ((((decide (1 ≤ q.Harts.length) && decide (q.Harts.length ≤ 3)) && decide (0 ≤ q.Turn)) && decide (q.Turn < q.Harts.length)) && decide (0 ≤ q.Idle)) && decide (q.Idle ≤ q.Harts.length) && q.Out.all isW && isBoxes q.Boxes && q.Harts.all isMach

theorem i_squadValid_val (q : gSquad) (h : SmallSq q) : i_squadValid q = some (isSquad q) := by
 obtain ⟨h1, h2, h3, h4, h5⟩ := h
 have hc : slices_ContainsFunc_impl_Machine_impl_Machine_i_squadValid_1 q.Harts = some (!q.Harts.all isMach) := by
  unfold slices_ContainsFunc_impl_Machine_impl_Machine_i_squadValid_1 slices_IndexFunc_impl_Machine_impl_Machine_i_squadValid_1
  have hf := find_loop (step := slices_IndexFunc_impl_Machine_impl_Machine_i_squadValid_1_L1 q.Harts) q.Harts isMach (.inl ()) (fun k => .inr (k : Int)) (fun k hk => ?_) ?_
  ·rcases hf with ⟨a, b⟩ | ⟨a, k, b⟩
   ·rw [a, b]; rfl
   ·rw [a, b]
    simp only [bind_some', Option.some.injEq, Bool.not_false]
    rw [ige_iff]; omega
  ·unfold slices_IndexFunc_impl_Machine_impl_Machine_i_squadValid_1_L1 i_squadValid_1
   dsimp only
   have hm := h2 _ (List.getElem_mem hk)
   rw [if_pos (by rw [ilt_iff]; unfold ilen; omega), idx_at (List.getElem?_eq_getElem hk)]
   simp only [bind_some', i_MachineValid_val _ hm.1 hm.2]
   rw [iadd_eq _ _ (by omega)]
   cases isMach q.Harts[k] <;> rfl
  ·unfold slices_IndexFunc_impl_Machine_impl_Machine_i_squadValid_1_L1
   dsimp only
   rw [if_neg (by rw [ilt_iff]; unfold ilen; omega)]
 unfold i_squadValid i_turnsValid
 rw [hc, i_boxesValid_val _ h3 h4, i_areWords_val _ (by unfold maxLen; omega)]
 simp only [bind_some', if_and, bind_id, bnot, Bool.not_not]
 have e1 : ige (ilen q.Harts) 1 = decide (1 ≤ q.Harts.length) := by rw [Bool.eq_iff_iff, ige_iff]; unfold ilen; simp; omega
 have e2 : ile (ilen q.Harts) 3 = decide (q.Harts.length ≤ 3) := by rw [Bool.eq_iff_iff, ile_iff]; unfold ilen; simp; omega
 rw [e1, e2]
 rfl
theorem or4 : ∀ A B C D : Bool, ¬ (A = true ∧ B = true ∧ C = true ∧ D = true) → (bnot A || bnot B || bnot C || bnot D) = true := by decide
theorem s_l45Valid_val (q : gSquad) (h : SmallSq q) : s_l45Valid q = some (isSquad q) := by
 obtain ⟨h1, h2, h3, h4, h5⟩ := h
 unfold s_l45Valid s_l6In
 rw [s_l15Boxes_val _ h3 h4, s_l4Words_val _ _ (by unfold maxLen; omega)]
 have hl := all_loop (step := s_l45Valid_L1 q) q.Harts isMach (.inl ()) (.inr false) (fun k hk => ?_) ?_
 ·rw [hl]
  simp only [bind_some', if_and, if_or, bind_id]
  have e0 : isub .i64 (ilen q.Harts) 1 = (q.Harts.length : Int) - 1 := by rw [isub_eq _ _ (by unfold ilen; omega)]; rfl
  have e3 : decide ((q.Out.length : Int) = ilen q.Out) = true := by simp [ilen]
  rw [e0, e3, Bool.true_and]
  by_cases hA : (ige (ilen q.Harts) 1 && ile (ilen q.Harts) 3) = true ∧ isBoxes q.Boxes = true ∧ (ige q.Turn 0 && ile q.Turn ((q.Harts.length : Int) - 1)) = true ∧ (ige q.Idle 0 && ile q.Idle (ilen q.Harts)) = true
  ·obtain ⟨a1, a2, a3, a4⟩ := hA
   rw [a1, a2, a3, a4]
   simp only [show bnot true = false from rfl, Bool.or_self, Bool.false_eq_true, if_false]
   rw [Bool.and_eq_true, ige_iff, ile_iff] at a1 a3 a4
   unfold ilen at a1 a4
   have : isSquad q = (q.Out.all isW && q.Harts.all isMach) := by
    unfold isSquad
    rw [a2]
    have b1 : decide (1 ≤ q.Harts.length) = true := by simp; omega
    have b2 : decide (q.Harts.length ≤ 3) = true := by simp; omega
    have b3 : decide (0 ≤ q.Turn) = true := by simp; omega
    have b4 : decide (q.Turn < q.Harts.length) = true := by simp; omega
    have b5 : decide (0 ≤ q.Idle) = true := by simp; omega
    have b6 : decide (q.Idle ≤ q.Harts.length) = true := by simp; omega
    rw [b1, b2, b3, b4, b5, b6]
    simp
   rw [this]
   cases q.Harts.all isMach <;> simp
  ·have hs : isSquad q = false := by
    rw [Bool.eq_false_iff]
    intro hc
    apply hA
    simp only [isSquad, Bool.and_eq_true, decide_eq_true_eq] at hc
    obtain ⟨⟨⟨⟨⟨⟨⟨⟨c1, c2⟩, c3⟩, c4⟩, c5⟩, c6⟩, c7⟩, c8⟩, c9⟩ := hc
    refine ⟨?_, c8, ?_, ?_⟩ <;> (rw [Bool.and_eq_true, ige_iff, ile_iff]; try unfold ilen) <;> omega
   rw [hs, if_pos (or4 _ _ _ _ hA)]
 ·unfold s_l45Valid_L1
  dsimp only
  have hm := h2 _ (List.getElem_mem hk)
  rw [if_pos (by rw [ilt_iff]; unfold ilen; omega), idx_at (List.getElem?_eq_getElem hk)]
  simp only [bind_some', s_MachineValid_val _ hm.1 hm.2]
  rw [iadd_eq _ _ (by omega)]
  cases isMach q.Harts[k] <;> rfl
 ·unfold s_l45Valid_L1
  dsimp only
  rw [if_neg (by rw [ilt_iff]; unfold ilen; omega)]

theorem eqSquad_refl (q : gSquad) (h : SmallSq q) : l_eqSquad q q = some true := by
 obtain ⟨h1, h2, h3, h4, h5⟩ := h
 unfold l_eqSquad
 rw [eqMachineS_refl _ h1 h2, eqBoxS_refl _ h3 h4, eqIntS_refl _ h5]
 simp only [bind_some', show bnot true = false from rfl, Bool.false_eq_true, if_false]
 rw [if_neg (by simp [ine]), if_neg (by simp [ine])]
theorem toSquad_id (q : gSquad) (h : SmallSq q) : l_toSquad q = some q := by
 obtain ⟨h1, h2, h3, h4, h5⟩ := h
 unfold l_toSquad
 rw [toMachineS_id _ h1 h2, toBoxS_id _ h3 h4, toIntS_id _ h5]; rfl

end Go.Abs
