/- Lists of instructions: copied, compared, marked, their size; the words of a list. -/
import Derived.Test.YtlcilhmkbmgkeaaDoorNBoxID
import Derived.Test.YtlcilhmkbmgkeaaDoorNEnc4
set_option linter.unusedSimpArgs false
set_option linter.unusedVariables false
set_option maxHeartbeats 8000000
namespace Go.Abs
open Go

theorem eqInstr_refl (x : gInstr) : l_eqInstr x x = some true := by
  unfold l_eqInstr; simp [ine]
theorem eqInstrS_refl (l : List gInstr) (hl : l.length ≤ 2000000) : l_eqInstrS l l = some true := by
  unfold l_eqInstrS
  rw [if_neg (by simp [ine])]
  have := up_loop (step := l_eqInstrS_L1 l l) (s0 := (0 : Int)) l.length (fun k => (k : Int)) (.inl ()) rfl (fun k hk => ?_) ?_
  · rw [this]; rfl
  · unfold l_eqInstrS_L1
    dsimp only
    rw [if_pos (by rw [ilt_iff]; unfold ilen; omega), idx_at (List.getElem?_eq_getElem hk)]
    simp only [bind_some', eqInstr_refl]
    rw [show bnot true = false from rfl, if_neg (by decide), iadd_eq _ _ (by omega)]
    rfl
  · unfold l_eqInstrS_L1
    dsimp only
    rw [if_neg (by rw [ilt_iff]; unfold ilen; omega)]
theorem toInstrS_id (l : List gInstr) (hl : l.length ≤ 2000000) : l_toInstrS l = some l := by
  unfold l_toInstrS
  have hm : makex 40 (ilen l) (⟨0, 0, 0, 0, 0⟩ : gInstr) = some (List.replicate l.length ⟨0, 0, 0, 0, 0⟩) := by
    unfold makex ilen
    rw [if_pos (by simp; unfold maxLen; omega)]
    simp
  rw [hm, bind_some']
  have := up_loop (step := l_toInstrS_L1 l) (s0 := ((0 : Int), List.replicate l.length (⟨0, 0, 0, 0, 0⟩ : gInstr))) l.length (fun k => ((k : Int), l.take k ++ List.replicate (l.length - k) ⟨0, 0, 0, 0, 0⟩)) l (by simp) (fun k hk => ?_) ?_
  · rw [this]; rfl
  · unfold l_toInstrS_L1 l_toInstr
    dsimp only
    have hr : List.replicate (l.length - k) (⟨0, 0, 0, 0, 0⟩ : gInstr) = ⟨0, 0, 0, 0, 0⟩ :: List.replicate (l.length - (k + 1)) ⟨0, 0, 0, 0, 0⟩ := by
      rw [show l.length - k = (l.length - (k + 1)) + 1 by omega, List.replicate_succ]
    have ht : (l.take k).length = k := by simp; omega
    rw [if_pos (by rw [ilt_iff]; unfold ilen; omega), idx_at (List.getElem?_eq_getElem hk), hr]
    simp only [bind_some', idx_cat _ _ _ k ht, setx_cat _ _ _ _ k ht]
    rw [iadd_eq _ _ (by omega), List.take_add_one, List.getElem?_eq_getElem hk]
    simp only [Option.toList_some, List.append_assoc, List.singleton_append]
    rfl
  · unfold l_toInstrS_L1
    dsimp only
    rw [if_neg (by rw [ilt_iff]; unfold ilen; omega)]
    simp
theorem szInstrS_val (l : List gInstr) (s : Int) (hl : l.length ≤ maxLen) (hs : 0 ≤ s ∧ s ≤ 1048576) : l_szInstrS l s = some (if s < l.length then -1 else s - l.length) := by
  unfold l_szInstrS
  have e : isub .i64 s (ilen l) = s - l.length := by rw [isub_eq _ _ (by unfold ilen; unfold maxLen at hl; omega)]; rfl
  rw [e]
  by_cases h : s < l.length
  · rw [if_pos (by rw [ilt_iff]; omega), if_pos h]
  · rw [if_neg (by rw [ilt_iff]; omega), if_neg h]
theorem markInstrS_ex (l : List gInstr) (s : Int) (hl : l.length ≤ 2000000) (hs : 0 ≤ s ∧ s ≤ 1000000000) : ∃ q, l_markInstrS l s = some (s + 5 * (l.length : Int), q) ∧ q.length = l.length := by
  unfold l_markInstrS
  obtain ⟨e, he, hd⟩ := loopM_rule (step := l_markInstrS_L1) (s := (s, (0 : Int), l)) (fun q => ∃ k : Nat, k ≤ l.length ∧ q.2.1 = (k : Int) ∧ q.1 = s + 5 * (k : Int) ∧ ∃ p, p.length = k ∧ q.2.2 = p ++ l.drop k) (fun q => l.length - q.2.1.toNat)
    (fun e => e.1 = s + 5 * (l.length : Int) ∧ e.2.length = l.length) ⟨0, by omega, rfl, by simp, [], rfl, rfl⟩ (by
    rintro ⟨a, k', q⟩ ⟨k, hk, h1, h2, p, hp1, hp2⟩
    simp only at h1 h2 hp2
    subst h1 h2 hp2
    unfold l_markInstrS_L1
    dsimp only
    have hlen : (p ++ l.drop k).length = l.length := by simp; omega
    by_cases hlt : k < l.length
    · have hc : l.drop k = l[k] :: l.drop (k + 1) := List.drop_eq_getElem_cons hlt
      rw [if_pos (by rw [ilt_iff]; unfold ilen; rw [hlen]; omega), hc]
      have e1 : iadd .i64 (s + 5 * (k : Int)) 1 = s + 5 * k + 1 := iadd_eq _ _ (by omega)
      have e2 : iadd .i64 (s + 5 * (k : Int) + 1) 1 = s + 5 * k + 2 := by rw [iadd_eq _ _ (by omega)]; omega
      have e3 : iadd .i64 (s + 5 * (k : Int) + 2) 1 = s + 5 * k + 3 := by rw [iadd_eq _ _ (by omega)]; omega
      have e4 : iadd .i64 (s + 5 * (k : Int) + 3) 1 = s + 5 * k + 4 := by rw [iadd_eq _ _ (by omega)]; omega
      have e5 : iadd .i64 (s + 5 * (k : Int) + 4) 1 = s + 5 * k + 5 := by rw [iadd_eq _ _ (by omega)]; omega
      have e6 : iadd .i64 (k : Int) 1 = ((k + 1 : Nat) : Int) := by rw [iadd_eq _ _ (by omega)]; rfl
      simp only [idx_cat _ _ _ k hp1, setx_cat _ _ _ _ k hp1, bind_some', e1, e2, e3, e4, e5, e6]
      refine .inl ⟨_, rfl, ⟨k + 1, by omega, rfl, ?_, ?_⟩, ?_⟩
      · simp only []; omega
      · exact ⟨p ++ [_], by simp [hp1], by rw [List.append_assoc]; rfl⟩
      · simp only []; omega
    · rw [if_neg (by rw [ilt_iff]; unfold ilen; rw [hlen]; omega)]
      have : k = l.length := by omega
      subst this
      exact .inr ⟨_, rfl, rfl, by simpa using hp1⟩)
  obtain ⟨n, l'⟩ := e
  simp only at hd
  rw [he]
  obtain ⟨rfl, h2⟩ := hd
  exact ⟨l', rfl, h2⟩

/-! the words of a code -/
/-- the word of an instruction, if it has one -/
theorem word_ex (i : gInstr) : ∃ w b, (∃ e, i_InstrEncode i = some (e, b) ∧ s_InstrEncode i = some (e, b) ∧ i_Wrap e = some w ∧ s_Wrap e = some w) := by
  obtain ⟨e, b, h1, h2, h3, h4⟩ := encode_eq i
  have hw := wrap_val e (by omega)
  exact ⟨_, b, e, h1, h2, (wrap_eq e (by omega)).trans hw, hw⟩
noncomputable def wordI (i : gInstr) : Int := (word_ex i).choose
noncomputable def okI (i : gInstr) : Bool := (word_ex i).choose_spec.choose
theorem wordI_spec (i : gInstr) : ∃ e, i_InstrEncode i = some (e, okI i) ∧ s_InstrEncode i = some (e, okI i) ∧ i_Wrap e = some (wordI i) ∧ s_Wrap e = some (wordI i) := (word_ex i).choose_spec.choose_spec

/-- how far it goes well -/
theorem first_bad (l : List gInstr) : ∃ j, j ≤ l.length ∧ (∀ k (h : k < l.length), k < j → okI l[k] = true) ∧ (j = l.length ∨ ∃ h : j < l.length, okI l[j] = false) := by
  induction l with
  | nil => exact ⟨0, by simp, by simp, .inl rfl⟩
  | cons x l ih =>
    cases hx : okI x with
    | false => exact ⟨0, by simp, by omega, .inr ⟨by simp, hx⟩⟩
    | true =>
      obtain ⟨j, h1, h2, h3⟩ := ih
      refine ⟨j + 1, by simp; omega, fun k h hk => ?_, ?_⟩
      · cases k with
        | zero => exact hx
        | succ k => exact h2 k (by simpa using h) (by omega)
      · rcases h3 with h3 | ⟨h3, h4⟩
        · left; simp [h3]
        · right; exact ⟨by simp; omega, by simpa using h4⟩

theorem app8 (l m : List Int) (h : l.length + m.length ≤ 2000000) : appx 8 l m = some (l ++ m) := appx_ok 8 _ _ (by unfold maxLen; omega)

theorem wordsOf_val (l : List gInstr) (hl : l.length ≤ 1048576) : i_wordsOf l = some (if l.all okI = true then (l.map wordI, true) else ([], false)) := by
  obtain ⟨j, h1, h2, h3⟩ := first_bad l
  unfold i_wordsOf
  have := up_loop (step := i_wordsOf_L1 l) (s0 := ((0 : Int), ([] : List Int))) j (fun k => ((k : Int), (l.take k).map wordI)) (if j = l.length then .inl (l.map wordI) else .inr ([], false)) (by simp) (fun k hk => ?_) ?_
  · rw [this]
    rcases h3 with rfl | ⟨h3, h4⟩
    · rw [if_pos rfl, if_pos]
      · rfl
      · rw [List.all_eq_true]
        intro x hx
        obtain ⟨k, hk, rfl⟩ := List.getElem_of_mem hx
        exact h2 k hk hk
    · rw [if_neg (by omega), if_neg]
      · rfl
      · rw [List.all_eq_true]
        intro h
        have := h _ (List.getElem_mem h3)
        rw [h4] at this; cases this
  · unfold i_wordsOf_L1
    dsimp only
    obtain ⟨e, g1, g2, g3, g4⟩ := wordI_spec (l[k]'(by omega))
    rw [if_pos (by rw [ilt_iff]; unfold ilen; omega), idx_at (List.getElem?_eq_getElem (by omega)), bind_some', g1, bind_some']
    rw [if_neg (by rw [h2 k (by omega) hk]; simp [bnot]), g3, bind_some', app8 _ _ (by simp; omega), bind_some', iadd_eq _ _ (by omega)]
    rw [List.take_add_one, List.getElem?_eq_getElem (by omega), List.map_append]
    rfl
  · unfold i_wordsOf_L1
    dsimp only
    rcases h3 with rfl | ⟨h3, h4⟩
    · rw [if_neg (by rw [ilt_iff]; unfold ilen; omega), if_pos rfl, List.take_length]
    · obtain ⟨e, g1, g2, g3, g4⟩ := wordI_spec l[j]
      rw [if_pos (by rw [ilt_iff]; unfold ilen; omega), idx_at (List.getElem?_eq_getElem h3), bind_some', g1, bind_some', if_pos (by rw [h4]; rfl), if_neg (by omega)]

theorem code_val (l : List gInstr) (hl : l.length ≤ 1048576) : ∃ q, s_l45Code_o [0] l = some (if l.all okI = true then ([0] ++ l.map wordI, true) else (q, false)) := by
  obtain ⟨j, h1, h2, h3⟩ := first_bad l
  unfold s_l45Code_o
  have := up_loop (step := s_l45Code_o_L1 l) (s0 := ((0 : Int), ([0] : List Int))) j (fun k => ((k : Int), [0] ++ (l.take k).map wordI)) (if j = l.length then .inl ([0] ++ l.map wordI) else .inr ([0] ++ (l.take j).map wordI, false)) (by simp) (fun k hk => ?_) ?_
  · refine ⟨[0] ++ (l.take j).map wordI, ?_⟩
    rw [this]
    rcases h3 with rfl | ⟨h3, h4⟩
    · rw [if_pos rfl, if_pos]
      · rfl
      · rw [List.all_eq_true]
        intro x hx
        obtain ⟨k, hk, rfl⟩ := List.getElem_of_mem hx
        exact h2 k hk hk
    · rw [if_neg (by omega), if_neg]
      · rfl
      · rw [List.all_eq_true]
        intro h
        have := h _ (List.getElem_mem h3)
        rw [h4] at this; cases this
  · unfold s_l45Code_o_L1
    dsimp only
    obtain ⟨e, g1, g2, g3, g4⟩ := wordI_spec (l[k]'(by omega))
    rw [if_pos (by rw [ilt_iff]; unfold ilen; omega), idx_at (List.getElem?_eq_getElem (by omega)), bind_some', g2, bind_some']
    rw [if_neg (by rw [h2 k (by omega) hk]; simp [bnot]), g4, bind_some', app8 _ _ (by simp; omega), bind_some', iadd_eq _ _ (by omega)]
    rw [List.take_add_one, List.getElem?_eq_getElem (by omega), List.map_append]
    rfl
  · unfold s_l45Code_o_L1
    dsimp only
    rcases h3 with rfl | ⟨h3, h4⟩
    · rw [if_neg (by rw [ilt_iff]; unfold ilen; omega), if_pos rfl, List.take_length]
    · obtain ⟨e, g1, g2, g3, g4⟩ := wordI_spec l[j]
      rw [if_pos (by rw [ilt_iff]; unfold ilen; omega), idx_at (List.getElem?_eq_getElem h3), bind_some', g2, bind_some', if_pos (by rw [h4]; rfl), if_neg (by omega)]

/-! a new machine -/
theorem appz8 (l : List Int) (h : l.length ≤ 2000000) : appzx 8 l 12 0 = some (l ++ List.replicate 12 0) := by
  unfold appzx
  rw [if_pos (by unfold maxLen; simp; omega)]
  rfl
theorem hartNew_eq (l : List gInstr) (hl : l.length ≤ 1048576) : ∃ r, i_HartNew l = some r ∧ s_HartNew l = some r ∧ r.1.Regs.length ≤ 32 ∧ r.1.Mem.length ≤ 10000 := by
  have hw := wordsOf_val l hl
  obtain ⟨q, hc⟩ := code_val l hl
  unfold i_HartNew s_HartNew
  rw [hw]
  by_cases ha : l.all okI = true
  · rw [if_pos ha] at hc
    simp only [if_pos ha, bind_some', if_or]
    have e1 : iadd .i64 (ilen (l.map wordI)) 1 = l.length + 1 := by rw [iadd_eq _ _ (by unfold ilen; simp; omega)]; unfold ilen; simp
    have e2 : iadd .i64 ((l.length : Int) + 1) 12 = l.length + 13 := by rw [iadd_eq _ _ (by omega)]; omega
    rw [e1, e2]
    by_cases hn : l.length ≤ 9987
    · rw [if_neg (by simp [bnot, igt]; omega), if_neg (by simp [igt, ilen]; omega), app8 _ _ (by simp; omega)]
      simp only [bind_some', hc]
      rw [if_neg (by decide)]
      have m1 : makex 8 32 (0 : Int) = some (List.replicate 32 0) := rfl
      have m2 : idx (List.replicate 32 (0 : Int)) 2 = some 0 := rfl
      have m3 : ∀ x : Int, setx (List.replicate 32 (0 : Int)) 2 x = some ((List.replicate 32 (0 : Int)).set 2 x) := fun x => rfl
      simp only [m1, m2, m3, bind_some', appz8 ([0] ++ l.map wordI) (by simp; omega)]
      exact ⟨_, rfl, rfl, by simp, by simp; omega⟩
    · rw [if_pos (by simp [bnot, igt]; omega), if_pos (by simp [igt, ilen]; omega)]
      exact ⟨_, rfl, rfl, by simp, by simp⟩
  · rw [if_neg ha] at hc
    simp only [if_neg ha, bind_some', if_or]
    rw [if_pos (by rfl)]
    by_cases hn : l.length ≤ 9987
    · rw [if_neg (by simp [igt, ilen]; omega), hc]
      simp only [bind_some']
      rw [if_pos (by rfl)]
      exact ⟨_, rfl, rfl, by simp, by simp⟩
    · rw [if_pos (by simp [igt, ilen]; omega)]
      exact ⟨_, rfl, rfl, by simp, by simp⟩
end Go.Abs
