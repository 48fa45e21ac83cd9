/- Mailboxes and machines: copied, compared, marked, held, their size. -/
import Derived.Test.YtoklfbdcghgmlaaNPlI
set_option linter.unusedSimpArgs false
set_option linter.unusedVariables false
set_option maxHeartbeats 8000000
namespace Go.Abs
open Go

theorem eqBox_refl (b : gBox) (h : b.Items.length ≤ 2000000) : l_eqBox b b = some true := by
  unfold l_eqBox
  rw [if_neg (by simp [ine]), eqIntS_refl _ h]; rfl
theorem eqBoxS_refl (l : List gBox) (hl : l.length ≤ 2000000) (hi : ∀ b ∈ l, b.Items.length ≤ 2000000) : l_eqBoxS l l = some true := by
  unfold l_eqBoxS
  rw [if_neg (by simp [ine])]
  have := up_loop (step := l_eqBoxS_L1 l l) (s0 := (0 : Int)) l.length (fun k => (k : Int)) (.inl ()) rfl (fun k hk => ?_) ?_
  · rw [this]; rfl
  · unfold l_eqBoxS_L1
    dsimp only
    rw [if_pos (by rw [ilt_iff]; unfold ilen; omega), idx_at (List.getElem?_eq_getElem hk)]
    simp only [bind_some', eqBox_refl _ (hi _ (List.getElem_mem hk))]
    rw [show bnot true = false from rfl, if_neg (by decide), iadd_eq _ _ (by omega)]
    rfl
  · unfold l_eqBoxS_L1
    dsimp only
    rw [if_neg (by rw [ilt_iff]; unfold ilen; omega)]
theorem eqMachine_refl (m : gMachine) (hr : m.Regs.length ≤ 2000000) (hm : m.Mem.length ≤ 2000000) : l_eqMachine m m = some true := by
  unfold l_eqMachine
  rw [eqIntS_refl _ hr, eqIntS_refl _ hm]
  simp only [bind_some', show bnot true = false from rfl, Bool.false_eq_true, if_false]
  rw [if_neg (by simp [ine])]
theorem toMachine_id (m : gMachine) (hr : m.Regs.length ≤ 2000000) (hm : m.Mem.length ≤ 2000000) : l_toMachine m = some m := by
  unfold l_toMachine
  rw [toIntS_id _ hr, toIntS_id _ hm]; rfl
theorem toBox_id (b : gBox) (h : b.Items.length ≤ 2000000) : l_toBox b = some b := by
  unfold l_toBox
  rw [toIntS_id _ h]; rfl
theorem toBoxS_id (l : List gBox) (hl : l.length ≤ 2000000) (hi : ∀ b ∈ l, b.Items.length ≤ 2000000) : l_toBoxS l = some l := by
  unfold l_toBoxS
  have hm : makex 32 (ilen l) (⟨0, ([] : List Int)⟩ : gBox) = some (List.replicate l.length ⟨0, []⟩) := by
    unfold makex ilen
    rw [if_pos (by simp; unfold maxLen; omega)]
    simp
  rw [hm, bind_some']
  have := up_loop (step := l_toBoxS_L1 l) (s0 := ((0 : Int), List.replicate l.length (⟨0, []⟩ : gBox))) l.length (fun k => ((k : Int), l.take k ++ List.replicate (l.length - k) ⟨0, []⟩)) l (by simp) (fun k hk => ?_) ?_
  · rw [this]; rfl
  · unfold l_toBoxS_L1
    dsimp only
    have hr : List.replicate (l.length - k) (⟨0, []⟩ : gBox) = ⟨0, []⟩ :: List.replicate (l.length - (k + 1)) ⟨0, []⟩ := by
      rw [show l.length - k = (l.length - (k + 1)) + 1 by omega, List.replicate_succ]
    have ht : (l.take k).length = k := by simp; omega
    rw [if_pos (by rw [ilt_iff]; unfold ilen; omega), idx_at (List.getElem?_eq_getElem hk), hr]
    simp only [bind_some', toBox_id _ (hi _ (List.getElem_mem hk)), idx_cat _ _ _ k ht, setx_cat _ _ _ _ k ht]
    rw [iadd_eq _ _ (by omega), List.take_add_one, List.getElem?_eq_getElem hk]
    simp only [Option.toList_some, List.append_assoc, List.singleton_append]
    rfl
  · unfold l_toBoxS_L1
    dsimp only
    rw [if_neg (by rw [ilt_iff]; unfold ilen; omega)]
    simp

/-! marks -/
def szB (l : List gBox) : Nat := (l.map fun b => 1 + b.Items.length).sum
theorem szB_snoc (l : List gBox) (b : gBox) : szB (l ++ [b]) = szB l + (1 + b.Items.length) := by simp [szB]
def markB : Int → List gBox → List gBox
  | _, [] => []
  | s, b :: l => ⟨s, mkN (s + 1) b.Items.length⟩ :: markB (s + 1 + b.Items.length) l
theorem markB_snoc (a : List gBox) (b : gBox) (s : Int) : markB s (a ++ [b]) = markB s a ++ [⟨s + szB a, mkN (s + szB a + 1) b.Items.length⟩] := by
  induction a generalizing s with
  | nil => simp [markB, szB]
  | cons c a ih =>
    simp only [List.cons_append, markB, ih, szB, List.map_cons, List.sum_cons]
    have e : s + 1 + (c.Items.length : Int) + ((a.map fun b => 1 + b.Items.length).sum : Nat) = s + ((1 + c.Items.length + (a.map fun b => 1 + b.Items.length).sum : Nat) : Int) := by omega
    rw [e]
@[simp] theorem markB_len (s : Int) (l : List gBox) : (markB s l).length = l.length := by
  induction l generalizing s with
  | nil => rfl
  | cons b l ih => simp [markB, ih]
theorem szB_take (l : List gBox) (k : Nat) (hk : k < l.length) : szB (l.take (k + 1)) = szB (l.take k) + (1 + l[k].Items.length) := by
  rw [List.take_add_one, List.getElem?_eq_getElem hk]; exact szB_snoc _ _
theorem szB_le (l : List gBox) (k : Nat) : szB (l.take k) ≤ szB l := by
  have h : szB (l.take k ++ l.drop k) = szB (l.take k) + szB (l.drop k) := by simp only [szB, List.map_append, List.sum_append]
  rw [List.take_append_drop] at h
  omega
theorem markB_take (s : Int) (l : List gBox) (k : Nat) (hk : k < l.length) : markB s (l.take (k + 1)) = markB s (l.take k) ++ [⟨s + szB (l.take k), mkN (s + szB (l.take k) + 1) l[k].Items.length⟩] := by
  rw [List.take_add_one, List.getElem?_eq_getElem hk]; exact markB_snoc _ _ _
theorem markB_append (s : Int) (a b : List gBox) : ∃ t, markB s (a ++ b) = markB s a ++ t := by
  induction a generalizing s with
  | nil => exact ⟨_, rfl⟩
  | cons c a ih => obtain ⟨t, ht⟩ := ih (s + 1 + c.Items.length); exact ⟨t, by simp only [List.cons_append, markB, ht]⟩
theorem markB_get (s : Int) (l : List gBox) (k : Nat) (hk : k < l.length) : (markB s l)[k]? = some ⟨s + szB (l.take k), mkN (s + szB (l.take k) + 1) l[k].Items.length⟩ := by
  obtain ⟨t, ht⟩ := markB_append s (l.take (k + 1)) (l.drop (k + 1))
  rw [List.take_append_drop, markB_take s l k hk] at ht
  rw [ht, List.append_assoc, List.getElem?_append_right (by simp; omega)]
  simp [show min k l.length = k by omega]
theorem markBoxS_val (l : List gBox) (s : Int) (hl : l.length ≤ 2000000) (hi : ∀ b ∈ l, b.Items.length ≤ 2000000) (hs : 0 ≤ s ∧ s + szB l ≤ 1000000000000) : l_markBoxS l s = some (s + (szB l : Int), markB s l) := by
  unfold l_markBoxS
  have := up_loop (step := l_markBoxS_L1) (s0 := (s, (0 : Int), l)) l.length (fun k => (s + (szB (l.take k) : Int), (k : Int), markB s (l.take k) ++ l.drop k)) (s + (szB l : Int), markB s l) (by simp [markB, szB]) (fun k hk => ?_) ?_
  · rw [this]; rfl
  · unfold l_markBoxS_L1
    dsimp only
    have hc : l.drop k = l[k] :: l.drop (k + 1) := List.drop_eq_getElem_cons hk
    have hlen : (markB s (l.take k) ++ l.drop k).length = l.length := by simp; omega
    have hml : (markB s (l.take k)).length = k := by simp; omega
    have hle := szB_le l (k + 1)
    have hsk := szB_take l k hk
    have hit := hi l[k] (List.getElem_mem hk)
    rw [if_pos (by rw [ilt_iff]; unfold ilen; rw [hlen]; omega), hc]
    have e1 : iadd .i64 (s + (szB (l.take k) : Int)) 1 = s + szB (l.take k) + 1 := iadd_eq _ _ (by omega)
    have e6 : iadd .i64 (k : Int) 1 = ((k + 1 : Nat) : Int) := by rw [iadd_eq _ _ (by omega)]; rfl
    simp only [idx_cat _ _ _ k hml, setx_cat _ _ _ _ k hml, bind_some', e1, e6, markIntS_val l[k].Items _ hit (show 0 ≤ s + (szB (l.take k) : Int) + 1 ∧ s + (szB (l.take k) : Int) + 1 ≤ 1000000000000 by omega)]
    rw [markB_take s l k hk, hsk, List.append_assoc]
    simp only [List.singleton_append, Option.some.injEq, Flow.next.injEq, Prod.mk.injEq, and_true]
    omega
  · unfold l_markBoxS_L1
    dsimp only
    rw [List.drop_length, List.append_nil, List.take_length, if_neg (by rw [ilt_iff]; unfold ilen; rw [markB_len]; omega)]
theorem heldBoxS_val (l : List gBox) (s : Int) (hl : l.length ≤ 2000000) (hi : ∀ b ∈ l, b.Items.length ≤ 2000000) (hs : 0 ≤ s ∧ s + szB l ≤ 1000000000000) : l_heldBoxS (markB s l) s = some (s + (szB l : Int)) := by
  unfold l_heldBoxS
  have := up_loop (step := l_heldBoxS_L1 (markB s l)) (s0 := (s, (0 : Int))) l.length (fun k => (s + (szB (l.take k) : Int), (k : Int))) (.inl (s + (szB l : Int))) (by simp [szB]) (fun k hk => ?_) ?_
  · rw [this]; rfl
  · unfold l_heldBoxS_L1
    dsimp only
    have hle := szB_le l (k + 1)
    have hsk := szB_take l k hk
    have hit := hi l[k] (List.getElem_mem hk)
    rw [if_pos (by rw [ilt_iff]; unfold ilen; rw [markB_len]; omega), idx_at (markB_get s l k hk)]
    have e1 : iadd .i64 (s + (szB (l.take k) : Int)) 1 = s + szB (l.take k) + 1 := iadd_eq _ _ (by omega)
    have e6 : iadd .i64 (k : Int) 1 = ((k + 1 : Nat) : Int) := by rw [iadd_eq _ _ (by omega)]; rfl
    simp only [bind_some', e1, e6, heldIntS_val _ _ hit (show 0 ≤ s + (szB (l.take k) : Int) + 1 ∧ s + (szB (l.take k) : Int) + 1 ≤ 1000000000000 by omega)]
    rw [if_neg (by simp [ine]), if_neg (by rw [ilt_iff]; omega), hsk]
    simp only [Option.some.injEq, Flow.next.injEq, Prod.mk.injEq, and_true]
    omega
  · unfold l_heldBoxS_L1
    dsimp only
    rw [List.take_length, if_neg (by rw [ilt_iff]; unfold ilen; rw [markB_len]; omega)]
theorem markMachine_val (m : gMachine) (s : Int) (hr : m.Regs.length ≤ 2000000) (hm : m.Mem.length ≤ 2000000) (hs : 0 ≤ s ∧ s ≤ 100000000000) : l_markMachine m s = some (s + m.Regs.length + m.Mem.length, ⟨mkN s m.Regs.length, m.Pc, mkN (s + m.Regs.length) m.Mem.length⟩) := by
  unfold l_markMachine
  rw [markIntS_val _ _ hr (by omega), bind_some', markIntS_val _ _ hm (by simp only []; omega), bind_some']
theorem heldMachine_val (a b : Nat) (c s : Int) (hr : a ≤ 2000000) (hm : b ≤ 2000000) (hs : 0 ≤ s ∧ s ≤ 100000000000) : l_heldMachine ⟨mkN s a, c, mkN (s + a) b⟩ s = some (s + a + b) := by
  unfold l_heldMachine
  rw [heldIntS_val _ _ hr (by omega), bind_some', if_neg (by rw [ilt_iff]; omega), heldIntS_val _ _ hm (by omega), bind_some', if_neg (by rw [ilt_iff]; omega)]

/-! sizes -/
theorem szMachine_val (m : gMachine) (s : Int) (hr : m.Regs.length ≤ maxLen) (hm : m.Mem.length ≤ maxLen) (hs : 0 ≤ s ∧ s ≤ 1048576) : ∃ r, l_szMachine m s = some r ∧ r ≤ s ∧ (0 ≤ r → (m.Regs.length : Int) + m.Mem.length ≤ s) := by
  unfold l_szMachine
  rw [szIntS_val _ _ hr hs, bind_some']
  by_cases h1 : s < m.Regs.length
  · rw [if_pos h1, if_pos (by rfl)]; exact ⟨_, rfl, by omega, by omega⟩
  · rw [if_neg h1, if_neg (by rw [ilt_iff]; omega), szIntS_val _ _ hm (by omega), bind_some']
    by_cases h2 : s - m.Regs.length < m.Mem.length
    · rw [if_pos h2, if_pos (by rfl)]; exact ⟨_, rfl, by omega, by omega⟩
    · rw [if_neg h2, if_neg (by rw [ilt_iff]; omega)]; exact ⟨_, rfl, by omega, by omega⟩
theorem szBox_val (b : gBox) (s : Int) (h : b.Items.length ≤ maxLen) (hs : 0 ≤ s ∧ s ≤ 1048576) : ∃ r, l_szBox b s = some r ∧ r ≤ s ∧ (0 ≤ r → (b.Items.length : Int) ≤ s - r) := by
  unfold l_szBox
  rw [szIntS_val _ _ h hs, bind_some']
  by_cases h1 : s < b.Items.length
  · rw [if_pos h1, if_pos (by rfl)]; exact ⟨_, rfl, by omega, by omega⟩
  · rw [if_neg h1, if_neg (by rw [ilt_iff]; omega)]; exact ⟨_, rfl, by omega, by omega⟩
theorem szBoxS_val (l : List gBox) (s : Int) (hl : l.length ≤ maxLen) (hi : ∀ b ∈ l, b.Items.length ≤ maxLen) (hs : 0 ≤ s ∧ s ≤ 1048576) : ∃ r, l_szBoxS l s = some r ∧ r ≤ s ∧ (0 ≤ r → (l.length : Int) ≤ s ∧ (szB l : Int) ≤ s + l.length ∧ ∀ b ∈ l, (b.Items.length : Int) ≤ s) := by
  unfold l_szBoxS
  have e : isub .i64 s (ilen l) = s - l.length := by rw [isub_eq _ _ (by unfold ilen; unfold maxLen at hl; omega)]; rfl
  rw [e]
  by_cases h : s < l.length
  · rw [if_pos (by rw [ilt_iff]; omega)]; exact ⟨_, rfl, by omega, by omega⟩
  rw [if_neg (by rw [ilt_iff]; omega)]
  obtain ⟨e, he, hd⟩ := loopM_rule (step := l_szBoxS_L1 l) (s := (s - (l.length : Int), (0 : Int))) (fun q => ∃ k : Nat, k ≤ l.length ∧ q.2 = (k : Int) ∧ 0 ≤ q.1 ∧ q.1 + szB (l.take k) ≤ s - l.length + k ∧ ∀ b ∈ l.take k, (b.Items.length : Int) ≤ s) (fun q => l.length - q.2.toNat)
    (fun e => e = .inr (-1) ∨ ∃ r, e = .inl r ∧ 0 ≤ r ∧ r + szB l ≤ s ∧ ∀ b ∈ l, (b.Items.length : Int) ≤ s) ⟨0, by omega, rfl, by simp only []; omega, by simp [szB], by simp⟩ (by
    rintro ⟨a, k'⟩ ⟨k, hk, h1, h2, h3, h4⟩
    simp only at h1 h2 h3 h4
    subst h1
    unfold l_szBoxS_L1
    dsimp only
    by_cases hlt : k < l.length
    · rw [if_pos (by rw [ilt_iff]; unfold ilen; omega), idx_at (List.getElem?_eq_getElem hlt), bind_some']
      obtain ⟨r, k1, k2, k3⟩ := szBox_val l[k] a (hi _ (List.getElem_mem hlt)) (by omega)
      rw [k1, bind_some']
      by_cases hr : r < 0
      · rw [if_pos (by rw [ilt_iff]; exact hr)]
        exact .inr ⟨_, rfl, .inl rfl⟩
      · rw [if_neg (by rw [ilt_iff]; exact hr)]
        have hsk := szB_take l k hlt
        have := k3 (by omega)
        refine .inl ⟨_, rfl, ⟨k + 1, by omega, by rw [iadd_eq _ _ (by omega)]; rfl, by simp only []; omega, by simp only []; omega, ?_⟩, ?_⟩
        · intro b hb
          rw [List.take_add_one, List.getElem?_eq_getElem hlt] at hb
          rcases List.mem_append.1 hb with hb | hb
          · exact h4 b hb
          · simp at hb; subst hb; omega
        · simp only [iadd_eq (k : Int) 1 (by omega)]; omega
    · rw [if_neg (by rw [ilt_iff]; unfold ilen; omega)]
      have : k = l.length := by omega
      subst this
      rw [List.take_length] at h3 h4
      exact .inr ⟨_, rfl, .inr ⟨_, rfl, h2, by omega, h4⟩⟩)
  rw [he]
  rcases hd with rfl | ⟨r, rfl, h1, h2, h3⟩
  · exact ⟨-1, rfl, by omega, by omega⟩
  · exact ⟨r, rfl, by omega, fun _ => ⟨by omega, by omega, h3⟩⟩
end Go.Abs
