/- Mailboxes and machines: copied, compared, marked, held, their size. -/
import Derived.Test.YtlcilhmkbmgkeaaDoorNPlID
set_option linter.unusedSimpArgs false
set_option linter.unusedVariables false
set_option maxHeartbeats 8000000
namespace Go.Abs
open Go

theorem eqBox_refl (b : gBox) (h : b.Items.length ≤ 2000000) : l_eqBox b b = some true := by
  unfold l_eqBox
  rw [if_neg (by simp [ine]), eqIntS_refl _ h]; rfl
theorem eqBoxS_refl (l : List gBox) (hl : l.length ≤ 2000000) (hi : ∀ b ∈ l, b.Items.length ≤ 2000000) : l_eqBoxS l l = some true := by
  unfold l_eqBoxS
  rw [if_neg (by simp [ine])]
  have := up_loop (step := l_eqBoxS_L1 l l) (s0 := (0 : Int)) l.length (fun k => (k : Int)) (.inl ()) rfl (fun k hk => ?_) ?_
  · rw [this]; rfl
  · unfold l_eqBoxS_L1
    dsimp only
    rw [if_pos (by rw [ilt_iff]; unfold ilen; omega), idx_at (List.getElem?_eq_getElem hk)]
    simp only [bind_some', eqBox_refl _ (hi _ (List.getElem_mem hk))]
    rw [show bnot true = false from rfl, if_neg (by decide), iadd_eq _ _ (by omega)]
    rfl
  · unfold l_eqBoxS_L1
    dsimp only
    rw [if_neg (by rw [ilt_iff]; unfold ilen; omega)]
theorem eqMachine_refl (m : gMachine) (hr : m.Regs.length ≤ 2000000) (hm : m.Mem.length ≤ 2000000) : l_eqMachine m m = some true := by
  unfold l_eqMachine
  rw [eqIntS_refl _ hr, eqIntS_refl _ hm]
  simp only [bind_some', show bnot true = false from rfl, Bool.false_eq_true, if_false]
  rw [if_neg (by simp [ine])]
/-! marks -/
def szB (l : List gBox) : Nat := (l.map fun b => 1 + b.Items.length).sum
theorem szB_snoc (l : List gBox) (b : gBox) : szB (l ++ [b]) = szB l + (1 + b.Items.length) := by simp [szB]
def markB : Int → List gBox → List gBox
  | _, [] => []
  | s, b :: l => ⟨s, mkN (s + 1) b.Items.length⟩ :: markB (s + 1 + b.Items.length) l
theorem markB_snoc (a : List gBox) (b : gBox) (s : Int) : markB s (a ++ [b]) = markB s a ++ [⟨s + szB a, mkN (s + szB a + 1) b.Items.length⟩] := by
  induction a generalizing s with
  | nil => simp [markB, szB]
  | cons c a ih =>
    simp only [List.cons_append, markB, ih, szB, List.map_cons, List.sum_cons]
    have e : s + 1 + (c.Items.length : Int) + ((a.map fun b => 1 + b.Items.length).sum : Nat) = s + ((1 + c.Items.length + (a.map fun b => 1 + b.Items.length).sum : Nat) : Int) := by omega
    rw [e]
@[simp] theorem markB_len (s : Int) (l : List gBox) : (markB s l).length = l.length := by
  induction l generalizing s with
  | nil => rfl
  | cons b l ih => simp [markB, ih]
theorem szB_take (l : List gBox) (k : Nat) (hk : k < l.length) : szB (l.take (k + 1)) = szB (l.take k) + (1 + l[k].Items.length) := by
  rw [List.take_add_one, List.getElem?_eq_getElem hk]; exact szB_snoc _ _
theorem szB_le (l : List gBox) (k : Nat) : szB (l.take k) ≤ szB l := by
  have h : szB (l.take k ++ l.drop k) = szB (l.take k) + szB (l.drop k) := by simp only [szB, List.map_append, List.sum_append]
  rw [List.take_append_drop] at h
  omega
theorem markB_take (s : Int) (l : List gBox) (k : Nat) (hk : k < l.length) : markB s (l.take (k + 1)) = markB s (l.take k) ++ [⟨s + szB (l.take k), mkN (s + szB (l.take k) + 1) l[k].Items.length⟩] := by
  rw [List.take_add_one, List.getElem?_eq_getElem hk]; exact markB_snoc _ _ _
theorem markB_append (s : Int) (a b : List gBox) : ∃ t, markB s (a ++ b) = markB s a ++ t := by
  induction a generalizing s with
  | nil => exact ⟨_, rfl⟩
  | cons c a ih => obtain ⟨t, ht⟩ := ih (s + 1 + c.Items.length); exact ⟨t, by simp only [List.cons_append, markB, ht]⟩
theorem markB_get (s : Int) (l : List gBox) (k : Nat) (hk : k < l.length) : (markB s l)[k]? = some ⟨s + szB (l.take k), mkN (s + szB (l.take k) + 1) l[k].Items.length⟩ := by
  obtain ⟨t, ht⟩ := markB_append s (l.take (k + 1)) (l.drop (k + 1))
  rw [List.take_append_drop, markB_take s l k hk] at ht
  rw [ht, List.append_assoc, List.getElem?_append_right (by simp; omega)]
  simp [show min k l.length = k by omega]
theorem markBoxS_val (l : List gBox) (s : Int) (hl : l.length ≤ 2000000) (hi : ∀ b ∈ l, b.Items.length ≤ 2000000) (hs : 0 ≤ s ∧ s + szB l ≤ 1000000000000) : l_markBoxS l s = some (s + (szB l : Int), markB s l) := by
  unfold l_markBoxS
  have := up_loop (step := l_markBoxS_L1) (s0 := (s, (0 : Int), l)) l.length (fun k => (s + (szB (l.take k) : Int), (k : Int), markB s (l.take k) ++ l.drop k)) (s + (szB l : Int), markB s l) (by simp [markB, szB]) (fun k hk => ?_) ?_
  · rw [this]; rfl
  · unfold l_markBoxS_L1
    dsimp only
    have hc : l.drop k = l[k] :: l.drop (k + 1) := List.drop_eq_getElem_cons hk
    have hlen : (markB s (l.take k) ++ l.drop k).length = l.length := by simp; omega
    have hml : (markB s (l.take k)).length = k := by simp; omega
    have hle := szB_le l (k + 1)
    have hsk := szB_take l k hk
    have hit := hi l[k] (List.getElem_mem hk)
    rw [if_pos (by rw [ilt_iff]; unfold ilen; rw [hlen]; omega), hc]
    have e1 : iadd .i64 (s + (szB (l.take k) : Int)) 1 = s + szB (l.take k) + 1 := iadd_eq _ _ (by omega)
    have e6 : iadd .i64 (k : Int) 1 = ((k + 1 : Nat) : Int) := by rw [iadd_eq _ _ (by omega)]; rfl
    simp only [idx_cat _ _ _ k hml, setx_cat _ _ _ _ k hml, bind_some', e1, e6, markIntS_val l[k].Items _ hit (show 0 ≤ s + (szB (l.take k) : Int) + 1 ∧ s + (szB (l.take k) : Int) + 1 ≤ 1000000000000 by omega)]
    rw [markB_take s l k hk, hsk, List.append_assoc]
    simp only [List.singleton_append, Option.some.injEq, Flow.next.injEq, Prod.mk.injEq, and_true]
    omega
  · unfold l_markBoxS_L1
    dsimp only
    rw [List.drop_length, List.append_nil, List.take_length, if_neg (by rw [ilt_iff]; unfold ilen; rw [markB_len]; omega)]
theorem heldBoxS_val (l : List gBox) (s : Int) (hl : l.length ≤ 2000000) (hi : ∀ b ∈ l, b.Items.length ≤ 2000000) (hs : 0 ≤ s ∧ s + szB l ≤ 1000000000000) : l_heldBoxS (markB s l) s = some (s + (szB l : Int)) := by
  unfold l_heldBoxS
  have := up_loop (step := l_heldBoxS_L1 (markB s l)) (s0 := (s, (0 : Int))) l.length (fun k => (s + (szB (l.take k) : Int), (k : Int))) (.inl (s + (szB l : Int))) (by simp [szB]) (fun k hk => ?_) ?_
  · rw [this]; rfl
  · unfold l_heldBoxS_L1
    dsimp only
    have hle := szB_le l (k + 1)
    have hsk := szB_take l k hk
    have hit := hi l[k] (List.getElem_mem hk)
    rw [if_pos (by rw [ilt_iff]; unfold ilen; rw [markB_len]; omega), idx_at (markB_get s l k hk)]
    have e1 : iadd .i64 (s + (szB (l.take k) : Int)) 1 = s + szB (l.take k) + 1 := iadd_eq _ _ (by omega)
    have e6 : iadd .i64 (k : Int) 1 = ((k + 1 : Nat) : Int) := by rw [iadd_eq _ _ (by omega)]; rfl
    simp only [bind_some', e1, e6, heldIntS_val _ _ hit (show 0 ≤ s + (szB (l.take k) : Int) + 1 ∧ s + (szB (l.take k) : Int) + 1 ≤ 1000000000000 by omega)]
    rw [if_neg (by simp [ine]), if_neg (by rw [ilt_iff]; omega), hsk]
    simp only [Option.some.injEq, Flow.next.injEq, Prod.mk.injEq, and_true]
    omega
  · unfold l_heldBoxS_L1
    dsimp only
    rw [List.take_length, if_neg (by rw [ilt_iff]; unfold ilen; rw [markB_len]; omega)]
/-! sizes -/
end Go.Abs
