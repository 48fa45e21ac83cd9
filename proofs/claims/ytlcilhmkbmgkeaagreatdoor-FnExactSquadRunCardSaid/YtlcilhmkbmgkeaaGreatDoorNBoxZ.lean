/- Mailboxes and machines: copied, compared, marked, held, their size. -/
import Derived.Test.YtlcilhmkbmgkeaaGreatDoorNPlZ
set_option linter.unusedSimpArgs false
set_option linter.unusedVariables false
set_option maxHeartbeats 8000000
namespace Go.Abs
open Go

theorem eqBox_refl (b : gBox) (h : b.Items.length ≤ 4000000) : l_eqBox b b = some true := by
 unfold l_eqBox
 rw [if_neg (by simp [ine]), eqIntS_refl _ h]; rfl
theorem eqBoxS_refl (l : List gBox) (hl : l.length ≤ 4000000) (hi : ∀ b ∈ l, b.Items.length ≤ 4000000) : l_eqBoxS l l = some true := by
 unfold l_eqBoxS
 rw [if_neg (by simp [ine])]
 have := up_loop (step := l_eqBoxS_L1 l l) (s0 := (0 : Int)) l.length (fun k => (k : Int)) (.inl ()) rfl (fun k hk => ?_) ?_
 ·rw [this]; rfl
 ·unfold l_eqBoxS_L1
  dsimp only
  rw [if_pos (by rw [ilt_iff]; unfold ilen; omega), idx_at (List.getElem?_eq_getElem hk)]
  simp only [bind_some', eqBox_refl _ (hi _ (List.getElem_mem hk))]
  rw [show bnot true = false from rfl, if_neg (by decide), iadd_eq _ _ (by omega)]
  rfl
 ·unfold l_eqBoxS_L1
  dsimp only
  rw [if_neg (by rw [ilt_iff]; unfold ilen; omega)]
theorem eqMachine_refl (m : gMachine) (hr : m.Regs.length ≤ 4000000) (hm : m.Mem.length ≤ 4000000) : l_eqMachine m m = some true := by
 unfold l_eqMachine
 rw [eqIntS_refl _ hr, eqIntS_refl _ hm]
 simp only [bind_some', show bnot true = false from rfl, Bool.false_eq_true, if_false]
 rw [if_neg (by simp [ine])]
theorem toMachine_id (m : gMachine) (hr : m.Regs.length ≤ 4000000) (hm : m.Mem.length ≤ 4000000) : l_toMachine m = some m := by
 unfold l_toMachine
 rw [toIntS_id _ hr, toIntS_id _ hm]; rfl
theorem toBox_id (b : gBox) (h : b.Items.length ≤ 4000000) : l_toBox b = some b := by
 unfold l_toBox
 rw [toIntS_id _ h]; rfl
theorem toBoxS_id (l : List gBox) (hl : l.length ≤ 4000000) (hi : ∀ b ∈ l, b.Items.length ≤ 4000000) : l_toBoxS l = some l := by
 unfold l_toBoxS
 have hm : makex 32 (ilen l) (⟨0, ([] : List Int)⟩ : gBox) = some (List.replicate l.length ⟨0, []⟩) := by
  unfold makex ilen
  rw [if_pos (by simp; unfold maxLen; omega)]
  simp
 rw [hm, bind_some']
 have := up_loop (step := l_toBoxS_L1 l) (s0 := ((0 : Int), List.replicate l.length (⟨0, []⟩ : gBox))) l.length (fun k => ((k : Int), l.take k ++ List.replicate (l.length - k) ⟨0, []⟩)) l (by simp) (fun k hk => ?_) ?_
 ·rw [this]; rfl
 ·unfold l_toBoxS_L1
  dsimp only
  have hr : List.replicate (l.length - k) (⟨0, []⟩ : gBox) = ⟨0, []⟩ :: List.replicate (l.length - (k + 1)) ⟨0, []⟩ := by
   rw [show l.length - k = (l.length - (k + 1)) + 1 by omega, List.replicate_succ]
  have ht : (l.take k).length = k := by simp; omega
  rw [if_pos (by rw [ilt_iff]; unfold ilen; omega), idx_at (List.getElem?_eq_getElem hk), hr]
  simp only [bind_some', toBox_id _ (hi _ (List.getElem_mem hk)), idx_cat _ _ _ k ht, setx_cat _ _ _ _ k ht]
  rw [iadd_eq _ _ (by omega), List.take_add_one, List.getElem?_eq_getElem hk]
  simp only [Option.toList_some, List.append_assoc, List.singleton_append]
  rfl
 ·unfold l_toBoxS_L1
  dsimp only
  rw [if_neg (by rw [ilt_iff]; unfold ilen; omega)]
  simp

/-! marks -/
def szB (l : List gBox) : Nat := (l.map fun b => 1 + b.Items.length).sum
theorem szB_snoc (l : List gBox) (b : gBox) : szB (l ++ [b]) = szB l + (1 + b.Items.length) := by simp [szB]
def markB : Int → List gBox → List gBox
 | _, [] => []
 | s, b :: l => ⟨s, mkN (s + 1) b.Items.length⟩ :: markB (s + 1 + b.Items.length) l
theorem markB_snoc (a : List gBox) (b : gBox) (s : Int) : markB s (a ++ [b]) = markB s a ++ [⟨s + szB a, mkN (s + szB a + 1) b.Items.length⟩] := by
 induction a generalizing s with
 | nil => simp [markB, szB]
 | cons c a ih =>
  simp only [List.cons_append, markB, ih, szB, List.map_cons, List.sum_cons]
  have e : s + 1 + (c.Items.length : Int) + ((a.map fun b => 1 + b.Items.length).sum : Nat) = s + ((1 + c.Items.length + (a.map fun b => 1 + b.Items.length).sum : Nat) : Int) := by omega
  rw [e]
@[simp] theorem markB_len (s : Int) (l : List gBox) : (markB s l).length = l.length := by
 induction l generalizing s with
 | nil => rfl
 | cons b l ih => simp [markB, ih]
theorem szB_take (l : List gBox) (k : Nat) (hk : k < l.length) : szB (l.take (k + 1)) = szB (l.take k) + (1 + l[k].Items.length) := by
 rw [List.take_add_one, List.getElem?_eq_getElem hk]; exact szB_snoc _ _
theorem szB_le (l : List gBox) (k : Nat) : szB (l.take k) ≤ szB l := by
 have h : szB (l.take k ++ l.drop k) = szB (l.take k) + szB (l.drop k) := by simp only [szB, List.map_append, List.sum_append]
 rw [List.take_append_drop] at h
 omega
theorem markB_take (s : Int) (l : List gBox) (k : Nat) (hk : k < l.length) : markB s (l.take (k + 1)) = markB s (l.take k) ++ [⟨s + szB (l.take k), mkN (s + szB (l.take k) + 1) l[k].Items.length⟩] := by
 rw [List.take_add_one, List.getElem?_eq_getElem hk]; exact markB_snoc _ _ _
theorem markB_append (s : Int) (a b : List gBox) : ∃ t, markB s (a ++ b) = markB s a ++ t := by
 induction a generalizing s with
 | nil => exact ⟨_, rfl⟩
 | cons c a ih => obtain ⟨t, ht⟩ := ih (s + 1 + c.Items.length); exact ⟨t, by simp only [List.cons_append, markB, ht]⟩
theorem markB_get (s : Int) (l : List gBox) (k : Nat) (hk : k < l.length) : (markB s l)[k]? = some ⟨s + szB (l.take k), mkN (s + szB (l.take k) + 1) l[k].Items.length⟩ := by
 obtain ⟨t, ht⟩ := markB_append s (l.take (k + 1)) (l.drop (k + 1))
 rw [List.take_append_drop, markB_take s l k hk] at ht
 rw [ht, List.append_assoc, List.getElem?_append_right (by simp; omega)]
 simp [show min k l.length = k by omega]
theorem markBoxS_val (l : List gBox) (s : Int) (hl : l.length ≤ 4000000) (hi : ∀ b ∈ l, b.Items.length ≤ 4000000) (hs : 0 ≤ s ∧ s + szB l ≤ 1000000000000) : l_markBoxS l s = some (s + (szB l : Int), markB s l) := by
 unfold l_markBoxS
 have := up_loop (step := l_markBoxS_L1) (s0 := (s, (0 : Int), l)) l.length (fun k => (s + (szB (l.take k) : Int), (k : Int), markB s (l.take k) ++ l.drop k)) (s + (szB l : Int), markB s l) (by simp [markB, szB]) (fun k hk => ?_) ?_
 ·rw [this]; rfl
 ·unfold l_markBoxS_L1
  dsimp only
  have hc : l.drop k = l[k] :: l.drop (k + 1) := List.drop_eq_getElem_cons hk
  have hlen : (markB s (l.take k) ++ l.drop k).length = l.length := by simp; omega
  have hml : (markB s (l.take k)).length = k := by simp; omega
  have hle := szB_le l (k + 1)
  have hsk := szB_take l k hk
  have hit := hi l[k] (List.getElem_mem hk)
  rw [if_pos (by rw [ilt_iff]; unfold ilen; rw [hlen]; omega), hc]
  have e1 : iadd .i64 (s + (szB (l.take k) : Int)) 1 = s + szB (l.take k) + 1 := iadd_eq _ _ (by omega)
  have e6 : iadd .i64 (k : Int) 1 = ((k + 1 : Nat) : Int) := by rw [iadd_eq _ _ (by omega)]; rfl
  simp only [idx_cat _ _ _ k hml, setx_cat _ _ _ _ k hml, bind_some', e1, e6, markIntS_val l[k].Items _ hit (show 0 ≤ s + (szB (l.take k) : Int) + 1 ∧ s + (szB (l.take k) : Int) + 1 ≤ 1000000000000 by omega)]
  rw [markB_take s l k hk, hsk, List.append_assoc]
  simp only [List.singleton_append, Option.some.injEq, Flow.next.injEq, Prod.mk.injEq, and_true]
  omega
 ·unfold l_markBoxS_L1
  dsimp only
  rw [List.drop_length, List.append_nil, List.take_length, if_neg (by rw [ilt_iff]; unfold ilen; rw [markB_len]; omega)]
theorem heldBoxS_val (l : List gBox) (s : Int) (hl : l.length ≤ 4000000) (hi : ∀ b ∈ l, b.Items.length ≤ 4000000) (hs : 0 ≤ s ∧ s + szB l ≤ 1000000000000) : l_heldBoxS (markB s l) s = some (s + (szB l : Int)) := by
 unfold l_heldBoxS
 have := up_loop (step := l_heldBoxS_L1 (markB s l)) (s0 := (s, (0 : Int))) l.length (fun k => (s + (szB (l.take k) : Int), (k : Int))) (.inl (s + (szB l : Int))) (by simp [szB]) (fun k hk => ?_) ?_
 ·rw [this]; rfl
 ·unfold l_heldBoxS_L1
  dsimp only
  have hle := szB_le l (k + 1)
  have hsk := szB_take l k hk
  have hit := hi l[k] (List.getElem_mem hk)
  rw [if_pos (by rw [ilt_iff]; unfold ilen; rw [markB_len]; omega), idx_at (markB_get s l k hk)]
  have e1 : iadd .i64 (s + (szB (l.take k) : Int)) 1 = s + szB (l.take k) + 1 := iadd_eq _ _ (by omega)
  have e6 : iadd .i64 (k : Int) 1 = ((k + 1 : Nat) : Int) := by rw [iadd_eq _ _ (by omega)]; rfl
  simp only [bind_some', e1, e6, heldIntS_val _ _ hit (show 0 ≤ s + (szB (l.take k) : Int) + 1 ∧ s + (szB (l.take k) : Int) + 1 ≤ 1000000000000 by omega)]
  rw [if_neg (by simp [ine]), if_neg (by rw [ilt_iff]; omega), hsk]
  simp only [Option.some.injEq, Flow.next.injEq, Prod.mk.injEq, and_true]
  omega
 ·unfold l_heldBoxS_L1
  dsimp only
  rw [List.take_length, if_neg (by rw [ilt_iff]; unfold ilen; rw [markB_len]; omega)]
/-! sizes -/
theorem szBox_val (b : gBox) (s : Int) (h : b.Items.length ≤ maxLen) (hs : 0 ≤ s ∧ s ≤ 1048576) : ∃ r, l_szBox b s = some r ∧ r ≤ s ∧ (0 ≤ r → (b.Items.length : Int) ≤ s - r) := by
 unfold l_szBox
 rw [szIntS_val _ _ h hs, bind_some']
 by_cases h1 : s < b.Items.length
 ·rw [if_pos h1, if_pos (by rfl)]; exact ⟨_, rfl, by omega, by omega⟩
 ·rw [if_neg h1, if_neg (by rw [ilt_iff]; omega)]; exact ⟨_, rfl, by omega, by omega⟩
theorem szBoxS_val (l : List gBox) (s : Int) (hl : l.length ≤ maxLen) (hi : ∀ b ∈ l, b.Items.length ≤ maxLen) (hs : 0 ≤ s ∧ s ≤ 1048576) : ∃ r, l_szBoxS l s = some r ∧ r ≤ s ∧ (0 ≤ r → (l.length : Int) ≤ s ∧ (szB l : Int) ≤ s + l.length ∧ ∀ b ∈ l, (b.Items.length : Int) ≤ s) := by
 unfold l_szBoxS
 have e : isub .i64 s (ilen l) = s - l.length := by rw [isub_eq _ _ (by unfold ilen; unfold maxLen at hl; omega)]; rfl
 rw [e]
 by_cases h : s < l.length
 ·rw [if_pos (by rw [ilt_iff]; omega)]; exact ⟨_, rfl, by omega, by omega⟩
 rw [if_neg (by rw [ilt_iff]; omega)]
 obtain ⟨e, he, hd⟩ := loopM_rule (step := l_szBoxS_L1 l) (s := (s - (l.length : Int), (0 : Int))) (fun q => ∃ k : Nat, k ≤ l.length ∧ q.2 = (k : Int) ∧ 0 ≤ q.1 ∧ q.1 + szB (l.take k) ≤ s - l.length + k ∧ ∀ b ∈ l.take k, (b.Items.length : Int) ≤ s) (fun q => l.length - q.2.toNat)
  (fun e => e = .inr (-1) ∨ ∃ r, e = .inl r ∧ 0 ≤ r ∧ r + szB l ≤ s ∧ ∀ b ∈ l, (b.Items.length : Int) ≤ s) ⟨0, by omega, rfl, by simp only []; omega, by simp [szB], by simp⟩ (by
  rintro ⟨a, k'⟩ ⟨k, hk, h1, h2, h3, h4⟩
  simp only at h1 h2 h3 h4
  subst h1
  unfold l_szBoxS_L1
  dsimp only
  by_cases hlt : k < l.length
  ·rw [if_pos (by rw [ilt_iff]; unfold ilen; omega), idx_at (List.getElem?_eq_getElem hlt), bind_some']
   obtain ⟨r, k1, k2, k3⟩ := szBox_val l[k] a (hi _ (List.getElem_mem hlt)) (by omega)
   rw [k1, bind_some']
   by_cases hr : r < 0
   ·rw [if_pos (by rw [ilt_iff]; exact hr)]
    exact .inr ⟨_, rfl, .inl rfl⟩
   ·rw [if_neg (by rw [ilt_iff]; exact hr)]
    have hsk := szB_take l k hlt
    have := k3 (by omega)
    refine .inl ⟨_, rfl, ⟨k + 1, by omega, by rw [iadd_eq _ _ (by omega)]; rfl, by simp only []; omega, by simp only []; omega, ?_⟩, ?_⟩
    ·intro b hb
     rw [List.take_add_one, List.getElem?_eq_getElem hlt] at hb
     rcases List.mem_append.1 hb with hb | hb
     ·exact h4 b hb
     ·simp at hb; subst hb; omega
    ·simp only [iadd_eq (k : Int) 1 (by omega)]; omega
  ·rw [if_neg (by rw [ilt_iff]; unfold ilen; omega)]
   have : k = l.length := by omega
   subst this
   rw [List.take_length] at h3 h4
   exact .inr ⟨_, rfl, .inr ⟨_, rfl, h2, by omega, h4⟩⟩)
 rw [he]
 rcases hd with rfl | ⟨r, rfl, h1, h2, h3⟩
 ·exact ⟨-1, rfl, by omega, by omega⟩
 ·exact ⟨r, rfl, by omega, fun _ => ⟨by omega, by omega, h3⟩⟩
end Go.Abs

/- Squads and outcomes: copied, compared, marked, held, their size. -/
set_option linter.unusedSimpArgs false
set_option linter.unusedVariables false
set_option maxHeartbeats 8000000
namespace Go.Abs
open Go

/-! outcomes -/
def markL : Int → List (List Int) → List (List Int)
 | _, [] => []
 | s, b :: l => mkN s b.length :: markL (s + b.length) l
@[simp] theorem markL_len (s : Int) (l : List (List Int)) : (markL s l).length = l.length := by
 induction l generalizing s with
 | nil => rfl
 | cons b l ih => simp [markL, ih]
def mkBo (s : Int) (n : Nat) : List Bool := (List.range n).map fun k : Nat => ieq ((s + (k : Int)) % 3) 0
@[simp] theorem mkBo_len (s : Int) (n : Nat) : (mkBo s n).length = n := by simp [mkBo]
/-! squads -/
theorem eqMachineS_refl (l : List gMachine) (hl : l.length ≤ 4000000) (hi : ∀ m ∈ l, m.Regs.length ≤ 4000000 ∧ m.Mem.length ≤ 4000000) : l_eqMachineS l l = some true := by
 unfold l_eqMachineS
 rw [if_neg (by simp [ine])]
 have := up_loop (step := l_eqMachineS_L1 l l) (s0 := (0 : Int)) l.length (fun k => (k : Int)) (.inl ()) rfl (fun k hk => ?_) ?_
 ·rw [this]; rfl
 ·unfold l_eqMachineS_L1
  dsimp only
  have h := hi _ (List.getElem_mem hk)
  rw [if_pos (by rw [ilt_iff]; unfold ilen; omega), idx_at (List.getElem?_eq_getElem hk)]
  simp only [bind_some', eqMachine_refl _ h.1 h.2]
  rw [show bnot true = false from rfl, if_neg (by decide), iadd_eq _ _ (by omega)]
  rfl
 ·unfold l_eqMachineS_L1
  dsimp only
  rw [if_neg (by rw [ilt_iff]; unfold ilen; omega)]
theorem toMachineS_id (l : List gMachine) (hl : l.length ≤ 4000000) (hi : ∀ m ∈ l, m.Regs.length ≤ 4000000 ∧ m.Mem.length ≤ 4000000) : l_toMachineS l = some l := by
 unfold l_toMachineS
 have hm : makex 56 (ilen l) (⟨([] : List Int), 0, ([] : List Int)⟩ : gMachine) = some (List.replicate l.length ⟨[], 0, []⟩) := by
  unfold makex ilen
  rw [if_pos (by simp; unfold maxLen; omega)]
  simp
 rw [hm, bind_some']
 have := up_loop (step := l_toMachineS_L1 l) (s0 := ((0 : Int), List.replicate l.length (⟨[], 0, []⟩ : gMachine))) l.length (fun k => ((k : Int), l.take k ++ List.replicate (l.length - k) ⟨[], 0, []⟩)) l (by simp) (fun k hk => ?_) ?_
 ·rw [this]; rfl
 ·unfold l_toMachineS_L1
  dsimp only
  have h := hi _ (List.getElem_mem hk)
  have hr : List.replicate (l.length - k) (⟨[], 0, []⟩ : gMachine) = ⟨[], 0, []⟩ :: List.replicate (l.length - (k + 1)) ⟨[], 0, []⟩ := by
   rw [show l.length - k = (l.length - (k + 1)) + 1 by omega, List.replicate_succ]
  have ht : (l.take k).length = k := by simp; omega
  rw [if_pos (by rw [ilt_iff]; unfold ilen; omega), idx_at (List.getElem?_eq_getElem hk), hr]
  simp only [bind_some', toMachine_id _ h.1 h.2, idx_cat _ _ _ k ht, setx_cat _ _ _ _ k ht]
  rw [iadd_eq _ _ (by omega), List.take_add_one, List.getElem?_eq_getElem hk]
  simp only [Option.toList_some, List.append_assoc, List.singleton_append]
  rfl
 ·unfold l_toMachineS_L1
  dsimp only
  rw [if_neg (by rw [ilt_iff]; unfold ilen; omega)]
  simp
def szMs (l : List gMachine) : Nat := (l.map fun m => 1 + m.Regs.length + m.Mem.length).sum
theorem szMs_app (a b : List gMachine) : szMs (a ++ b) = szMs a + szMs b := by simp only [szMs, List.map_append, List.sum_append]
theorem szMs_take (l : List gMachine) (k : Nat) (hk : k < l.length) : szMs (l.take (k + 1)) = szMs (l.take k) + (1 + l[k].Regs.length + l[k].Mem.length) := by
 rw [List.take_add_one, List.getElem?_eq_getElem hk, szMs_app]; simp [szMs]
theorem szMs_le (l : List gMachine) (k : Nat) : szMs (l.take k) ≤ szMs l := by
 have h := szMs_app (l.take k) (l.drop k)
 rw [List.take_append_drop] at h
 omega
theorem markMachineS_ex (l : List gMachine) (s : Int) (hl : l.length ≤ 4000000) (hi : ∀ m ∈ l, m.Regs.length ≤ 4000000 ∧ m.Mem.length ≤ 4000000) (hs : 0 ≤ s ∧ s ≤ 1000000) (hz : szMs l ≤ 100000000) : ∃ n l', l_markMachineS l s = some (n, l') ∧ n = s + szMs l := by
 have zt := szMs_take l
 have zl := szMs_le l
 unfold l_markMachineS
 obtain ⟨e, he, hd⟩ := loopM_rule (step := l_markMachineS_L1) (s := (s, (0 : Int), l)) (fun q => ∃ k : Nat, k ≤ l.length ∧ q.2.1 = (k : Int) ∧ q.1 = s + szMs (l.take k) ∧ ∃ p, p.length = k ∧ q.2.2 = p ++ l.drop k) (fun q => l.length - q.2.1.toNat)
  (fun e => e.1 = s + szMs l) ⟨0, by omega, rfl, by simp [szMs], [], rfl, rfl⟩ (by
  rintro ⟨a, k', q⟩ ⟨k, hk, h1, h2, p, hp1, hp2⟩
  simp only at h1 h2 hp2
  subst h1 h2 hp2
  unfold l_markMachineS_L1
  dsimp only
  have hlen : (p ++ l.drop k).length = l.length := by simp; omega
  by_cases hlt : k < l.length
  ·have hc : l.drop k = l[k] :: l.drop (k + 1) := List.drop_eq_getElem_cons hlt
   have h := hi _ (List.getElem_mem hlt)
   have hle := zl (k + 1)
   have hsk := zt k hlt
   rw [if_pos (by rw [ilt_iff]; unfold ilen; rw [hlen]; omega), hc]
   have e1 : iadd .i64 (s + (szMs (l.take k) : Int) + l[k].Regs.length) 1 = s + szMs (l.take k) + l[k].Regs.length + 1 := iadd_eq _ _ (by omega)
   have e6 : iadd .i64 (k : Int) 1 = ((k + 1 : Nat) : Int) := by rw [iadd_eq _ _ (by omega)]; rfl
   simp only [idx_cat _ _ _ k hp1, setx_cat _ _ _ _ k hp1, bind_some', e1, e6, markIntS_val l[k].Regs _ h.1 (show 0 ≤ s + (szMs (l.take k) : Int) ∧ s + (szMs (l.take k) : Int) ≤ 1000000000000 by omega),
    markIntS_val l[k].Mem _ h.2 (show 0 ≤ s + (szMs (l.take k) : Int) + l[k].Regs.length + 1 ∧ s + (szMs (l.take k) : Int) + l[k].Regs.length + 1 ≤ 1000000000000 by omega)]
   refine .inl ⟨_, rfl, ⟨k + 1, by omega, rfl, ?_, ?_⟩, ?_⟩
   ·simp only []; rw [hsk]; omega
   ·exact ⟨p ++ [_], by simp [hp1], by rw [List.append_assoc]; rfl⟩
   ·simp only []; omega
  ·rw [if_neg (by rw [ilt_iff]; unfold ilen; rw [hlen]; omega)]
   have : k = l.length := by omega
   subst this
   exact .inr ⟨_, rfl, by simp⟩)
 obtain ⟨n, l'⟩ := e
 simp only at hd
 rw [he]
 exact ⟨n, l', rfl, hd⟩
theorem szMachine_val2 (m : gMachine) (s : Int) (hr : m.Regs.length ≤ maxLen) (hm : m.Mem.length ≤ maxLen) (hs : 0 ≤ s ∧ s ≤ 1048576) : ∃ r, l_szMachine m s = some r ∧ r ≤ s ∧ (0 ≤ r → (m.Regs.length : Int) + m.Mem.length ≤ s - r) := by
 unfold l_szMachine
 rw [szIntS_val _ _ hr hs, bind_some']
 by_cases h1 : s < m.Regs.length
 ·rw [if_pos h1, if_pos (by rfl)]; exact ⟨_, rfl, by omega, by omega⟩
 ·rw [if_neg h1, if_neg (by rw [ilt_iff]; omega), szIntS_val _ _ hm (by omega), bind_some']
  by_cases h2 : s - m.Regs.length < m.Mem.length
  ·rw [if_pos h2, if_pos (by rfl)]; exact ⟨_, rfl, by omega, by omega⟩
  ·rw [if_neg h2, if_neg (by rw [ilt_iff]; omega)]; exact ⟨_, rfl, by omega, by omega⟩
theorem szMachineS_val (l : List gMachine) (s : Int) (hl : l.length ≤ maxLen) (hi : ∀ m ∈ l, m.Regs.length ≤ maxLen ∧ m.Mem.length ≤ maxLen) (hs : 0 ≤ s ∧ s ≤ 1048576) :
  ∃ r, l_szMachineS l s = some r ∧ r ≤ s ∧ (0 ≤ r → (l.length : Int) ≤ s ∧ (szMs l : Int) ≤ s ∧ ∀ m ∈ l, (m.Regs.length : Int) ≤ s ∧ (m.Mem.length : Int) ≤ s) := by
 have zt := szMs_take l
 unfold l_szMachineS
 have e : isub .i64 s (ilen l) = s - l.length := by rw [isub_eq _ _ (by unfold ilen; unfold maxLen at hl; omega)]; rfl
 rw [e]
 by_cases h : s < l.length
 ·rw [if_pos (by rw [ilt_iff]; omega)]; exact ⟨_, rfl, by omega, by omega⟩
 rw [if_neg (by rw [ilt_iff]; omega)]
 obtain ⟨e, he, hd⟩ := loopM_rule (step := l_szMachineS_L1 l) (s := (s - (l.length : Int), (0 : Int))) (fun q => ∃ k : Nat, k ≤ l.length ∧ q.2 = (k : Int) ∧ 0 ≤ q.1 ∧ q.1 + szMs (l.take k) ≤ s - l.length + k ∧ ∀ m ∈ l.take k, (m.Regs.length : Int) ≤ s ∧ (m.Mem.length : Int) ≤ s) (fun q => l.length - q.2.toNat)
  (fun e => e = .inr (-1) ∨ ∃ r, e = .inl r ∧ 0 ≤ r ∧ r + szMs l ≤ s ∧ ∀ m ∈ l, (m.Regs.length : Int) ≤ s ∧ (m.Mem.length : Int) ≤ s) ⟨0, by omega, rfl, by simp only []; omega, by simp [szMs], by simp⟩ (by
  rintro ⟨a, k'⟩ ⟨k, hk, h1, h2, h3, h4⟩
  simp only at h1 h2 h3 h4
  subst h1
  unfold l_szMachineS_L1
  dsimp only
  by_cases hlt : k < l.length
  ·rw [if_pos (by rw [ilt_iff]; unfold ilen; omega), idx_at (List.getElem?_eq_getElem hlt), bind_some']
   have hm := hi _ (List.getElem_mem hlt)
   obtain ⟨r, k1, k2, k3⟩ := szMachine_val2 l[k] a hm.1 hm.2 (by omega)
   rw [k1, bind_some']
   by_cases hr : r < 0
   ·rw [if_pos (by rw [ilt_iff]; exact hr)]
    exact .inr ⟨_, rfl, .inl rfl⟩
   ·rw [if_neg (by rw [ilt_iff]; exact hr)]
    have hsk := zt k hlt
    have := k3 (by omega)
    refine .inl ⟨_, rfl, ⟨k + 1, by omega, by rw [iadd_eq _ _ (by omega)]; rfl, by simp only []; omega, by simp only []; omega, ?_⟩, ?_⟩
    ·intro b hb
     rw [List.take_add_one, List.getElem?_eq_getElem hlt] at hb
     rcases List.mem_append.1 hb with hb | hb
     ·exact h4 b hb
     ·simp at hb; subst hb; omega
    ·simp only [iadd_eq (k : Int) 1 (by omega)]; omega
  ·rw [if_neg (by rw [ilt_iff]; unfold ilen; omega)]
   have : k = l.length := by omega
   subst this
   rw [List.take_length] at h3 h4
   exact .inr ⟨_, rfl, .inr ⟨_, rfl, h2, by omega, h4⟩⟩)
 rw [he]
 rcases hd with rfl | ⟨r, rfl, h1, h2, h3⟩
 ·exact ⟨-1, rfl, by omega, by omega⟩
 ·exact ⟨r, rfl, by omega, fun _ => ⟨by omega, by omega, h3⟩⟩
end Go.Abs
