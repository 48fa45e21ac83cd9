/- Lists of machines: marked and held. -/
import Derived.Test.YtlcilhmkbmgkeaaGreatDoorNBoxZ
set_option linter.unusedSimpArgs false
set_option linter.unusedVariables false
set_option maxHeartbeats 8000000
namespace Go.Abs
open Go

def markMs : Int → List gMachine → List gMachine
 | _, [] => []
 | s, m :: l => ⟨mkN s m.Regs.length, s + m.Regs.length, mkN (s + m.Regs.length + 1) m.Mem.length⟩ :: markMs (s + m.Regs.length + 1 + m.Mem.length) l
theorem markMs_snoc (a : List gMachine) (b : gMachine) (s : Int) : markMs s (a ++ [b]) = markMs s a ++ [⟨mkN (s + szMs a) b.Regs.length, s + szMs a + b.Regs.length, mkN (s + szMs a + b.Regs.length + 1) b.Mem.length⟩] := by
 induction a generalizing s with
 | nil => simp [markMs, szMs]
 | cons c a ih =>
  simp only [List.cons_append, markMs, ih, szMs, List.map_cons, List.sum_cons]
  have e : s + (c.Regs.length : Int) + 1 + (c.Mem.length : Int) + ((a.map fun b => 1 + b.Regs.length + b.Mem.length).sum : Nat) = s + ((1 + c.Regs.length + c.Mem.length + (a.map fun b => 1 + b.Regs.length + b.Mem.length).sum : Nat) : Int) := by omega
  rw [e]
@[simp] theorem markMs_len (s : Int) (l : List gMachine) : (markMs s l).length = l.length := by
 induction l generalizing s with
 | nil => rfl
 | cons b l ih => simp [markMs, ih]
theorem markMs_take (s : Int) (l : List gMachine) (k : Nat) (hk : k < l.length) : markMs s (l.take (k + 1)) = markMs s (l.take k) ++ [⟨mkN (s + szMs (l.take k)) l[k].Regs.length, s + szMs (l.take k) + l[k].Regs.length, mkN (s + szMs (l.take k) + l[k].Regs.length + 1) l[k].Mem.length⟩] := by
 rw [List.take_add_one, List.getElem?_eq_getElem hk]; exact markMs_snoc _ _ _
theorem markMs_append (s : Int) (a b : List gMachine) : ∃ t, markMs s (a ++ b) = markMs s a ++ t := by
 induction a generalizing s with
 | nil => exact ⟨_, rfl⟩
 | cons c a ih => obtain ⟨t, ht⟩ := ih (s + c.Regs.length + 1 + c.Mem.length); exact ⟨t, by simp only [List.cons_append, markMs, ht]⟩
theorem markMs_get (s : Int) (l : List gMachine) (k : Nat) (hk : k < l.length) : (markMs s l)[k]? = some ⟨mkN (s + szMs (l.take k)) l[k].Regs.length, s + szMs (l.take k) + l[k].Regs.length, mkN (s + szMs (l.take k) + l[k].Regs.length + 1) l[k].Mem.length⟩ := by
 obtain ⟨t, ht⟩ := markMs_append s (l.take (k + 1)) (l.drop (k + 1))
 rw [List.take_append_drop, markMs_take s l k hk] at ht
 rw [ht, List.append_assoc, List.getElem?_append_right (by simp; omega)]
 simp [show min k l.length = k by omega]
theorem markMachineS_val (l : List gMachine) (s : Int) (hl : l.length ≤ 4000000) (hi : ∀ m ∈ l, m.Regs.length ≤ 4000000 ∧ m.Mem.length ≤ 4000000) (hs : 0 ≤ s ∧ s + szMs l ≤ 100000000000) : l_markMachineS l s = some (s + (szMs l : Int), markMs s l) := by
 unfold l_markMachineS
 have := up_loop (step := l_markMachineS_L1) (s0 := (s, (0 : Int), l)) l.length (fun k => (s + (szMs (l.take k) : Int), (k : Int), markMs s (l.take k) ++ l.drop k)) (s + (szMs l : Int), markMs s l) (by simp [markMs, szMs]) (fun k hk => ?_) ?_
 ·rw [this]; rfl
 ·unfold l_markMachineS_L1
  dsimp only
  have hc : l.drop k = l[k] :: l.drop (k + 1) := List.drop_eq_getElem_cons hk
  have hlen : (markMs s (l.take k) ++ l.drop k).length = l.length := by simp; omega
  have hml : (markMs s (l.take k)).length = k := by simp; omega
  have hle := szMs_le l (k + 1)
  have hsk := szMs_take l k hk
  have hit := hi l[k] (List.getElem_mem hk)
  rw [if_pos (by rw [ilt_iff]; unfold ilen; rw [hlen]; omega), hc]
  have e1 : iadd .i64 (s + (szMs (l.take k) : Int) + l[k].Regs.length) 1 = s + szMs (l.take k) + l[k].Regs.length + 1 := iadd_eq _ _ (by omega)
  have e6 : iadd .i64 (k : Int) 1 = ((k + 1 : Nat) : Int) := by rw [iadd_eq _ _ (by omega)]; rfl
  simp only [idx_cat _ _ _ k hml, setx_cat _ _ _ _ k hml, bind_some', e1, e6, markIntS_val l[k].Regs _ hit.1 (show 0 ≤ s + (szMs (l.take k) : Int) ∧ s + (szMs (l.take k) : Int) ≤ 1000000000000 by omega),
   markIntS_val l[k].Mem _ hit.2 (show 0 ≤ s + (szMs (l.take k) : Int) + l[k].Regs.length + 1 ∧ s + (szMs (l.take k) : Int) + l[k].Regs.length + 1 ≤ 1000000000000 by omega)]
  rw [markMs_take s l k hk, hsk, List.append_assoc]
  simp only [List.singleton_append, Option.some.injEq, Flow.next.injEq, Prod.mk.injEq, and_true]
  omega
 ·unfold l_markMachineS_L1
  dsimp only
  rw [List.drop_length, List.append_nil, List.take_length, if_neg (by rw [ilt_iff]; unfold ilen; rw [markMs_len]; omega)]
theorem heldMachineS_val (l : List gMachine) (s : Int) (hl : l.length ≤ 4000000) (hi : ∀ m ∈ l, m.Regs.length ≤ 4000000 ∧ m.Mem.length ≤ 4000000) (hs : 0 ≤ s ∧ s + szMs l ≤ 100000000000) : l_heldMachineS (markMs s l) s = some (s + (szMs l : Int)) := by
 unfold l_heldMachineS
 have := up_loop (step := l_heldMachineS_L1 (markMs s l)) (s0 := (s, (0 : Int))) l.length (fun k => (s + (szMs (l.take k) : Int), (k : Int))) (.inl (s + (szMs l : Int))) (by simp [szMs]) (fun k hk => ?_) ?_
 ·rw [this]; rfl
 ·unfold l_heldMachineS_L1
  dsimp only
  have hle := szMs_le l (k + 1)
  have hsk := szMs_take l k hk
  have hit := hi l[k] (List.getElem_mem hk)
  rw [if_pos (by rw [ilt_iff]; unfold ilen; rw [markMs_len]; omega), idx_at (markMs_get s l k hk)]
  have e1 : iadd .i64 (s + (szMs (l.take k) : Int) + l[k].Regs.length) 1 = s + szMs (l.take k) + l[k].Regs.length + 1 := iadd_eq _ _ (by omega)
  have e6 : iadd .i64 (k : Int) 1 = ((k + 1 : Nat) : Int) := by rw [iadd_eq _ _ (by omega)]; rfl
  have z1 : ilt (s + (szMs (l.take k) : Int) + l[k].Regs.length) 0 = false := by rw [Bool.eq_false_iff, ne_eq, ilt_iff]; omega
  have z2 : ilt (s + (szMs (l.take k) : Int) + l[k].Regs.length + 1 + l[k].Mem.length) 0 = false := by rw [Bool.eq_false_iff, ne_eq, ilt_iff]; omega
  have z3 : ∀ a : Int, ine a a = false := by intro a; simp [ine]
  simp only [bind_some', heldIntS_val _ _ hit.1 (show 0 ≤ s + (szMs (l.take k) : Int) ∧ s + (szMs (l.take k) : Int) ≤ 1000000000000 by omega), z1, z3, e1, e6, Bool.false_eq_true, if_false,
   heldIntS_val _ _ hit.2 (show 0 ≤ s + (szMs (l.take k) : Int) + l[k].Regs.length + 1 ∧ s + (szMs (l.take k) : Int) + l[k].Regs.length + 1 ≤ 1000000000000 by omega), z2]
  rw [hsk]
  simp only [Option.some.injEq, Flow.next.injEq, Prod.mk.injEq, and_true]
  omega
 ·unfold l_heldMachineS_L1
  dsimp only
  rw [List.take_length, if_neg (by rw [ilt_iff]; unfold ilen; rw [markMs_len]; omega)]

end Go.Abs
