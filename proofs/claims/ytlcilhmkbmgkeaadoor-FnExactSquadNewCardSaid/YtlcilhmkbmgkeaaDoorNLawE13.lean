/- laws.FnExactSquadNew's mirror: true for each rooms and codes. -/
import Derived.Test.YtlcilhmkbmgkeaaDoorNIns
set_option linter.unusedSimpArgs false
set_option linter.unusedVariables false
set_option maxHeartbeats 8000000
namespace Go.Abs
open Go

/-! lists of machines -/
theorem eqMachineS_refl (l : List gMachine) (hl : l.length ≤ 2000000) (hi : ∀ m ∈ l, m.Regs.length ≤ 2000000 ∧ m.Mem.length ≤ 2000000) : l_eqMachineS l l = some true := by
  unfold l_eqMachineS
  rw [if_neg (by simp [ine])]
  have := up_loop (step := l_eqMachineS_L1 l l) (s0 := (0 : Int)) l.length (fun k => (k : Int)) (.inl ()) rfl (fun k hk => ?_) ?_
  · rw [this]; rfl
  · unfold l_eqMachineS_L1
    dsimp only
    have h := hi _ (List.getElem_mem hk)
    rw [if_pos (by rw [ilt_iff]; unfold ilen; omega), idx_at (List.getElem?_eq_getElem hk)]
    simp only [bind_some', eqMachine_refl _ h.1 h.2]
    rw [show bnot true = false from rfl, if_neg (by decide), iadd_eq _ _ (by omega)]
    rfl
  · unfold l_eqMachineS_L1
    dsimp only
    rw [if_neg (by rw [ilt_iff]; unfold ilen; omega)]
def szMs (l : List gMachine) : Nat := (l.map fun m => 1 + m.Regs.length + m.Mem.length).sum
theorem szMs_app (a b : List gMachine) : szMs (a ++ b) = szMs a + szMs b := by simp only [szMs, List.map_append, List.sum_append]
theorem szMs_take (l : List gMachine) (k : Nat) (hk : k < l.length) : szMs (l.take (k + 1)) = szMs (l.take k) + (1 + l[k].Regs.length + l[k].Mem.length) := by
  rw [List.take_add_one, List.getElem?_eq_getElem hk, szMs_app]; simp [szMs]
theorem szMs_le (l : List gMachine) (k : Nat) : szMs (l.take k) ≤ szMs l := by
  have h := szMs_app (l.take k) (l.drop k)
  rw [List.take_append_drop] at h
  omega
def markMs : Int → List gMachine → List gMachine
  | _, [] => []
  | s, m :: l => ⟨mkN s m.Regs.length, s + m.Regs.length, mkN (s + m.Regs.length + 1) m.Mem.length⟩ :: markMs (s + m.Regs.length + 1 + m.Mem.length) l
theorem markMs_snoc (a : List gMachine) (b : gMachine) (s : Int) : markMs s (a ++ [b]) = markMs s a ++ [⟨mkN (s + szMs a) b.Regs.length, s + szMs a + b.Regs.length, mkN (s + szMs a + b.Regs.length + 1) b.Mem.length⟩] := by
  induction a generalizing s with
  | nil => simp [markMs, szMs]
  | cons c a ih =>
    simp only [List.cons_append, markMs, ih, szMs, List.map_cons, List.sum_cons]
    have e : s + (c.Regs.length : Int) + 1 + (c.Mem.length : Int) + ((a.map fun b => 1 + b.Regs.length + b.Mem.length).sum : Nat) = s + ((1 + c.Regs.length + c.Mem.length + (a.map fun b => 1 + b.Regs.length + b.Mem.length).sum : Nat) : Int) := by omega
    rw [e]
@[simp] theorem markMs_len (s : Int) (l : List gMachine) : (markMs s l).length = l.length := by
  induction l generalizing s with
  | nil => rfl
  | cons b l ih => simp [markMs, ih]
theorem markMs_take (s : Int) (l : List gMachine) (k : Nat) (hk : k < l.length) : markMs s (l.take (k + 1)) = markMs s (l.take k) ++ [⟨mkN (s + szMs (l.take k)) l[k].Regs.length, s + szMs (l.take k) + l[k].Regs.length, mkN (s + szMs (l.take k) + l[k].Regs.length + 1) l[k].Mem.length⟩] := by
  rw [List.take_add_one, List.getElem?_eq_getElem hk]; exact markMs_snoc _ _ _
theorem markMs_append (s : Int) (a b : List gMachine) : ∃ t, markMs s (a ++ b) = markMs s a ++ t := by
  induction a generalizing s with
  | nil => exact ⟨_, rfl⟩
  | cons c a ih => obtain ⟨t, ht⟩ := ih (s + c.Regs.length + 1 + c.Mem.length); exact ⟨t, by simp only [List.cons_append, markMs, ht]⟩
theorem markMs_get (s : Int) (l : List gMachine) (k : Nat) (hk : k < l.length) : (markMs s l)[k]? = some ⟨mkN (s + szMs (l.take k)) l[k].Regs.length, s + szMs (l.take k) + l[k].Regs.length, mkN (s + szMs (l.take k) + l[k].Regs.length + 1) l[k].Mem.length⟩ := by
  obtain ⟨t, ht⟩ := markMs_append s (l.take (k + 1)) (l.drop (k + 1))
  rw [List.take_append_drop, markMs_take s l k hk] at ht
  rw [ht, List.append_assoc, List.getElem?_append_right (by simp; omega)]
  simp [show min k l.length = k by omega]
theorem markMachineS_val (l : List gMachine) (s : Int) (hl : l.length ≤ 2000000) (hi : ∀ m ∈ l, m.Regs.length ≤ 2000000 ∧ m.Mem.length ≤ 2000000) (hs : 0 ≤ s ∧ s + szMs l ≤ 100000000000) : l_markMachineS l s = some (s + (szMs l : Int), markMs s l) := by
  unfold l_markMachineS
  have := up_loop (step := l_markMachineS_L1) (s0 := (s, (0 : Int), l)) l.length (fun k => (s + (szMs (l.take k) : Int), (k : Int), markMs s (l.take k) ++ l.drop k)) (s + (szMs l : Int), markMs s l) (by simp [markMs, szMs]) (fun k hk => ?_) ?_
  · rw [this]; rfl
  · unfold l_markMachineS_L1
    dsimp only
    have hc : l.drop k = l[k] :: l.drop (k + 1) := List.drop_eq_getElem_cons hk
    have hlen : (markMs s (l.take k) ++ l.drop k).length = l.length := by simp; omega
    have hml : (markMs s (l.take k)).length = k := by simp; omega
    have hle := szMs_le l (k + 1)
    have hsk := szMs_take l k hk
    have hit := hi l[k] (List.getElem_mem hk)
    rw [if_pos (by rw [ilt_iff]; unfold ilen; rw [hlen]; omega), hc]
    have e1 : iadd .i64 (s + (szMs (l.take k) : Int) + l[k].Regs.length) 1 = s + szMs (l.take k) + l[k].Regs.length + 1 := iadd_eq _ _ (by omega)
    have e6 : iadd .i64 (k : Int) 1 = ((k + 1 : Nat) : Int) := by rw [iadd_eq _ _ (by omega)]; rfl
    simp only [idx_cat _ _ _ k hml, setx_cat _ _ _ _ k hml, bind_some', e1, e6, markIntS_val l[k].Regs _ hit.1 (show 0 ≤ s + (szMs (l.take k) : Int) ∧ s + (szMs (l.take k) : Int) ≤ 1000000000000 by omega),
      markIntS_val l[k].Mem _ hit.2 (show 0 ≤ s + (szMs (l.take k) : Int) + l[k].Regs.length + 1 ∧ s + (szMs (l.take k) : Int) + l[k].Regs.length + 1 ≤ 1000000000000 by omega)]
    rw [markMs_take s l k hk, hsk, List.append_assoc]
    simp only [List.singleton_append, Option.some.injEq, Flow.next.injEq, Prod.mk.injEq, and_true]
    omega
  · unfold l_markMachineS_L1
    dsimp only
    rw [List.drop_length, List.append_nil, List.take_length, if_neg (by rw [ilt_iff]; unfold ilen; rw [markMs_len]; omega)]
theorem heldMachineS_val (l : List gMachine) (s : Int) (hl : l.length ≤ 2000000) (hi : ∀ m ∈ l, m.Regs.length ≤ 2000000 ∧ m.Mem.length ≤ 2000000) (hs : 0 ≤ s ∧ s + szMs l ≤ 100000000000) : l_heldMachineS (markMs s l) s = some (s + (szMs l : Int)) := by
  unfold l_heldMachineS
  have := up_loop (step := l_heldMachineS_L1 (markMs s l)) (s0 := (s, (0 : Int))) l.length (fun k => (s + (szMs (l.take k) : Int), (k : Int))) (.inl (s + (szMs l : Int))) (by simp [szMs]) (fun k hk => ?_) ?_
  · rw [this]; rfl
  · unfold l_heldMachineS_L1
    dsimp only
    have hle := szMs_le l (k + 1)
    have hsk := szMs_take l k hk
    have hit := hi l[k] (List.getElem_mem hk)
    rw [if_pos (by rw [ilt_iff]; unfold ilen; rw [markMs_len]; omega), idx_at (markMs_get s l k hk)]
    have e1 : iadd .i64 (s + (szMs (l.take k) : Int) + l[k].Regs.length) 1 = s + szMs (l.take k) + l[k].Regs.length + 1 := iadd_eq _ _ (by omega)
    have e6 : iadd .i64 (k : Int) 1 = ((k + 1 : Nat) : Int) := by rw [iadd_eq _ _ (by omega)]; rfl
    have z1 : ilt (s + (szMs (l.take k) : Int) + l[k].Regs.length) 0 = false := by rw [Bool.eq_false_iff, ne_eq, ilt_iff]; omega
    have z2 : ilt (s + (szMs (l.take k) : Int) + l[k].Regs.length + 1 + l[k].Mem.length) 0 = false := by rw [Bool.eq_false_iff, ne_eq, ilt_iff]; omega
    have z3 : ∀ a : Int, ine a a = false := by intro a; simp [ine]
    simp only [bind_some', heldIntS_val _ _ hit.1 (show 0 ≤ s + (szMs (l.take k) : Int) ∧ s + (szMs (l.take k) : Int) ≤ 1000000000000 by omega), z1, z3, e1, e6, Bool.false_eq_true, if_false,
      heldIntS_val _ _ hit.2 (show 0 ≤ s + (szMs (l.take k) : Int) + l[k].Regs.length + 1 ∧ s + (szMs (l.take k) : Int) + l[k].Regs.length + 1 ≤ 1000000000000 by omega), z2]
    rw [hsk]
    simp only [Option.some.injEq, Flow.next.injEq, Prod.mk.injEq, and_true]
    omega
  · unfold l_heldMachineS_L1
    dsimp only
    rw [List.take_length, if_neg (by rw [ilt_iff]; unfold ilen; rw [markMs_len]; omega)]

/-! lists of codes -/
def szI (l : List (List gInstr)) : Nat := (l.map List.length).sum
theorem szI_app (a b : List (List gInstr)) : szI (a ++ b) = szI a + szI b := by simp only [szI, List.map_append, List.sum_append]
theorem szI_take (l : List (List gInstr)) (k : Nat) (hk : k < l.length) : szI (l.take (k + 1)) = szI (l.take k) + l[k].length := by
  rw [List.take_add_one, List.getElem?_eq_getElem hk, szI_app]; simp [szI]
theorem szI_le (l : List (List gInstr)) (k : Nat) : szI (l.take k) ≤ szI l := by
  have h := szI_app (l.take k) (l.drop k)
  rw [List.take_append_drop] at h
  omega
theorem szInstrSS_val (l : List (List gInstr)) (s : Int) (hl : l.length ≤ maxLen) (hi : ∀ m ∈ l, m.length ≤ maxLen) (hs : 0 ≤ s ∧ s ≤ 1048576) :
    ∃ r, l_szInstrSS l s = some r ∧ (0 ≤ r → (l.length : Int) ≤ s ∧ (szI l : Int) ≤ s) := by
  have zt := szI_take l
  unfold l_szInstrSS
  have e : isub .i64 s (ilen l) = s - l.length := by rw [isub_eq _ _ (by unfold ilen; unfold maxLen at hl; omega)]; rfl
  rw [e]
  by_cases h : s < l.length
  · rw [if_pos (by rw [ilt_iff]; omega)]; exact ⟨_, rfl, by omega⟩
  rw [if_neg (by rw [ilt_iff]; omega)]
  obtain ⟨e, he, hd⟩ := loopM_rule (step := l_szInstrSS_L1 l) (s := (s - (l.length : Int), (0 : Int))) (fun q => ∃ k : Nat, k ≤ l.length ∧ q.2 = (k : Int) ∧ 0 ≤ q.1 ∧ q.1 + szI (l.take k) = s - l.length) (fun q => l.length - q.2.toNat)
    (fun e => e = .inr (-1) ∨ ∃ r, e = .inl r ∧ 0 ≤ r ∧ r + szI l ≤ s) ⟨0, by omega, rfl, by simp only []; omega, by simp [szI]⟩ (by
    rintro ⟨a, k'⟩ ⟨k, hk, h1, h2, h3⟩
    simp only at h1 h2 h3
    subst h1
    unfold l_szInstrSS_L1
    dsimp only
    by_cases hlt : k < l.length
    · rw [if_pos (by rw [ilt_iff]; unfold ilen; omega), idx_at (List.getElem?_eq_getElem hlt), bind_some', szInstrS_val _ _ (hi _ (List.getElem_mem hlt)) (by omega), bind_some']
      have hsk := zt k hlt
      by_cases hr : a < l[k].length
      · rw [if_pos hr, if_pos (by rfl)]
        exact .inr ⟨_, rfl, .inl rfl⟩
      · rw [if_neg hr, if_neg (by rw [ilt_iff]; omega)]
        refine .inl ⟨_, rfl, ⟨k + 1, by omega, by rw [iadd_eq _ _ (by omega)]; rfl, by simp only []; omega, by simp only []; omega⟩, ?_⟩
        simp only [iadd_eq (k : Int) 1 (by omega)]; omega
    · rw [if_neg (by rw [ilt_iff]; unfold ilen; omega)]
      have : k = l.length := by omega
      subst this
      rw [List.take_length] at h3
      exact .inr ⟨_, rfl, .inr ⟨_, rfl, h2, by omega⟩⟩)
  rw [he]
  rcases hd with rfl | ⟨r, rfl, h1, h2⟩
  · exact ⟨-1, rfl, by omega⟩
  · exact ⟨r, rfl, fun _ => ⟨by omega, by omega⟩⟩
theorem toInstrSS_id (l : List (List gInstr)) (hl : l.length ≤ 2000000) (hi : ∀ m ∈ l, m.length ≤ 2000000) : l_toInstrSS l = some l := by
  unfold l_toInstrSS
  have hm : makex 24 (ilen l) ([] : List gInstr) = some (List.replicate l.length []) := by
    unfold makex ilen
    rw [if_pos (by simp; unfold maxLen; omega)]
    simp
  rw [hm, bind_some']
  have := up_loop (step := l_toInstrSS_L1 l) (s0 := ((0 : Int), List.replicate l.length ([] : List gInstr))) l.length (fun k => ((k : Int), l.take k ++ List.replicate (l.length - k) [])) l (by simp) (fun k hk => ?_) ?_
  · rw [this]; rfl
  · unfold l_toInstrSS_L1
    dsimp only
    have hr : List.replicate (l.length - k) ([] : List gInstr) = [] :: List.replicate (l.length - (k + 1)) [] := by
      rw [show l.length - k = (l.length - (k + 1)) + 1 by omega, List.replicate_succ]
    have ht : (l.take k).length = k := by simp; omega
    rw [if_pos (by rw [ilt_iff]; unfold ilen; omega), idx_at (List.getElem?_eq_getElem hk), hr]
    simp only [bind_some', toInstrS_id _ (hi _ (List.getElem_mem hk)), idx_cat _ _ _ k ht, setx_cat _ _ _ _ k ht]
    rw [iadd_eq _ _ (by omega), List.take_add_one, List.getElem?_eq_getElem hk]
    simp only [Option.toList_some, List.append_assoc, List.singleton_append]
    rfl
  · unfold l_toInstrSS_L1
    dsimp only
    rw [if_neg (by rw [ilt_iff]; unfold ilen; omega)]
    simp
theorem toInstrSS_o2_eq : l_toInstrSS_o2 = l_toInstrSS := rfl
theorem eqInstrSS_refl (l : List (List gInstr)) (hl : l.length ≤ 2000000) (hi : ∀ m ∈ l, m.length ≤ 2000000) : l_eqInstrSS l l = some true := by
  unfold l_eqInstrSS
  rw [if_neg (by simp [ine])]
  have := up_loop (step := l_eqInstrSS_L1 l l) (s0 := (0 : Int)) l.length (fun k => (k : Int)) (.inl ()) rfl (fun k hk => ?_) ?_
  · rw [this]; rfl
  · unfold l_eqInstrSS_L1
    dsimp only
    rw [if_pos (by rw [ilt_iff]; unfold ilen; omega), idx_at (List.getElem?_eq_getElem hk)]
    simp only [bind_some', eqInstrS_refl _ (hi _ (List.getElem_mem hk))]
    rw [show bnot true = false from rfl, if_neg (by decide), iadd_eq _ _ (by omega)]
    rfl
  · unfold l_eqInstrSS_L1
    dsimp only
    rw [if_neg (by rw [ilt_iff]; unfold ilen; omega)]
theorem markInstrSS_ex (l : List (List gInstr)) (s : Int) (hl : l.length ≤ 2000000) (hi : ∀ m ∈ l, m.length ≤ 2000000) (hs : 0 ≤ s ∧ s ≤ 10000000) (hz : szI l ≤ 10000000) : ∃ n q, l_markInstrSS l s = some (n, q) ∧ n = s + 5 * (szI l : Int) := by
  have zt := szI_take l
  have zl := szI_le l
  unfold l_markInstrSS
  obtain ⟨e, he, hd⟩ := loopM_rule (step := l_markInstrSS_L1) (s := (s, (0 : Int), l)) (fun q => ∃ k : Nat, k ≤ l.length ∧ q.2.1 = (k : Int) ∧ q.1 = s + 5 * (szI (l.take k) : Int) ∧ ∃ p, p.length = k ∧ q.2.2 = p ++ l.drop k) (fun q => l.length - q.2.1.toNat)
    (fun e => e.1 = s + 5 * (szI l : Int)) ⟨0, by omega, rfl, by simp [szI], [], rfl, rfl⟩ (by
    rintro ⟨a, k', q⟩ ⟨k, hk, h1, h2, p, hp1, hp2⟩
    simp only at h1 h2 hp2
    subst h1 h2 hp2
    unfold l_markInstrSS_L1
    dsimp only
    have hlen : (p ++ l.drop k).length = l.length := by simp; omega
    by_cases hlt : k < l.length
    · have hc : l.drop k = l[k] :: l.drop (k + 1) := List.drop_eq_getElem_cons hlt
      have h := hi _ (List.getElem_mem hlt)
      have hle := zl (k + 1)
      have hsk := zt k hlt
      rw [if_pos (by rw [ilt_iff]; unfold ilen; rw [hlen]; omega), hc]
      have e6 : iadd .i64 (k : Int) 1 = ((k + 1 : Nat) : Int) := by rw [iadd_eq _ _ (by omega)]; rfl
      obtain ⟨w, hw, _⟩ := markInstrS_ex l[k] (s + 5 * (szI (l.take k) : Int)) h (by omega)
      simp only [idx_cat _ _ _ k hp1, bind_some', hw, setx_cat _ _ _ _ k hp1, e6]
      refine .inl ⟨_, rfl, ⟨k + 1, by omega, rfl, ?_, ?_⟩, ?_⟩
      · simp only []; rw [hsk]; omega
      · exact ⟨p ++ [_], by simp [hp1], by rw [List.append_assoc]; rfl⟩
      · simp only []; omega
    · rw [if_neg (by rw [ilt_iff]; unfold ilen; rw [hlen]; omega)]
      have : k = l.length := by omega
      subst this
      exact .inr ⟨_, rfl, by simp⟩)
  obtain ⟨n, l'⟩ := e
  simp only at hd
  rw [he]
  exact ⟨n, l', rfl, hd⟩

/-! a new squad -/
theorem boxesNew_eq : i_boxesNew = s_l16Empty := rfl
theorem squadNew_o6_eq : i_SquadNew_o6 = i_SquadNew := rfl
def roomB (x : Int) : Bool := decide (1 ≤ x) && decide (x ≤ 4)
theorem rooms_s (l : List Int) (hl : l.length ≤ 2000000) : s_l12Rooms l = some (l.all roomB && decide (l.length ≤ 3)) := by
  unfold s_l12Rooms
  have := all_loop (step := s_l12Rooms_L1 l) l roomB (.inl ()) (.inr false) (fun k hk => ?_) ?_
  · rw [this]; cases l.all roomB
    · rfl
    · show some (ile (ilen l) 3) = some (true && decide (l.length ≤ 3))
      congr 1; rw [Bool.eq_iff_iff, ile_iff]; simp [ilen]; omega
  · unfold s_l12Rooms_L1
    dsimp only
    rw [if_pos (by rw [ilt_iff]; unfold ilen; omega), idx_at (List.getElem?_eq_getElem hk)]
    simp only [bind_some', in6]
    rw [iadd_eq _ _ (by omega), show (ige l[k] 1 && ile l[k] 4) = roomB l[k] from rfl]
    cases roomB l[k] <;> rfl
  · unfold s_l12Rooms_L1
    dsimp only
    rw [if_neg (by rw [ilt_iff]; unfold ilen; omega)]
theorem rooms_i (l : List Int) (hl : l.length ≤ 2000000) : i_roomsValid l = some (l.all roomB && decide (l.length ≤ 3)) := by
  unfold i_roomsValid
  have := all_loop (step := i_roomsValid_L1 l) l roomB (.inl ()) (.inr false) (fun k hk => ?_) ?_
  · rw [this]; cases l.all roomB
    · rfl
    · show some (ile (ilen l) 3) = some (true && decide (l.length ≤ 3))
      congr 1; rw [Bool.eq_iff_iff, ile_iff]; simp [ilen]; omega
  · unfold i_roomsValid_L1
    dsimp only
    rw [if_pos (by rw [ilt_iff]; unfold ilen; omega), idx_at (List.getElem?_eq_getElem hk)]
    simp only [bind_some', if_or]
    rw [iadd_eq _ _ (by omega)]
    have e : (ilt l[k] 1 || igt l[k] 4) = !roomB l[k] := by
      rw [Bool.eq_iff_iff]; simp [roomB, ilt, igt]
    rw [e]
    cases roomB l[k] <;> rfl
  · unfold i_roomsValid_L1
    dsimp only
    rw [if_neg (by rw [ilt_iff]; unfold ilen; omega)]
theorem empty_val (l : List Int) (hl : l.length ≤ 2000000) : s_l16Empty l = some (l.map fun v => ⟨v, []⟩) := by
  unfold s_l16Empty
  have := up_loop (step := s_l16Empty_L1 l) (s0 := ((0 : Int), ([] : List gBox))) l.length (fun k => ((k : Int), (l.take k).map fun v => ⟨v, []⟩)) (l.map fun v => (⟨v, []⟩ : gBox)) (by simp) (fun k hk => ?_) ?_
  · rw [this]; rfl
  · unfold s_l16Empty_L1
    dsimp only
    rw [if_pos (by rw [ilt_iff]; unfold ilen; omega), idx_at (List.getElem?_eq_getElem hk)]
    simp only [bind_some']
    rw [appx_ok 32 _ _ (by unfold maxLen; simp only [List.length_map, List.length_take, List.length_cons, List.length_nil]; omega), bind_some', iadd_eq _ _ (by omega), List.take_add_one, List.getElem?_eq_getElem hk, List.map_append]
    rfl
  · unfold s_l16Empty_L1
    dsimp only
    rw [if_neg (by rw [ilt_iff]; unfold ilen; omega), List.take_length]
theorem step_eq (c : List (List gInstr)) (hc : ∀ x ∈ c, x.length ≤ 1048576) : i_SquadNew_L1 c = s_SquadNew_L1 c := by
  funext s
  obtain ⟨k, a, b⟩ := s
  unfold i_SquadNew_L1 s_SquadNew_L1
  dsimp only
  cases hx : idx c k with
  | none => rfl
  | some x =>
    have hm : x ∈ c := by
      unfold idx at hx
      split at hx
      · exact List.mem_of_getElem? hx
      · cases hx
    obtain ⟨r, h1, h2, _⟩ := hartNew_eq x (hc x hm)
    simp only [bind_some', h1, h2]

structure NewSq (q : gSquad) : Prop where
  hl : q.Harts.length ≤ 3
  hi : ∀ m ∈ q.Harts, m.Regs.length ≤ 32 ∧ m.Mem.length ≤ 10000
  bl : q.Boxes.length ≤ 3
  bi : ∀ b ∈ q.Boxes, b.Items.length ≤ 0
  out : q.Out.length ≤ 0
theorem NewSq.nil : NewSq ⟨[], [], 0, 0, []⟩ := ⟨by simp, by simp, by simp, by simp, by simp⟩

theorem squadNew_eq (l : List Int) (c : List (List gInstr)) (hl : l.length ≤ 1048576) (hcl : c.length ≤ 1048576) (hc : ∀ x ∈ c, x.length ≤ 1048576) : ∃ r, i_SquadNew l c = some r ∧ s_SquadNew l c = some r ∧ NewSq r.1 := by
  unfold i_SquadNew s_SquadNew
  rw [rooms_s l (by omega), rooms_i l (by omega), boxesNew_eq, step_eq c hc]
  simp only [bind_some', in6, if_or]
  have e1 : (bnot (l.all roomB && decide (l.length ≤ 3)) || ilt (ilen c) 1 || igt (ilen c) 3) = (bnot (l.all roomB && decide (l.length ≤ 3)) || bnot (ige (ilen c) 1 && ile (ilen c) 3)) := by
    rw [Bool.or_assoc]; congr 1
    rw [Bool.eq_iff_iff]; simp [bnot, ilt, igt, ige, ile]
  rw [e1]
  by_cases hg : (bnot (l.all roomB && decide (l.length ≤ 3)) || bnot (ige (ilen c) 1 && ile (ilen c) 3)) = true
  · rw [if_pos hg]; exact ⟨_, rfl, rfl, NewSq.nil⟩
  · rw [if_neg hg, empty_val l (by omega)]
    simp only [bind_some']
    rw [Bool.or_eq_true, not_or] at hg
    obtain ⟨g1, g2⟩ := hg
    have hl3 : l.length ≤ 3 := by
      simp only [bnot, Bool.not_eq_true', Bool.not_eq_false, Bool.and_eq_true, decide_eq_true_eq] at g1; exact g1.2
    have hc3 : c.length ≤ 3 := by
      simp only [bnot, ige, ile, Bool.not_eq_true', Bool.not_eq_false, Bool.and_eq_true, decide_eq_true_eq] at g2; have := g2.2; unfold ilen at this; omega
    obtain ⟨e, he, hd⟩ := loopM_rule (step := s_SquadNew_L1 c) (s := ((0 : Int), (⟨([] : List gMachine), ([] : List gBox), 0, 0, ([] : List Int)⟩ : gSquad), (⟨([] : List gMachine), l.map fun v => ⟨v, []⟩, 0, 0, ([] : List Int)⟩ : gSquad)))
      (fun q => ∃ k : Nat, k ≤ c.length ∧ q.1 = (k : Int) ∧ q.2.2.Harts.length = k ∧ (∀ m ∈ q.2.2.Harts, m.Regs.length ≤ 32 ∧ m.Mem.length ≤ 10000) ∧ (q.2.2.Boxes = l.map fun v => ⟨v, []⟩) ∧ q.2.2.Out = []) (fun q => c.length - q.1.toNat)
      (fun e => (∃ a b, e = .inl (a, b) ∧ NewSq b) ∨ (∃ r, e = .inr r ∧ NewSq r.1)) ⟨0, by omega, rfl, rfl, by simp, rfl, rfl⟩ (by
      rintro ⟨k', a, b⟩ ⟨k, hk, h1, h2, h3, h4, h5⟩
      simp only at h1 h2 h3 h4 h5
      subst h1
      unfold s_SquadNew_L1
      dsimp only
      by_cases hlt : k < c.length
      · rw [if_pos (by rw [ilt_iff]; unfold ilen; omega), idx_at (List.getElem?_eq_getElem hlt), bind_some']
        obtain ⟨r, g1, g2, g3, g4⟩ := hartNew_eq c[k] (hc _ (List.getElem_mem hlt))
        rw [g2, bind_some']
        cases hr : r.2 with
        | false => rw [if_pos (by rfl)]; exact .inr ⟨_, rfl, .inr ⟨_, rfl, NewSq.nil⟩⟩
        | true =>
          rw [if_neg (by simp [bnot]), appx_ok 56 _ _ (by unfold maxLen; simp; omega), bind_some', iadd_eq _ _ (by omega)]
          refine .inl ⟨_, rfl, ⟨k + 1, by omega, rfl, by simp [h2], ?_, h4, h5⟩, by simp only []; omega⟩
          intro m hm
          rcases List.mem_append.1 hm with hm | hm
          · exact h3 m hm
          · simp at hm; subst hm; exact ⟨g3, g4⟩
      · rw [if_neg (by rw [ilt_iff]; unfold ilen; omega)]
        refine .inr ⟨_, rfl, .inl ⟨_, _, rfl, ?_⟩⟩
        exact ⟨by omega, h3, by rw [h4]; simpa using hl3, by rw [h4]; simp, by rw [h5]; simp⟩)
    rw [he]
    rcases hd with ⟨a, b, rfl, hn⟩ | ⟨r, rfl, hn⟩
    · exact ⟨_, rfl, rfl, hn⟩
    · exact ⟨_, rfl, rfl, hn⟩

theorem fnExactSquadNew_true (l : List Int) (c : List (List gInstr)) (hl : l.length ≤ maxLen) (hcl : c.length ≤ maxLen) (hci : ∀ x ∈ c, x.length ≤ maxLen) : l_FnExactSquadNew l c = some true := by
  unfold l_FnExactSquadNew
  by_cases h0 : (1048576 : Int) < l.length
  · rw [if_pos (by simp [igt, ilen]; omega)]
  rw [if_neg (by simp [igt, ilen]; omega)]
  obtain ⟨z, hz, hz2⟩ := szInstrSS_val c 1048576 hcl hci (by omega)
  rw [hz, bind_some']
  by_cases h1 : z < 0
  · rw [if_pos (by rw [ilt_iff]; exact h1)]
  rw [if_neg (by rw [ilt_iff]; exact h1)]
  obtain ⟨k1, k2⟩ := hz2 (by omega)
  have hci' : ∀ x ∈ c, x.length ≤ 1048576 := by
    intro x hx
    obtain ⟨k, hk, rfl⟩ := List.getElem_of_mem hx
    have := szI_take c k hk
    have := szI_le c (k + 1)
    omega
  have hci2 : ∀ x ∈ c, x.length ≤ 2000000 := fun x hx => by have := hci' x hx; omega
  obtain ⟨r, h2, h3, hn⟩ := squadNew_eq l c (by omega) (by omega) hci'
  have hi2 : ∀ m ∈ r.1.Harts, m.Regs.length ≤ 2000000 ∧ m.Mem.length ≤ 2000000 := fun m hm => by have := hn.hi m hm; omega
  have bi2 : ∀ b ∈ r.1.Boxes, b.Items.length ≤ 2000000 := fun b hb => by have := hn.bi b hb; omega
  have hl3 := hn.hl
  have bl3 := hn.bl
  have ho := hn.out
  have szm : szMs r.1.Harts ≤ 40000 := by
    have : ∀ q : List gMachine, (∀ m ∈ q, m.Regs.length ≤ 32 ∧ m.Mem.length ≤ 10000) → szMs q ≤ 10033 * q.length := by
      intro q
      induction q with
      | nil => intro _; simp [szMs]
      | cons b q ih =>
        intro h
        have h1 := ih fun x hx => h x (by simp [hx])
        have h2 := h b (by simp)
        simp only [szMs, List.map_cons, List.sum_cons, List.length_cons] at h1 ⊢
        omega
    have := this _ hn.hi
    omega
  have szb : szB r.1.Boxes ≤ 10 := by
    have : ∀ q : List gBox, (∀ m ∈ q, m.Items.length ≤ 0) → szB q ≤ q.length := by
      intro q
      induction q with
      | nil => intro _; simp [szB]
      | cons b q ih =>
        intro h
        have h1 := ih fun x hx => h x (by simp [hx])
        have h2 := h b (by simp)
        simp only [szB, List.map_cons, List.sum_cons, List.length_cons] at h1 ⊢
        omega
    have := this _ hn.bi
    omega
  have eqs : l_eqSquad r.1 r.1 = some true := by
    unfold l_eqSquad
    simp only [bind_some', eqMachineS_refl _ (by omega) hi2, eqBoxS_refl _ (by omega) bi2, eqIntS_refl _ (show r.1.Out.length ≤ 2000000 by omega), show bnot true = false from rfl, Bool.false_eq_true, if_false, show ∀ a : Int, ine a a = false from fun a => by simp [ine]]
  have mi := markIntS_val l 1 (by omega) (by omega)
  obtain ⟨n, q, mk1, mk2⟩ := markInstrSS_ex c (1 + (l.length : Int)) (by omega) hci2 (by omega) (by omega)
  have m4 : l_markSquad r.1 1 = some ((1 : Int) + szMs r.1.Harts + szB r.1.Boxes + r.1.Out.length, ⟨markMs 1 r.1.Harts, markB ((1 : Int) + szMs r.1.Harts) r.1.Boxes, r.1.Turn, r.1.Idle, mkN ((1 : Int) + szMs r.1.Harts + szB r.1.Boxes) r.1.Out.length⟩) := by
    unfold l_markSquad
    simp only [bind_some', markMachineS_val _ 1 (by omega) hi2 (by omega), markBoxS_val _ (1 + (szMs r.1.Harts : Int)) (by omega) bi2 (by omega), markIntS_val _ (1 + (szMs r.1.Harts : Int) + szB r.1.Boxes) (show r.1.Out.length ≤ 2000000 by omega) (by omega)]
  have d4 : l_heldSquad ⟨markMs 1 r.1.Harts, markB ((1 : Int) + szMs r.1.Harts) r.1.Boxes, r.1.Turn, r.1.Idle, mkN ((1 : Int) + szMs r.1.Harts + szB r.1.Boxes) r.1.Out.length⟩ 1 = some ((1 : Int) + szMs r.1.Harts + szB r.1.Boxes + r.1.Out.length) := by
    unfold l_heldSquad
    have n1 : ilt (1 + (szMs r.1.Harts : Int)) 0 = false := by rw [Bool.eq_false_iff, ne_eq, ilt_iff]; omega
    have n2 : ilt (1 + (szMs r.1.Harts : Int) + szB r.1.Boxes) 0 = false := by rw [Bool.eq_false_iff, ne_eq, ilt_iff]; omega
    have n3 : ilt (1 + (szMs r.1.Harts : Int) + szB r.1.Boxes + r.1.Out.length) 0 = false := by rw [Bool.eq_false_iff, ne_eq, ilt_iff]; omega
    simp only [bind_some', heldMachineS_val _ 1 (show r.1.Harts.length ≤ 2000000 by omega) hi2 (by omega), heldBoxS_val _ (1 + (szMs r.1.Harts : Int)) (show r.1.Boxes.length ≤ 2000000 by omega) bi2 (by omega), heldIntS_val _ (1 + (szMs r.1.Harts : Int) + szB r.1.Boxes) (show r.1.Out.length ≤ 2000000 by omega) (by omega), n1, n2, n3, Bool.false_eq_true, if_false]
  have n1 : ilt n 0 = false := by rw [Bool.eq_false_iff, ne_eq, ilt_iff]; omega
  have n2 : ilt (1 + (szMs r.1.Harts : Int) + szB r.1.Boxes + r.1.Out.length) 0 = false := by rw [Bool.eq_false_iff, ne_eq, ilt_iff]; omega
  have zz : ∀ a : Int, ine a a = false := by intro a; simp [ine]
  have zb : ∀ a : Bool, bneb a a = false := by intro a; simp [bneb]
  simp only [bind_some', toIntS_o_eq, toInstrSS_o2_eq, squadNew_o6_eq, toIntS_id l (by omega), toInstrSS_id c (by omega) hci2, h2, h3, eqs, eqIntS_refl l (by omega), eqInstrSS_refl c (by omega) hci2, mi, mk1, m4, d4, n1, n2, zz, zb, show bnot true = false from rfl, Bool.false_eq_true, if_false]
end Go.Abs
