/- laws.FnExactSquadOutcome's mirror: true for each squad. -/
import Derived.Test.YtoklfbdcghgmlaaNOutI
set_option linter.unusedSimpArgs false
set_option linter.unusedVariables false
set_option maxHeartbeats 8000000
namespace Go.Abs
open Go

/-- a loop that looks for an element -/
theorem find_loop {α E : Type} {step : Int → Option (Flow Int E)} (l : List α) (W : α → Bool) (e0 : E) (f : Nat → E) (h : ∀ k (hk : k < l.length), step (k : Int) = some (if W l[k] = true then .next ((k + 1 : Nat) : Int) else .done (f k))) (hd : step (l.length : Int) = some (.done e0)) :
    (l.all W = true ∧ loopM step 0 = some e0) ∨ (l.all W = false ∧ ∃ k, loopM step 0 = some (f k)) := by
  have key : ∀ m k, k + m = l.length → ((l.drop k).all W = true ∧ loopM step (k : Int) = some e0) ∨ ((l.drop k).all W = false ∧ ∃ j, loopM step (k : Int) = some (f j)) := by
    intro m
    induction m with
    | zero =>
      intro k hk
      obtain rfl : k = l.length := by omega
      rw [List.drop_length]
      exact .inl ⟨rfl, loopM_done hd⟩
    | succ m ih =>
      intro k hk
      have hlt : k < l.length := by omega
      rw [List.drop_eq_getElem_cons hlt, List.all_cons]
      by_cases hw : W l[k] = true
      · rw [loopM_next (by rw [h k hlt, if_pos hw]), hw, Bool.true_and]
        exact ih (k + 1) (by omega)
      · rw [loopM_done (by rw [h k hlt, if_neg hw])]
        exact .inr ⟨by simp [hw], k, rfl⟩
  have := key l.length 0 (by omega)
  simpa using this

def SmallSq (q : gSquad) : Prop := q.Harts.length ≤ 2000000 ∧ (∀ m ∈ q.Harts, m.Regs.length ≤ 2000000 ∧ m.Mem.length ≤ 2000000) ∧ q.Boxes.length ≤ 2000000 ∧ (∀ b ∈ q.Boxes, b.Items.length ≤ 2000000) ∧ q.Out.length ≤ 2000000
def isSquad (q : gSquad) : Bool := ((((decide (1 ≤ q.Harts.length) && decide (q.Harts.length ≤ 3)) && decide (0 ≤ q.Turn)) && decide (q.Turn < q.Harts.length)) && decide (0 ≤ q.Idle)) && decide (q.Idle ≤ q.Harts.length) && q.Out.all isW && isBoxes q.Boxes && q.Harts.all isMach

theorem i_squadValid_val (q : gSquad) (h : SmallSq q) : i_squadValid q = some (isSquad q) := by
  obtain ⟨h1, h2, h3, h4, h5⟩ := h
  have hc : slices_ContainsFunc_impl_Machine_impl_Machine_i_squadValid_1 q.Harts = some (!q.Harts.all isMach) := by
    unfold slices_ContainsFunc_impl_Machine_impl_Machine_i_squadValid_1 slices_IndexFunc_impl_Machine_impl_Machine_i_squadValid_1
    have hf := find_loop (step := slices_IndexFunc_impl_Machine_impl_Machine_i_squadValid_1_L1 q.Harts) q.Harts isMach (.inl ()) (fun k => .inr (k : Int)) (fun k hk => ?_) ?_
    · rcases hf with ⟨a, b⟩ | ⟨a, k, b⟩
      · rw [a, b]; rfl
      · rw [a, b]
        simp only [bind_some', Option.some.injEq, Bool.not_false]
        rw [ige_iff]; omega
    · unfold slices_IndexFunc_impl_Machine_impl_Machine_i_squadValid_1_L1 i_squadValid_1
      dsimp only
      have hm := h2 _ (List.getElem_mem hk)
      rw [if_pos (by rw [ilt_iff]; unfold ilen; omega), idx_at (List.getElem?_eq_getElem hk)]
      simp only [bind_some', i_MachineValid_val _ hm.1 hm.2]
      rw [iadd_eq _ _ (by omega)]
      cases isMach q.Harts[k] <;> rfl
    · unfold slices_IndexFunc_impl_Machine_impl_Machine_i_squadValid_1_L1
      dsimp only
      rw [if_neg (by rw [ilt_iff]; unfold ilen; omega)]
  unfold i_squadValid i_turnsValid
  rw [hc, i_boxesValid_val _ h3 h4, i_areWords_val _ (by unfold maxLen; omega)]
  simp only [bind_some', if_and, bind_id, bnot, Bool.not_not]
  have e1 : ige (ilen q.Harts) 1 = decide (1 ≤ q.Harts.length) := by rw [Bool.eq_iff_iff, ige_iff]; unfold ilen; simp; omega
  have e2 : ile (ilen q.Harts) 3 = decide (q.Harts.length ≤ 3) := by rw [Bool.eq_iff_iff, ile_iff]; unfold ilen; simp; omega
  rw [e1, e2]
  rfl
theorem or4 : ∀ A B C D : Bool, ¬ (A = true ∧ B = true ∧ C = true ∧ D = true) → (bnot A || bnot B || bnot C || bnot D) = true := by decide
theorem s_l45Valid_val (q : gSquad) (h : SmallSq q) : s_l45Valid q = some (isSquad q) := by
  obtain ⟨h1, h2, h3, h4, h5⟩ := h
  unfold s_l45Valid s_l6In
  rw [s_l15Boxes_val _ h3 h4, s_l4Words_val _ _ (by unfold maxLen; omega)]
  have hl := all_loop (step := s_l45Valid_L1 q) q.Harts isMach (.inl ()) (.inr false) (fun k hk => ?_) ?_
  · rw [hl]
    simp only [bind_some', if_and, if_or, bind_id]
    have e0 : isub .i64 (ilen q.Harts) 1 = (q.Harts.length : Int) - 1 := by rw [isub_eq _ _ (by unfold ilen; omega)]; rfl
    have e3 : decide ((q.Out.length : Int) = ilen q.Out) = true := by simp [ilen]
    rw [e0, e3, Bool.true_and]
    by_cases hA : (ige (ilen q.Harts) 1 && ile (ilen q.Harts) 3) = true ∧ isBoxes q.Boxes = true ∧ (ige q.Turn 0 && ile q.Turn ((q.Harts.length : Int) - 1)) = true ∧ (ige q.Idle 0 && ile q.Idle (ilen q.Harts)) = true
    · obtain ⟨a1, a2, a3, a4⟩ := hA
      rw [a1, a2, a3, a4]
      simp only [show bnot true = false from rfl, Bool.or_self, Bool.false_eq_true, if_false]
      rw [Bool.and_eq_true, ige_iff, ile_iff] at a1 a3 a4
      unfold ilen at a1 a4
      have : isSquad q = (q.Out.all isW && q.Harts.all isMach) := by
        unfold isSquad
        rw [a2]
        have b1 : decide (1 ≤ q.Harts.length) = true := by simp; omega
        have b2 : decide (q.Harts.length ≤ 3) = true := by simp; omega
        have b3 : decide (0 ≤ q.Turn) = true := by simp; omega
        have b4 : decide (q.Turn < q.Harts.length) = true := by simp; omega
        have b5 : decide (0 ≤ q.Idle) = true := by simp; omega
        have b6 : decide (q.Idle ≤ q.Harts.length) = true := by simp; omega
        rw [b1, b2, b3, b4, b5, b6]
        simp
      rw [this]
      cases q.Harts.all isMach <;> simp
    · have hs : isSquad q = false := by
        rw [Bool.eq_false_iff]
        intro hc
        apply hA
        simp only [isSquad, Bool.and_eq_true, decide_eq_true_eq] at hc
        obtain ⟨⟨⟨⟨⟨⟨⟨⟨c1, c2⟩, c3⟩, c4⟩, c5⟩, c6⟩, c7⟩, c8⟩, c9⟩ := hc
        refine ⟨?_, c8, ?_, ?_⟩ <;> (rw [Bool.and_eq_true, ige_iff, ile_iff]; try unfold ilen) <;> omega
      rw [hs, if_pos (or4 _ _ _ _ hA)]
  · unfold s_l45Valid_L1
    dsimp only
    have hm := h2 _ (List.getElem_mem hk)
    rw [if_pos (by rw [ilt_iff]; unfold ilen; omega), idx_at (List.getElem?_eq_getElem hk)]
    simp only [bind_some', s_MachineValid_val _ hm.1 hm.2]
    rw [iadd_eq _ _ (by omega)]
    cases isMach q.Harts[k] <;> rfl
  · unfold s_l45Valid_L1
    dsimp only
    rw [if_neg (by rw [ilt_iff]; unfold ilen; omega)]

/-- whether a hart has ended -/
def ended (m : gMachine) : Bool := match idx m.Regs 17 with
  | some x => ieq m.Pc 0 && ieq x 5
  | none => false
theorem ended_val (m : gMachine) (h : isMach m = true) : (if ieq m.Pc 0 = true then (idx m.Regs 17).bind fun v9 => some (ieq v9 5) else some false) = some (ended m) := by
  obtain ⟨v, h1, _, _⟩ := reg_at m h 17 (by decide)
  replace h1 : idx m.Regs 17 = some v := h1
  unfold ended
  rw [h1]
  simp only [bind_some', if_and]

theorem i_outcomeOf_val (out : List Int) (bs : List gBox) (r : Bool) (h1 : out.length ≤ 2000000) (h2 : bs.length ≤ 2000000) (h3 : ∀ b ∈ bs, b.Items.length ≤ 2000000) : i_outcomeOf out bs r = some ⟨out, bs.map (·.Items), [], r⟩ := by
  unfold i_outcomeOf
  rw [clone_id _ h1, bind_some']
  have := up_loop (step := i_outcomeOf_L1 bs) (s0 := ((0 : Int), (⟨[], [], [], false⟩ : gOutcome), (⟨out, [], [], r⟩ : gOutcome))) bs.length (fun k => ((k : Int), ⟨[], [], [], false⟩, ⟨out, (bs.take k).map (·.Items), [], r⟩)) (⟨[], [], [], false⟩, ⟨out, bs.map (·.Items), [], r⟩) (by simp) (fun k hk => ?_) ?_
  · rw [this]; rfl
  · unfold i_outcomeOf_L1
    dsimp only
    rw [if_pos (by rw [ilt_iff]; unfold ilen; omega), idx_at (List.getElem?_eq_getElem hk)]
    rw [bind_some', clone_id _ (h3 _ (List.getElem_mem hk)), bind_some', appx_ok 24 _ _ (by simp; unfold maxLen; omega), bind_some', iadd_eq _ _ (by omega), List.take_add_one, List.getElem?_eq_getElem hk, List.map_append]
    rfl
  · unfold i_outcomeOf_L1
    dsimp only
    rw [if_neg (by rw [ilt_iff]; unfold ilen; omega), List.take_length]
theorem s_l16Items_val (bs : List gBox) (h2 : bs.length ≤ 2000000) (h3 : ∀ b ∈ bs, b.Items.length ≤ 2000000) : s_l16Items bs = some (bs.map (·.Items)) := by
  unfold s_l16Items
  have := up_loop (step := s_l16Items_L1 bs) (s0 := ((0 : Int), ([] : List (List Int)))) bs.length (fun k => ((k : Int), (bs.take k).map (·.Items))) (bs.map (·.Items)) (by simp) (fun k hk => ?_) ?_
  · rw [this]; rfl
  · unfold s_l16Items_L1
    dsimp only
    rw [if_pos (by rw [ilt_iff]; unfold ilen; omega), idx_at (List.getElem?_eq_getElem hk)]
    rw [bind_some', appx_nil' _ (h3 _ (List.getElem_mem hk)), bind_some', appx_ok 24 _ _ (by simp; unfold maxLen; omega), bind_some', iadd_eq _ _ (by omega), List.take_add_one, List.getElem?_eq_getElem hk, List.map_append]
    rfl
  · unfold s_l16Items_L1
    dsimp only
    rw [if_neg (by rw [ilt_iff]; unfold ilen; omega), List.take_length]
def outcome (q : gSquad) : gOutcome := if isSquad q = true then ⟨q.Out, q.Boxes.map (·.Items), q.Harts.map ended, ieq q.Idle (ilen q.Harts)⟩ else ⟨[], [], [], false⟩
theorem squadOutcome_eq (q : gSquad) (h : SmallSq q) : i_SquadOutcome q = some (outcome q) ∧ s_SquadOutcome q = some (outcome q) := by
  have hh := h
  obtain ⟨h1, h2, h3, h4, h5⟩ := h
  unfold i_SquadOutcome s_SquadOutcome outcome
  rw [i_squadValid_val q hh, s_l45Valid_val q hh]
  have io : i_outcomeOf_o q.Out q.Boxes (ieq q.Idle (ilen q.Harts)) = _ := (show i_outcomeOf_o q.Out q.Boxes (ieq q.Idle (ilen q.Harts)) = i_outcomeOf q.Out q.Boxes (ieq q.Idle (ilen q.Harts)) from rfl).trans (i_outcomeOf_val _ _ _ h5 h3 h4)
  rw [io, appx_nil' _ h5, s_l16Items_val _ h3 h4]
  cases hv : isSquad q with
  | false => exact ⟨rfl, rfl⟩
  | true =>
    have hm : ∀ m ∈ q.Harts, isMach m = true := by
      simp only [isSquad, Bool.and_eq_true, List.all_eq_true] at hv
      exact hv.2
    simp only [bind_some', bnot, Bool.not_true, Bool.false_eq_true, if_false, if_true]
    constructor
    · have := up_loop (step := i_SquadOutcome_L1 q) (s0 := ((0 : Int), (⟨[], [], [], false⟩ : gOutcome), (⟨q.Out, q.Boxes.map (·.Items), [], ieq q.Idle (ilen q.Harts)⟩ : gOutcome))) q.Harts.length (fun k => ((k : Int), ⟨[], [], [], false⟩, ⟨q.Out, q.Boxes.map (·.Items), (q.Harts.take k).map ended, ieq q.Idle (ilen q.Harts)⟩)) (⟨[], [], [], false⟩, ⟨q.Out, q.Boxes.map (·.Items), q.Harts.map ended, ieq q.Idle (ilen q.Harts)⟩) (by simp) (fun k hk => ?_) ?_
      · rw [this]; rfl
      · unfold i_SquadOutcome_L1
        dsimp only
        rw [if_pos (by rw [ilt_iff]; unfold ilen; omega), idx_at (List.getElem?_eq_getElem hk)]
        rw [bind_some', ended_val _ (hm _ (List.getElem_mem hk)), bind_some', appx_ok 1 _ _ (by simp; unfold maxLen; omega), bind_some', iadd_eq _ _ (by omega), List.take_add_one, List.getElem?_eq_getElem hk, List.map_append]
        rfl
      · unfold i_SquadOutcome_L1
        dsimp only
        rw [if_neg (by rw [ilt_iff]; unfold ilen; omega), List.take_length]
    · have := up_loop (step := s_SquadOutcome_L1 q) (s0 := ((0 : Int), (⟨[], [], [], false⟩ : gOutcome), (⟨q.Out, q.Boxes.map (·.Items), [], ieq q.Idle (ilen q.Harts)⟩ : gOutcome))) q.Harts.length (fun k => ((k : Int), ⟨[], [], [], false⟩, ⟨q.Out, q.Boxes.map (·.Items), (q.Harts.take k).map ended, ieq q.Idle (ilen q.Harts)⟩)) (⟨[], [], [], false⟩, ⟨q.Out, q.Boxes.map (·.Items), q.Harts.map ended, ieq q.Idle (ilen q.Harts)⟩) (by simp) (fun k hk => ?_) ?_
      · rw [this]; rfl
      · unfold s_SquadOutcome_L1
        dsimp only
        rw [if_pos (by rw [ilt_iff]; unfold ilen; omega), idx_at (List.getElem?_eq_getElem hk)]
        rw [bind_some', ended_val _ (hm _ (List.getElem_mem hk)), bind_some', appx_ok 1 _ _ (by simp; unfold maxLen; omega), bind_some', iadd_eq _ _ (by omega), List.take_add_one, List.getElem?_eq_getElem hk, List.map_append]
        rfl
      · unfold s_SquadOutcome_L1
        dsimp only
        rw [if_neg (by rw [ilt_iff]; unfold ilen; omega), List.take_length]
theorem outcome_small (q : gSquad) (h : SmallSq q) : (outcome q).Out.length ≤ 2000000 ∧ (outcome q).Items.length ≤ 3 ∧ (∀ b ∈ (outcome q).Items, b.length ≤ 4) ∧ (outcome q).Ended.length ≤ 3 := by
  unfold outcome
  cases hv : isSquad q with
  | false => simp
  | true =>
    simp only [isSquad, Bool.and_eq_true, decide_eq_true_eq] at hv
    obtain ⟨⟨⟨⟨⟨⟨⟨⟨c1, c2⟩, c3⟩, c4⟩, c5⟩, c6⟩, c7⟩, c8⟩, c9⟩ := hv
    simp only [isBoxes, Bool.and_eq_true, List.all_eq_true, decide_eq_true_eq] at c8
    refine ⟨h.2.2.2.2, by simpa using c8.2, ?_, by simpa using c2⟩
    intro b hb
    simp only [if_true, List.mem_map] at hb
    obtain ⟨x, hx, rfl⟩ := hb
    have := (isBox_iff x).1 (c8.1 x hx)
    omega

theorem eqSquad_refl (q : gSquad) (h : SmallSq q) : l_eqSquad q q = some true := by
  obtain ⟨h1, h2, h3, h4, h5⟩ := h
  unfold l_eqSquad
  rw [eqMachineS_refl _ h1 h2, eqBoxS_refl _ h3 h4, eqIntS_refl _ h5]
  simp only [bind_some', show bnot true = false from rfl, Bool.false_eq_true, if_false]
  rw [if_neg (by simp [ine]), if_neg (by simp [ine])]
theorem toSquad_id (q : gSquad) (h : SmallSq q) : l_toSquad q = some q := by
  obtain ⟨h1, h2, h3, h4, h5⟩ := h
  unfold l_toSquad
  rw [toMachineS_id _ h1 h2, toBoxS_id _ h3 h4, toIntS_id _ h5]; rfl

theorem fnExactSquadOutcome_true (q : gSquad) (h1 : q.Harts.length ≤ maxLen) (h2 : ∀ m ∈ q.Harts, m.Regs.length ≤ maxLen ∧ m.Mem.length ≤ maxLen) (h3 : q.Boxes.length ≤ maxLen) (h4 : ∀ b ∈ q.Boxes, b.Items.length ≤ maxLen) (h5 : q.Out.length ≤ maxLen) : l_FnExactSquadOutcome q = some true := by
  unfold l_FnExactSquadOutcome l_szSquad
  obtain ⟨r1, a1, a2, a3⟩ := szMachineS_val q.Harts 1048576 h1 h2 (by omega)
  rw [a1, bind_some']
  by_cases c1 : r1 < 0
  · rw [if_pos (by rw [ilt_iff]; exact c1), bind_some', if_pos (by rfl)]
  rw [if_neg (by rw [ilt_iff]; exact c1)]
  obtain ⟨a4, a5, a6⟩ := a3 (by omega)
  obtain ⟨r2, b1, b2, b3⟩ := szBoxS_val q.Boxes r1 h3 h4 (by omega)
  rw [b1, bind_some']
  by_cases c2 : r2 < 0
  · rw [if_pos (by rw [ilt_iff]; exact c2), bind_some', if_pos (by rfl)]
  rw [if_neg (by rw [ilt_iff]; exact c2), szIntS_val _ _ h5 (by omega), bind_some']
  obtain ⟨b4, b5, b6⟩ := b3 (by omega)
  by_cases c3 : r2 < q.Out.length
  · rw [if_pos c3, if_pos (by rfl), bind_some', if_pos (by rfl)]
  rw [if_neg c3, if_neg (by rw [ilt_iff]; omega), bind_some', if_neg (by rw [ilt_iff]; omega)]
  have hq : SmallSq q := ⟨by omega, fun m hm => by have := a6 m hm; omega, by omega, fun b hb => by have := b6 b hb; omega, by omega⟩
  obtain ⟨o1, o2⟩ := squadOutcome_eq q hq
  obtain ⟨p1, p2, p3, p4⟩ := outcome_small q hq
  have p3' : ∀ b ∈ (outcome q).Items, b.length ≤ 2000000 := fun b hb => by have := p3 b hb; omega
  have o3 : i_SquadOutcome_o4 q = some (outcome q) := (show i_SquadOutcome_o4 q = i_SquadOutcome q from rfl).trans o1
  have t3 : l_toSquad_o6 q = some q := (show l_toSquad_o6 q = l_toSquad q from rfl).trans (toSquad_id q hq)
  generalize outcome q = o at o1 o2 o3 p1 p2 p3 p4 p3'
  have hz : szL o.Items ≤ 4 * o.Items.length := by
    have : ∀ l : List (List Int), (∀ b ∈ l, b.length ≤ 4) → szL l ≤ 4 * l.length := by
      intro l
      induction l with
      | nil => intro _; simp [szL]
      | cons b l ih =>
        intro h
        have h1 := ih fun x hx => h x (by simp [hx])
        have h2 := h b (by simp)
        simp only [szL, List.map_cons, List.sum_cons, List.length_cons] at h1 ⊢
        omega
    exact this _ p3
  obtain ⟨n1, l1, m1, m1'⟩ := markMachineS_ex q.Harts 1 hq.1 hq.2.1 (by omega) (by omega)
  have m2 := markBoxS_val q.Boxes n1 hq.2.2.1 hq.2.2.2.1 (by omega)
  have m3 := markIntS_val q.Out (n1 + szB q.Boxes) hq.2.2.2.2 (by omega)
  have m4 : l_markSquad q 1 = some (n1 + szB q.Boxes + q.Out.length, ⟨l1, markB n1 q.Boxes, q.Turn, q.Idle, mkN (n1 + szB q.Boxes) q.Out.length⟩) := by
    unfold l_markSquad
    simp only [m1, m2, m3, bind_some']
  have k1 := markIntS_val o.Out 1 p1 (by omega)
  have k2 := markIntSS_val o.Items (1 + o.Out.length) (by omega) p3' (by omega)
  have k3 := markBoolS_val o.Ended (1 + o.Out.length + szL o.Items) (by omega) (by omega)
  have k4 : l_markOutcome o 1 = some ((1 : Int) + o.Out.length + szL o.Items + o.Ended.length, ⟨mkN 1 o.Out.length, markL (1 + o.Out.length) o.Items, mkBo (1 + o.Out.length + szL o.Items) o.Ended.length, o.Rest⟩) := by
    unfold l_markOutcome
    simp only [k1, k2, k3, bind_some']
  have d1 := heldIntS_val o.Out.length 1 p1 (by omega)
  have d2 := heldIntSS_val o.Items (1 + o.Out.length) (by omega) p3' (by omega)
  have d3 := heldBoolS_val o.Ended.length (1 + o.Out.length + szL o.Items) (by omega) (by omega)
  have e1 : ilt (1 + (o.Out.length : Int)) 0 = false := by rw [Bool.eq_false_iff, ne_eq, ilt_iff]; omega
  have e2 : ilt (1 + (o.Out.length : Int) + szL o.Items) 0 = false := by rw [Bool.eq_false_iff, ne_eq, ilt_iff]; omega
  have e3 : ilt (1 + (o.Out.length : Int) + szL o.Items + o.Ended.length) 0 = false := by rw [Bool.eq_false_iff, ne_eq, ilt_iff]; omega
  have e4 : ilt (n1 + (szB q.Boxes : Int) + q.Out.length) 0 = false := by rw [Bool.eq_false_iff, ne_eq, ilt_iff]; omega
  have d4 : l_heldOutcome ⟨mkN 1 o.Out.length, markL (1 + o.Out.length) o.Items, mkBo (1 + o.Out.length + szL o.Items) o.Ended.length, o.Rest⟩ 1 = some ((1 : Int) + o.Out.length + szL o.Items + o.Ended.length) := by
    unfold l_heldOutcome
    simp only [d1, d2, d3, bind_some', e1, e2, e3, Bool.false_eq_true, if_false]
  have z : ∀ a : Int, ine a a = false := by intro a; simp [ine]
  have r0 := eqOutcome_refl o p1 (by omega) p3' (by omega)
  simp only [bind_some', toSquad_id q hq, t3, o1, o2, o3, r0, eqSquad_refl q hq, m4, k4, d4, e3, e4, z, show bnot true = false from rfl, Bool.false_eq_true, if_false]
end Go.Abs
