/- A drawn machine and drawn mailboxes: the draws end. -/
import Derived.Test.YtoklfbdcghgmlaaNCodeY
set_option linter.unusedSimpArgs false
set_option linter.unusedVariables false
set_option maxHeartbeats 8000000
namespace Go.Abs
open Go

theorem Ok.any {α : Type} {o : Option α} {v : α} (h : o = some v) : Ok o (fun _ => True) := ⟨v, h, trivial⟩
theorem put42 (x : Int) (n : Nat) (hn : n ≤ 62) : Ok (s_l42Put x n) (fun _ => True) := by
  unfold s_l42Put
  rw [power_eq n hn]
  exact ⟨_, rfl, trivial⟩
theorem mod42 (x p : Int) : Ok (s_l42Mod x p) (fun _ => True) := by
  unfold s_l42Mod
  exact Ok.ite (fun _ => Ok.pure trivial) fun _ => Ok.pure trivial
theorem bits42 (u : Int) (l m : Nat) (h : l ≤ 31 ∧ 1 ≤ m ∧ m + l ≤ 32) : Ok (s_Bits u l m) (fun _ => True) := by
  obtain ⟨v, e, _⟩ := bitsY u l m h
  exact ⟨v, e, trivial⟩
theorem three42 (op : Int) (h : 1 ≤ op ∧ op ≤ 21) : Ok (s_l42Three op) (fun _ => True) := by
  unfold s_l42Three
  rw [isub_eq _ _ (by omega)]
  exact Ok.bind (Ok.idx (by simp; omega)) fun v _ => Ok.pure trivial
theorem seven42 (op : Int) (h : 1 ≤ op ∧ op ≤ 11) : Ok (s_l42Seven op) (fun _ => True) := by
  unfold s_l42Seven
  rw [isub_eq _ _ (by omega)]
  exact Ok.bind (Ok.idx (by simp; omega)) fun v _ => Ok.pure trivial
theorem mid42 (i : gInstr) (c : Int) (h : 1 ≤ i.Op ∧ i.Op ≤ 21) : Ok (s_l42Mid i c) (fun _ => True) := by
  unfold s_l42Mid
  exact Ok.bind (put42 _ 15 (by decide)) fun _ _ => Ok.bind (three42 _ h) fun _ _ => Ok.bind (put42 _ 12 (by decide)) fun _ _ => Ok.pure trivial
theorem imm42 (i : gInstr) (c : Int) (h : 1 ≤ i.Op ∧ i.Op ≤ 21) : Ok (s_l42Imm i c) (fun _ => True) := by
  unfold s_l42Imm
  exact Ok.bind (mod42 _ _) fun _ _ => Ok.bind (put42 _ 20 (by decide)) fun _ _ => Ok.bind (mid42 i c h) fun _ _ => Ok.bind (put42 _ 7 (by decide)) fun _ _ => Ok.pure trivial
theorem branch42 (i : gInstr) (h : 1 ≤ i.Op ∧ i.Op ≤ 21) : Ok (s_l42Branch i) (fun _ => True) := by
  unfold s_l42Branch
  exact Ok.bind (mod42 _ _) fun _ _ => Ok.bind (bits42 _ 12 1 (by decide)) fun _ _ => Ok.bind (put42 _ 31 (by decide)) fun _ _ => Ok.bind (bits42 _ 5 6 (by decide)) fun _ _ => Ok.bind (put42 _ 25 (by decide)) fun _ _ => Ok.bind (put42 _ 20 (by decide)) fun _ _ =>
    Ok.bind (mid42 i _ h) fun _ _ => Ok.bind (bits42 _ 1 4 (by decide)) fun _ _ => Ok.bind (put42 _ 8 (by decide)) fun _ _ => Ok.bind (bits42 _ 11 1 (by decide)) fun _ _ => Ok.bind (put42 _ 7 (by decide)) fun _ _ => Ok.pure trivial
theorem jump42 (i : gInstr) : Ok (s_l42Jump i) (fun _ => True) := by
  unfold s_l42Jump
  exact Ok.bind (mod42 _ _) fun _ _ => Ok.bind (bits42 _ 20 1 (by decide)) fun _ _ => Ok.bind (put42 _ 31 (by decide)) fun _ _ => Ok.bind (bits42 _ 1 10 (by decide)) fun _ _ => Ok.bind (put42 _ 21 (by decide)) fun _ _ => Ok.bind (bits42 _ 11 1 (by decide)) fun _ _ => Ok.bind (put42 _ 20 (by decide)) fun _ _ =>
    Ok.bind (bits42 _ 12 8 (by decide)) fun _ _ => Ok.bind (put42 _ 12 (by decide)) fun _ _ => Ok.bind (put42 _ 7 (by decide)) fun _ _ => Ok.pure trivial
theorem encode42 (i : gInstr) (h : 1 ≤ i.Op ∧ i.Op ≤ 21) : Ok (s_l42Encode i) (fun _ => True) := by
  unfold s_l42Encode
  have e1 : (if ieq i.Op 12 = true then some (ieq i.Op 12) else some (ieq i.Op 13)) = some (ieq i.Op 12 || ieq i.Op 13) := by cases ieq i.Op 12 <;> rfl
  have e2 : (if ieq i.Op 17 = true then some (ieq i.Op 17) else some (ieq i.Op 18)) = some (ieq i.Op 17 || ieq i.Op 18) := by cases ieq i.Op 17 <;> rfl
  rw [e1, e2, bind_some']
  refine Ok.ite (fun _ => Ok.bind (imm42 i _ h) fun _ _ => Ok.pure trivial) fun n1 => ?_
  refine Ok.ite (fun _ => Ok.bind (imm42 i _ h) fun _ _ => Ok.pure trivial) fun n2 => ?_
  refine Ok.ite (fun _ => Ok.bind (imm42 i _ h) fun _ _ => Ok.pure trivial) fun n3 => ?_
  refine Ok.ite (fun _ => ?_) fun n4 => ?_
  · exact Ok.bind (mod42 _ _) fun _ _ => Ok.bind (bits42 _ 5 7 (by decide)) fun _ _ => Ok.bind (put42 _ 25 (by decide)) fun _ _ => Ok.bind (put42 _ 20 (by decide)) fun _ _ => Ok.bind (mid42 i _ h) fun _ _ => Ok.bind (bits42 _ 0 5 (by decide)) fun _ _ => Ok.bind (put42 _ 7 (by decide)) fun _ _ => Ok.pure trivial
  rw [bind_some']
  refine Ok.ite (fun _ => Ok.bind (branch42 i h) fun _ _ => Ok.pure trivial) fun n5 => ?_
  refine Ok.ite (fun _ => Ok.bind (put42 _ 12 (by decide)) fun _ _ => Ok.bind (put42 _ 7 (by decide)) fun _ _ => Ok.pure trivial) fun n6 => ?_
  refine Ok.ite (fun _ => Ok.bind (jump42 i) fun _ _ => Ok.pure trivial) fun n7 => ?_
  refine Ok.ite (fun _ => Ok.pure trivial) fun n8 => ?_
  simp only [Bool.or_eq_true, ieq_iff, not_or] at n1 n2 n3 n4 n5 n6 n7 n8
  exact Ok.bind (seven42 _ (by omega)) fun _ _ => Ok.bind (put42 _ 25 (by decide)) fun _ _ => Ok.bind (put42 _ 20 (by decide)) fun _ _ => Ok.bind (mid42 i _ h) fun _ _ => Ok.bind (put42 _ 7 (by decide)) fun _ _ => Ok.pure trivial
theorem wrapAny (n : Int) : Ok (s_Wrap n) (fun _ => True) := by
  unfold s_Wrap
  refine Ok.bind (P := fun _ => True) ⟨_, by unfold remx; rw [if_neg (by omega)], trivial⟩ fun v _ => ?_
  refine Ok.ite (fun _ => Ok.pure trivial) fun _ => ?_
  exact Ok.ite (fun _ => Ok.pure trivial) fun _ => Ok.pure trivial
theorem codeY (l : List gInstr) (hl : l.length ≤ 9987) (h : ∀ i ∈ l, VI i) : Ok (s_l45Code_o [0] l) (fun q => q.2 = true ∧ q.1.length = 1 + l.length) := by
  unfold s_l45Code_o
  have hloop : Ok (loopM (s_l45Code_o_L1 l) (0, ([0] : List Int))) (fun e => ∃ m, e = .inl m ∧ m.length = 1 + l.length) := by
    refine loopM_rule (step := s_l45Code_o_L1 l) (fun s => ∃ k : Nat, k ≤ l.length ∧ s.1 = (k : Int) ∧ s.2.length = 1 + k) (fun s => l.length - s.1.toNat) _ ⟨0, by omega, rfl, rfl⟩ ?_
    rintro ⟨k', m⟩ ⟨k, hk, h1, h2⟩
    simp only at h1 h2
    subst h1
    unfold s_l45Code_o_L1
    dsimp only
    by_cases hlt : k < l.length
    · rw [if_pos (by rw [ilt_iff]; unfold ilen; omega), idx_at (List.getElem?_eq_getElem hlt), bind_some']
      obtain ⟨v1, v2, v3⟩ := h _ (List.getElem_mem hlt)
      obtain ⟨u, hu, _⟩ := encode42 l[k] ⟨v2, v3⟩
      have he : s_InstrEncode l[k] = some (u, true) := by
        unfold s_InstrEncode
        rw [v1, bind_some', if_neg (by decide), hu]; rfl
      obtain ⟨w, hw, _⟩ := wrapAny u
      rw [he, bind_some', if_neg (by simp [bnot]), hw, bind_some', appx_ok 8 _ _ (by simp; unfold maxLen; omega), bind_some']
      have e2 : iadd .i64 (k : Int) 1 = ((k + 1 : Nat) : Int) := by rw [iadd_eq _ _ (by omega)]; rfl
      rw [e2]
      exact .inl ⟨_, rfl, ⟨k + 1, by omega, rfl, by simp only [List.length_append, List.length_cons, List.length_nil]; omega⟩, by simp only []; omega⟩
    · rw [if_neg (by rw [ilt_iff]; unfold ilen; omega)]
      exact .inr ⟨_, rfl, m, rfl, by omega⟩
  refine Ok.bind hloop fun e he => ?_
  obtain ⟨m, rfl, hm⟩ := he
  exact Ok.pure ⟨rfl, hm⟩
theorem hartNewY (l : List gInstr) (hl : l.length ≤ 9987) (h : ∀ i ∈ l, VI i) : Ok (s_HartNew_o l) (fun q => q.2 = true ∧ q.1.Regs.length = 32 ∧ q.1.Mem.length ≤ 10000) := by
  unfold s_HartNew_o
  rw [if_neg (by rw [igt_iff]; unfold ilen; omega), bind_some']
  refine Ok.bind (codeY l hl h) fun q hq => ?_
  obtain ⟨q1, q2⟩ := hq
  have hm : makex 8 32 (0 : Int) = some (List.replicate 32 0) := by
    unfold makex
    rw [if_pos (by unfold maxLen; decide)]; rfl
  rw [q1, if_neg (by decide), hm, bind_some']
  have hi : idx (List.replicate 32 (0 : Int)) 2 = some 0 := idx_at (k := 2) (by decide)
  have hs : ∀ x : Int, setx (List.replicate 32 (0 : Int)) 2 x = some ((List.replicate 32 (0 : Int)).set 2 x) := fun x => by rw [setx_iff]; exact ⟨by decide, rfl⟩
  rw [hi, bind_some', hs, bind_some']
  have hz : appzx 8 q.1 12 (0 : Int) = some (q.1 ++ List.replicate 12 0) := by
    rw [appzx_iff]
    exact ⟨⟨by decide, by decide, by simp; unfold maxLen; omega, by simp; omega⟩, rfl⟩
  rw [hz, bind_some']
  exact Ok.pure ⟨rfl, by simp, by simp; omega⟩

theorem placesY (l : List gQuad) (hl : l.length ≤ 14) (h : ∀ q ∈ l, GQ l.length q) : Ok (s_l43Places l 8) (fun p => p.length = l.length ∧ ∀ x ∈ p, 0 ≤ x ∧ x ≤ 100) := by
  unfold s_l43Places
  have hloop : Ok (loopM (s_l43Places_L1 l 8) (0, 0, ([] : List Int))) (fun p => p.length = l.length ∧ ∀ x ∈ p, 0 ≤ x ∧ x ≤ 100) := by
    refine loopM_rule (step := s_l43Places_L1 l 8) (fun s => ∃ k : Nat, k ≤ l.length ∧ s.2.1 = (k : Int) ∧ s.2.2.length = k ∧ 0 ≤ s.1 ∧ s.1 ≤ 5 * k ∧ ∀ x ∈ s.2.2, 0 ≤ x ∧ x ≤ 100) (fun s => l.length - s.2.1.toNat) _ ⟨0, by omega, rfl, rfl, by simp, by simp, by simp⟩ ?_
    rintro ⟨a, k', o⟩ ⟨k, hk, h1, h2, h3, h4, h5⟩
    simp only at h1 h2 h3 h4 h5
    subst h1
    unfold s_l43Places_L1
    dsimp only
    by_cases hlt : k < l.length
    · rw [if_pos (by rw [ilt_iff]; unfold ilen; omega), appx_ok 8 o [a] (by simp; unfold maxLen; omega), bind_some', idx_at (List.getElem?_eq_getElem hlt), bind_some']
      obtain ⟨x, hx, x1, _⟩ := quadY l[k] l.length 0 (h _ (List.getElem_mem hlt)) (by decide)
      replace hx : s_l43Quad l[k] 8 0 = some x := hx
      rw [hx, bind_some']
      have e1 : iadd .i64 a (ilen x) = a + x.length := by rw [iadd_eq _ _ (by unfold ilen; omega)]; rfl
      have e2 : iadd .i64 (k : Int) 1 = ((k + 1 : Nat) : Int) := by rw [iadd_eq _ _ (by omega)]; rfl
      rw [e1, e2]
      refine .inl ⟨_, rfl, ⟨k + 1, by omega, rfl, by simp [h2], by simp only []; omega, by simp only []; omega, ?_⟩, by simp only []; omega⟩
      intro y hy
      rcases List.mem_append.1 hy with hy | hy
      · exact h5 y hy
      · simp at hy; subst hy; omega
    · rw [if_neg (by rw [ilt_iff]; unfold ilen; omega)]
      exact .inr ⟨_, rfl, by omega, h5⟩
  exact Ok.bind hloop fun e he => Ok.pure he
theorem taskY (l : List gQuad) (hl : l.length ≤ 14) (h : ∀ q ∈ l, GQ l.length q) : Ok (s_l43Task l 8) (fun p => p.length ≤ 100 ∧ ∀ i ∈ p, VI i) := by
  unfold s_l43Task
  refine Ok.bind (placesY l hl h) fun p hp => ?_
  obtain ⟨p1, p2⟩ := hp
  have hloop : Ok (loopM (s_l43Task_L1 l 8 p) (0, ([] : List gInstr))) (fun q => q.length ≤ 100 ∧ ∀ i ∈ q, VI i) := by
    refine loopM_rule (step := s_l43Task_L1 l 8 p) (fun s => ∃ k : Nat, k ≤ l.length ∧ s.1 = (k : Int) ∧ s.2.length ≤ 5 * k ∧ ∀ i ∈ s.2, VI i) (fun s => l.length - s.1.toNat) _ ⟨0, by omega, rfl, by simp, by simp⟩ ?_
    rintro ⟨k', o⟩ ⟨k, hk, h1, h2, h3⟩
    simp only at h1 h2 h3
    subst h1
    unfold s_l43Task_L1
    dsimp only
    by_cases hlt : k < l.length
    · rw [if_pos (by rw [ilt_iff]; unfold ilen; omega), idx_at (List.getElem?_eq_getElem hlt), bind_some', if_or, bind_some']
      have hq := h _ (List.getElem_mem hlt)
      have hoff : ∃ j, -100 ≤ j ∧ j ≤ 100 ∧ (if (ieq l[k].Op 4 || ieq l[k].Op 5) = true then (idx p l[k].N).bind fun v11 => (idx p (k : Int)).bind fun v12 => some (imul .i64 4 (isub .i64 v11 v12)) else some 0) = some (4 * j) := by
        by_cases ht : (ieq l[k].Op 4 || ieq l[k].Op 5) = true
        · rw [if_pos ht]
          simp only [Bool.or_eq_true, ieq_iff] at ht
          have hn := hq.to ht
          obtain ⟨x, hx, hx2⟩ := idx_ok p l[k].N hn.1 (by omega)
          obtain ⟨y, hy, hy2⟩ := idx_ok p (k : Int) (by omega) (by omega)
          have b1 := p2 x hx2
          have b2 := p2 y hy2
          rw [hx, bind_some', hy, bind_some', isub_eq _ _ (by omega), imul_eq _ _ (by omega)]
          exact ⟨x - y, by omega, by omega, rfl⟩
        · rw [if_neg ht]; exact ⟨0, by omega, by omega, rfl⟩
      obtain ⟨j, j1, j2, hj⟩ := hoff
      rw [hj, bind_some', bind_some']
      obtain ⟨x, hx, x1, x2⟩ := quadY l[k] l.length j hq (by omega)
      have e2 : iadd .i64 (k : Int) 1 = ((k + 1 : Nat) : Int) := by rw [iadd_eq _ _ (by omega)]; rfl
      rw [hx, bind_some', appx_ok 40 _ _ (by unfold maxLen; omega), bind_some', e2]
      refine .inl ⟨_, rfl, ⟨k + 1, by omega, rfl, by simp; omega, ?_⟩, by simp only []; omega⟩
      intro i hi
      rcases List.mem_append.1 hi with hi | hi
      · exact h3 i hi
      · exact x2 i hi
    · rw [if_neg (by rw [ilt_iff]; unfold ilen; omega)]
      exact .inr ⟨_, rfl, by omega, h3⟩
  exact Ok.bind hloop fun e he => Ok.pure he

section
variable {b : List Int} (hb : Bytes b) (hl : b.length ≤ 1048576)
include hb hl
theorem Ok.items {k : Int} {r : gL6Rd} (hr : Rd b k r) (hk : k ≤ 900000) {n : Int} (hn : 0 ≤ n ∧ n ≤ 10) : Ok (s_l92Items r n) (fun q => Rd b (k + 50) q.2 ∧ (q.1.length : Int) = n) := by
  unfold s_l92Items
  have hloop : Ok (loopM (s_l92Items_L1 n) (0, r, ([] : List Int))) (fun e => Rd b (k + 50) e.1 ∧ (e.2.length : Int) = n) := by
    refine loopM_rule (step := s_l92Items_L1 n) (fun s => ∃ j : Nat, (j : Int) ≤ n ∧ s.1 = (j : Int) ∧ Rd b (k + 5 * j) s.2.1 ∧ s.2.2.length = j) (fun s => (n - s.1).toNat) _ ⟨0, by omega, rfl, hr.le (by omega), rfl⟩ ?_
    rintro ⟨j', r', l⟩ ⟨j, hj, h1, h2, h3⟩
    simp only at h1 h2 h3
    subst h1
    unfold s_l92Items_L1
    dsimp only
    by_cases hlt : (j : Int) < n
    · rw [if_pos (by rw [ilt_iff]; omega)]
      obtain ⟨v, hv, v1, _⟩ := Ok.word hb hl h2 (by omega)
      have e2 : iadd .i64 (j : Int) 1 = ((j + 1 : Nat) : Int) := by rw [iadd_eq _ _ (by omega)]; rfl
      rw [hv, bind_some', appx_ok 8 _ _ (by simp; unfold maxLen; omega), bind_some', e2]
      exact .inl ⟨_, rfl, ⟨j + 1, by omega, rfl, v1.le (by omega), by simp [h3]⟩, by simp only []; omega⟩
    · rw [if_neg (by rw [ilt_iff]; omega)]
      exact .inr ⟨_, rfl, h2.le (by omega), by show (l.length : Int) = n; omega⟩
  refine Ok.bind hloop fun e he => ?_
  obtain ⟨y4, y5⟩ := e
  exact Ok.pure ⟨he.1, he.2⟩
theorem Ok.boxes {k : Int} {r : gL6Rd} (hr : Rd b k r) (hk : k ≤ 800000) : Ok (s_l92Boxes r) (fun q => q.1.length ≤ 10 ∧ ∀ x ∈ q.1, x.Items.length ≤ 10) := by
  unfold s_l92Boxes
  refine Ok.bind (Ok.pick hb hl hr (by decide) (by omega)) fun q1 h1 => ?_
  refine Ok.bind (Ok.idx (by simp; omega)) fun v2 hv2 => ?_
  have hv : 1 ≤ v2 ∧ v2 ≤ 3 := by simp at hv2; omega
  have hloop : Ok (loopM (s_l92Boxes_L1 v2) (0, q1.2, ([] : List gBox))) (fun e => Rd b (k + 1 + 60 * v2) e.1 ∧ (e.2.length : Int) = v2 ∧ ∀ x ∈ e.2, x.Items.length ≤ 10) := by
    refine loopM_rule (step := s_l92Boxes_L1 v2) (fun s => ∃ j : Nat, (j : Int) ≤ v2 ∧ s.1 = (j : Int) ∧ Rd b (k + 1 + 60 * j) s.2.1 ∧ s.2.2.length = j ∧ ∀ x ∈ s.2.2, x.Items.length ≤ 10) (fun s => (v2 - s.1).toNat) _ ⟨0, by omega, rfl, h1.1.le (by omega), rfl, by simp⟩ ?_
    rintro ⟨j', r', l⟩ ⟨j, hj, g1, g2, g3, g4⟩
    simp only at g1 g2 g3 g4
    subst g1
    unfold s_l92Boxes_L1
    dsimp only
    by_cases hlt : (j : Int) < v2
    · rw [if_pos (by rw [ilt_iff]; omega)]
      obtain ⟨p8, e8, f8, f8a, f8b⟩ := Ok.pick hb hl g2 (n := 4) (by decide) (by omega)
      have ea : iadd .i64 (iadd .i64 1 p8.1) 1 = p8.1 + 2 := by rw [iadd_eq 1 _ (by omega), iadd_eq _ _ (by omega)]; omega
      obtain ⟨p9, e9, f9, f9a, f9b⟩ := Ok.pick hb hl f8 (n := p8.1 + 2) (by omega) (by omega)
      obtain ⟨p10, e10, f10, f10a⟩ := Ok.items hb hl f9 (by omega) (n := p9.1) (by omega)
      have e2 : iadd .i64 (j : Int) 1 = ((j + 1 : Nat) : Int) := by rw [iadd_eq _ _ (by omega)]; rfl
      rw [e8, bind_some', ea, e9, bind_some', e10, bind_some', appx_ok 32 _ _ (by simp; unfold maxLen; omega), bind_some', e2]
      refine .inl ⟨_, rfl, ⟨j + 1, by omega, rfl, f10.le (by omega), by simp [g3], ?_⟩, by simp only []; omega⟩
      intro x hx
      rcases List.mem_append.1 hx with hx | hx
      · exact g4 x hx
      · simp at hx; subst hx; simp only []; omega
    · rw [if_neg (by rw [ilt_iff]; omega)]
      exact .inr ⟨_, rfl, g2.le (by omega), by show (l.length : Int) = v2; omega, g4⟩
  refine Ok.bind hloop fun e he => ?_
  obtain ⟨y6, y7⟩ := e
  obtain ⟨g1, g2, g3⟩ := he
  simp only at g1 g2 g3 ⊢
  refine Ok.bind (Ok.pick hb hl g1 (by decide) (by omega)) fun q12 h12 => ?_
  have hi0 : Go.Abs.idx y7 0 = some y7[0] := idx_at (k := 0) (List.getElem?_eq_getElem (by omega))
  have hm0 : y7[0] ∈ y7 := List.getElem_mem _
  refine Ok.ite (fun _ => ?_) fun _ => Ok.ite (fun _ => ?_) fun _ => ?_
  · have hs : setx y7 0 (⟨0, y7[0].Items⟩ : gBox) = some (y7.set 0 ⟨0, y7[0].Items⟩) := by rw [setx_iff]; exact ⟨by omega, rfl⟩
    rw [hi0, bind_some', hs, bind_some']
    refine Ok.pure ⟨by simp; omega, ?_⟩
    intro x hx
    rcases List.mem_or_eq_of_mem_set hx with h | h
    · exact g3 x h
    · subst h; exact g3 y7[0] hm0
  · rw [hi0, bind_some', appx_ok 32 _ _ (by simp; unfold maxLen; omega), bind_some']
    refine Ok.pure ⟨by simp; omega, ?_⟩
    intro x hx
    rcases List.mem_append.1 hx with h | h
    · exact g3 x h
    · simp at h; subst h; exact g3 _ hm0
  · exact Ok.pure ⟨by show y7.length ≤ 10; omega, g3⟩
end
theorem drawHartCall_ok {l : List Int} (hb : Bytes l) (hl : l.length ≤ 1048576) : Ok (s_DrawHartCall l) (fun q => q.1.Regs.length = 32 ∧ q.1.Mem.length ≤ 10000 ∧ q.2.length ≤ 10 ∧ ∀ x ∈ q.2, x.Items.length ≤ 10) := by
  unfold s_DrawHartCall
  refine Ok.bind (Ok.open hb hl) fun r hr => ?_
  obtain ⟨b, hb', hl', hr⟩ := hr
  refine Ok.bind (Ok.random hb' hl' hr) fun q2 h2 => ?_
  obtain ⟨a1, a2, a3, a4⟩ := h2
  refine Ok.bind (taskY q2.1 a3 a4) fun q3 h3 => ?_
  refine Ok.bind (hartNewY q3 (by omega) h3.2) fun q4 h4 => ?_
  obtain ⟨c1, c2, c3⟩ := h4
  refine Ok.bind (Ok.pick hb' hl' a1 (by decide) (by omega)) fun q5 h5 => ?_
  have ix : ∀ (r : List Int) (k : Nat), r.length = 32 → k < 32 → ∃ v, idx r (k : Int) = some v := fun r k h hk => ⟨_, idx_at (List.getElem?_eq_getElem (by omega))⟩
  have sx : ∀ (r : List Int) (k : Nat) (x : Int), r.length = 32 → k < 32 → ∃ r', setx r (k : Int) x = some r' ∧ r'.length = 32 := fun r k x h hk => ⟨_, (setx_iff.2 ⟨by omega, rfl⟩), by simp [h]⟩
  obtain ⟨v6, e6⟩ := ix q4.1.Regs 1 c2 (by decide)
  obtain ⟨l7, e7, n7⟩ := sx q4.1.Regs 1 (imul .i64 4 q5.1) c2 (by decide)
  replace e6 : idx q4.1.Regs 1 = some v6 := e6
  replace e7 : setx q4.1.Regs 1 (imul .i64 4 q5.1) = some l7 := e7
  rw [e6, bind_some', e7, bind_some']
  refine Ok.bind (Ok.word hb' hl' h5.1 (by omega)) fun q8 h8 => ?_
  obtain ⟨v9, e9⟩ := ix l7 10 n7 (by decide)
  obtain ⟨l10, e10, n10⟩ := sx l7 10 q8.1 n7 (by decide)
  replace e9 : idx l7 10 = some v9 := e9
  replace e10 : setx l7 10 q8.1 = some l10 := e10
  rw [e9, bind_some', e10, bind_some']
  refine Ok.bind (Ok.pick hb' hl' h8.1 (by decide) (by omega)) fun q11 h11 => ?_
  obtain ⟨v12, e12⟩ := ix l10 17 n10 (by decide)
  obtain ⟨l13, e13, n13⟩ := sx l10 17 (iadd .i64 1 q11.1) n10 (by decide)
  replace e12 : idx l10 17 = some v12 := e12
  replace e13 : setx l10 17 (iadd .i64 1 q11.1) = some l13 := e13
  rw [e12, bind_some', e13, bind_some']
  refine Ok.bind (Ok.pick hb' hl' h11.1 (by decide) (by omega)) fun q14 h14 => ?_
  obtain ⟨v15, e15⟩ := ix l13 11 n13 (by decide)
  obtain ⟨l16, e16, n16⟩ := sx l13 11 q14.1 n13 (by decide)
  replace e15 : idx l13 11 = some v15 := e15
  replace e16 : setx l13 11 q14.1 = some l16 := e16
  rw [e15, bind_some', e16, bind_some']
  have hj : Ok ((s_l6Rd_pick q14.2 24).bind fun r20 =>
      if ieq r20.1 0 = true then some (r20.2, (⟨l16, 4, q4.1.Mem⟩ : gMachine))
      else if ieq r20.1 1 = true then (s_l6Rd_pick r20.2 2).bind fun r21 => (idx ([0, 6] : List Int) r21.1).bind fun v22 => (idx l16 17).bind fun v23 => (setx l16 17 v22).bind fun l24 => some (r21.2, (⟨l24, 0, q4.1.Mem⟩ : gMachine))
      else if ieq r20.1 2 = true then (s_l6Rd_pick r20.2 2).bind fun r25 => (idx ([-1, 3] : List Int) r25.1).bind fun v26 => (idx l16 11).bind fun v27 => (setx l16 11 v26).bind fun l28 => some (r25.2, (⟨l28, 0, q4.1.Mem⟩ : gMachine))
      else some (r20.2, (⟨l16, 0, q4.1.Mem⟩ : gMachine))) (fun e => Rd b 300 e.1 ∧ e.2.Regs.length = 32 ∧ e.2.Mem.length ≤ 10000) := by
    refine Ok.bind (Ok.pick hb' hl' h14.1 (by decide) (by omega)) fun q20 h20 => ?_
    refine Ok.ite (fun _ => Ok.pure ⟨h20.1.le (by omega), n16, c3⟩) fun _ => Ok.ite (fun _ => ?_) fun _ => Ok.ite (fun _ => ?_) fun _ => Ok.pure ⟨h20.1.le (by omega), n16, c3⟩
    · refine Ok.bind (Ok.pick hb' hl' h20.1 (by decide) (by omega)) fun q21 h21 => ?_
      refine Ok.bind (Ok.idx (by simp; omega)) fun v22 _ => ?_
      obtain ⟨v23, e23⟩ := ix l16 17 n16 (by decide)
      obtain ⟨l24, e24, n24⟩ := sx l16 17 v22 n16 (by decide)
      replace e23 : idx l16 17 = some v23 := e23
      replace e24 : setx l16 17 v22 = some l24 := e24
      rw [e23, bind_some', e24, bind_some']
      exact Ok.pure ⟨h21.1.le (by omega), n24, c3⟩
    · refine Ok.bind (Ok.pick hb' hl' h20.1 (by decide) (by omega)) fun q21 h21 => ?_
      refine Ok.bind (Ok.idx (by simp; omega)) fun v22 _ => ?_
      obtain ⟨v23, e23⟩ := ix l16 11 n16 (by decide)
      obtain ⟨l24, e24, n24⟩ := sx l16 11 v22 n16 (by decide)
      replace e23 : idx l16 11 = some v23 := e23
      replace e24 : setx l16 11 v22 = some l24 := e24
      rw [e23, bind_some', e24, bind_some']
      exact Ok.pure ⟨h21.1.le (by omega), n24, c3⟩
  refine Ok.bind hj fun e he => ?_
  refine Ok.bind (Ok.boxes hb' hl' he.1 (by omega)) fun q hq => ?_
  exact Ok.pure ⟨he.2.1, he.2.2, hq.1, hq.2⟩
end Go.Abs
