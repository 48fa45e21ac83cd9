/- laws.FnExactTaskInstrs' mirror: true for each code. -/
import Derived.Test.YtoklfbdcghgmlaaDoorNLawE4
import Derived.Test.YtoklfbdcghgmlaaDoorNLawE9
set_option linter.unusedSimpArgs false
set_option linter.unusedVariables false
set_option maxHeartbeats 8000000
namespace Go.Abs
open Go

theorem quadTo (q : gQuad) (n : Int) (h : s_QuadValid q n = some true) (ht : q.Op = 4 ∨ q.Op = 5) : 0 ≤ q.N ∧ q.N < n := by
  obtain ⟨op, d, a, b, m⟩ := q
  simp only at ht
  unfold s_QuadValid at h
  simp only [s_l21Regs, s_l21Reg, s_WordValid, s_OpValid, s_l6In, if_true, Bool.false_eq_true, if_false, bind_id, if_and, if_or, bind_some'] at h
  simp only [ieq, ige, ile, ilt] at h
  rcases ht with rfl | rfl <;> simp at h <;> simp only [] <;> omega
theorem places_ok2 (l : List gQuad) (c : Int) (hc : 1 ≤ c ∧ c ≤ 8) (hl : l.length ≤ 600) (h : ∀ q ∈ l, s_QuadValid q (ilen l) = some true) : ∃ r, loopM (s_l43Places_L1 l c) (0, 0, ([] : List Int)) = some r ∧ r.length = l.length ∧ ∀ x ∈ r, 0 ≤ x ∧ x ≤ 3000 := by
  refine loopM_rule (step := s_l43Places_L1 l c) (fun s => ∃ k : Nat, k ≤ l.length ∧ s.2.1 = (k : Int) ∧ s.2.2.length = k ∧ 0 ≤ s.1 ∧ s.1 ≤ 5 * k ∧ ∀ x ∈ s.2.2, 0 ≤ x ∧ x ≤ 3000) (fun s => l.length - s.2.1.toNat) (fun r => r.length = l.length ∧ ∀ x ∈ r, 0 ≤ x ∧ x ≤ 3000) ⟨0, by omega, rfl, rfl, by simp, by simp, by simp⟩ ?_
  rintro ⟨a, k', o⟩ ⟨k, hk, h1, h2, h3, h4, h5⟩
  simp only at h1 h2 h3 h4 h5
  subst h1
  unfold s_l43Places_L1
  dsimp only
  by_cases hlt : k < l.length
  · left
    rw [if_pos (by rw [ilt_iff]; unfold ilen; omega), appx_ok 8 o [a] (by simp; unfold maxLen; omega), idx_at (List.getElem?_eq_getElem hlt)]
    obtain ⟨x, _, k2, k3⟩ := quad0 l[k] c (ilen l) hc (by unfold ilen; omega) (h _ (List.getElem_mem hlt))
    simp only [bind_some', k2]
    have e1 : iadd .i64 a (ilen x) = a + x.length := by rw [iadd_eq _ _ (by unfold ilen; omega)]; rfl
    have e2 : iadd .i64 (k : Int) 1 = ((k + 1 : Nat) : Int) := by rw [iadd_eq _ _ (by omega)]; rfl
    refine ⟨_, rfl, ⟨k + 1, by omega, e2, by simp [h2], by rw [e1]; omega, by rw [e1]; omega, ?_⟩, by simp only [e2]; omega⟩
    intro y hy
    rcases List.mem_append.1 hy with hy | hy
    · exact h5 y hy
    · simp at hy; subst hy; omega
  · right
    rw [if_neg (by rw [ilt_iff]; unfold ilen; omega)]
    exact ⟨_, rfl, by omega, h5⟩
theorem hasTarget_val (q : gQuad) : i_hasTarget q = some (ieq q.Op 4 || ieq q.Op 5) := by
  unfold i_hasTarget
  rw [if_or]; rfl
/-- a step of either, at a code that is valid -/
theorem step_off (l : List gQuad) (c : Int) (r : List Int) (hc : 1 ≤ c ∧ c ≤ 8) (hl : l.length ≤ 600) (h : ∀ q ∈ l, s_QuadValid q (ilen l) = some true) (hr : r.length = l.length) (hr2 : ∀ x ∈ r, 0 ≤ x ∧ x ≤ 3000) (k : Int) (q : gQuad) (hi : idx l k = some q) :
    ∃ off x, (i_hasTarget q).bind (fun r9 => if r9 = true then (idx r k).bind fun v10 => (idx r q.N).bind fun v11 => some (imul .i64 4 (isub .i64 v11 v10)) else some 0) = some off ∧
      ((if ieq q.Op 4 = true then some true else some (ieq q.Op 5)).bind fun g10 => if g10 = true then (idx r q.N).bind fun v11 => (idx r k).bind fun v12 => some (imul .i64 4 (isub .i64 v11 v12)) else some 0) = some off ∧
      i_quadInstrs q c off = some x ∧ s_l43Quad q c off = some x ∧ x.length ≤ 5 := by
  obtain ⟨h0, h1, h2⟩ := idx_lt3 hi
  have hq := h q (List.mem_of_getElem? h2)
  obtain ⟨v, hv, hv1⟩ := quadValid_ok q (ilen l)
  rw [hq] at hv
  cases hv
  obtain ⟨m1, m2, m3, m4, m5, m6, m7, m8, m9, m10⟩ := hv1 rfl
  obtain ⟨b, hb, hb2⟩ := idx_ok r k h0 (by omega)
  rw [hasTarget_val, if_or]
  simp only [bind_some']
  by_cases ht : (ieq q.Op 4 || ieq q.Op 5) = true
  · have ht' : q.Op = 4 ∨ q.Op = 5 := by simpa [ieq_iff] using ht
    obtain ⟨t1, t2⟩ := quadTo q _ hq ht'
    unfold ilen at t2
    obtain ⟨a, ha, ha2⟩ := idx_ok r q.N t1 (by omega)
    have a1 := hr2 a ha2
    have b1 := hr2 b hb2
    have e : imul .i64 4 (isub .i64 a b) = 4 * (a - b) := by rw [isub_eq _ _ (by omega), imul_eq _ _ (by omega)]
    obtain ⟨x, k1, k2, k3⟩ := quad_eq q c (4 * (a - b)) hc (by omega) ⟨m1, m2⟩ m3 m5 m7 m9 m10
    refine ⟨4 * (a - b), x, ?_, ?_, k1, k2, k3.2.1⟩
    · rw [if_pos ht, hb, bind_some', ha, bind_some', e]
    · rw [if_pos ht, ha, bind_some', hb, bind_some', e]
  · obtain ⟨x, k1, k2, k3⟩ := quad_eq q c 0 hc (by omega) ⟨m1, m2⟩ m3 m5 m7 m9 m10
    exact ⟨0, x, by rw [if_neg ht], by rw [if_neg ht], k1, k2, k3.2.1⟩
theorem task_loop (l : List gQuad) (c : Int) (r : List Int) (hc : 1 ≤ c ∧ c ≤ 8) (hl : l.length ≤ 600) (h : ∀ q ∈ l, s_QuadValid q (ilen l) = some true) (hr : r.length = l.length) (hr2 : ∀ x ∈ r, 0 ≤ x ∧ x ≤ 3000) :
    ∃ o, loopM (i_TaskInstrs_L1 l c r) (0, ([] : List gInstr)) = some o ∧ loopM (s_l43Task_L1 l c r) (0, ([] : List gInstr)) = some o ∧ o.length ≤ 3000 := by
  have heq : i_TaskInstrs_L1 l c r = s_l43Task_L1 l c r := by
    funext s
    obtain ⟨k, o⟩ := s
    unfold i_TaskInstrs_L1 s_l43Task_L1
    dsimp only
    split
    · cases hi : idx l k with
      | none => rfl
      | some q =>
        obtain ⟨off, x, e1, e2, e3, e4, _⟩ := step_off l c r hc hl h hr hr2 k q hi
        simp only [bind_some', e1, e2, e3, e4]
    · rfl
  rw [heq]
  obtain ⟨o, ho, ho2⟩ := loopM_rule (step := s_l43Task_L1 l c r) (s := ((0 : Int), ([] : List gInstr))) (fun s => ∃ k : Nat, k ≤ l.length ∧ s.1 = (k : Int) ∧ s.2.length ≤ 5 * k) (fun s => l.length - s.1.toNat) (fun o => o.length ≤ 3000) ⟨0, by omega, rfl, by simp⟩ (by
    rintro ⟨k', o⟩ ⟨k, hk, h1, h2⟩
    simp only at h1 h2
    subst h1
    unfold s_l43Task_L1
    dsimp only
    by_cases hlt : k < l.length
    · rw [if_pos (by rw [ilt_iff]; unfold ilen; omega), idx_at (List.getElem?_eq_getElem hlt)]
      obtain ⟨off, x, e1, e2, e3, e4, e5⟩ := step_off l c r hc hl h hr hr2 k l[k] (idx_at (List.getElem?_eq_getElem hlt))
      have e6 : iadd .i64 (k : Int) 1 = ((k + 1 : Nat) : Int) := by rw [iadd_eq _ _ (by omega)]; rfl
      simp only [bind_some', e2, e4]
      rw [appx_ok 40 _ _ (by unfold maxLen; omega), bind_some', e6]
      exact .inl ⟨_, rfl, ⟨k + 1, by omega, rfl, by simp; omega⟩, by simp only []; omega⟩
    · rw [if_neg (by rw [ilt_iff]; unfold ilen; omega)]
      exact .inr ⟨_, rfl, by omega⟩)
  exact ⟨o, ho, ho, ho2⟩
theorem taskInstrs_eq (l : List gQuad) (c : Int) : ∃ r, i_TaskInstrs l c = some r ∧ s_TaskInstrs l c = some r ∧ r.1.length ≤ 3000 := by
  have hn : i_TaskPlaces_n = i_TaskPlaces := rfl
  obtain ⟨v, hv, hv1⟩ := codeValid_ok l
  unfold i_TaskInstrs s_TaskInstrs
  rw [hn, hv]
  simp only [s_l6In, bind_id, if_and, if_or, bind_some']
  by_cases hg : v = true ∧ 1 ≤ c ∧ c ≤ 8
  · obtain ⟨rfl, g1, g2⟩ := hg
    obtain ⟨a1, a2, a3⟩ := hv1 rfl
    have e1 : (bnot true || ilt c 1 || igt c 8) = false := by rw [Bool.eq_false_iff]; simp [bnot, ilt, igt]; omega
    have e2 : (bnot true || bnot (ige c 1 && ile c 8)) = false := by rw [Bool.eq_false_iff]; simp [bnot, ige, ile]; omega
    obtain ⟨r, hr, hr2, hr3⟩ := places_ok2 l c ⟨g1, g2⟩ a2 a3
    have hp : i_TaskPlaces l c = some r := by
      unfold i_TaskPlaces
      rw [codeValid_eq, hv]
      simp only [bind_id, if_or, bind_some']
      rw [e1, if_neg (by decide), places_eq l c ⟨g1, g2⟩ a2 a3, hr]
    obtain ⟨o, o1, o2, o3⟩ := task_loop l c r ⟨g1, g2⟩ a2 a3 hr2 hr3
    have hne : ¬ List.isEmpty r = true := by cases r with | nil => simp at hr2; omega | cons x r => simp
    rw [hp, bind_some', if_neg hne, o1, e2, if_neg (by decide)]
    unfold s_l43Task s_l43Places
    rw [hr]
    simp only [bind_some', o2]
    exact ⟨_, rfl, rfl, o3⟩
  · have e1 : (bnot v || ilt c 1 || igt c 8) = true := by
      cases v
      · simp [bnot]
      · simp [bnot, ilt, igt]; simp at hg; omega
    have e2 : (bnot v || bnot (ige c 1 && ile c 8)) = true := by
      cases v
      · simp [bnot]
      · simp [bnot, ige, ile]; simp at hg; omega
    have hp : i_TaskPlaces l c = some [] := by
      unfold i_TaskPlaces
      rw [codeValid_eq, hv]
      simp only [bind_id, if_or, bind_some']
      rw [e1, if_pos rfl]
    rw [hp, e2]
    exact ⟨([], false), rfl, rfl, by simp⟩

theorem fnExactTaskInstrs_true (l : List gQuad) (c : Int) (hl : l.length ≤ maxLen) : l_FnExactTaskInstrs l c = some true := by
  unfold l_FnExactTaskInstrs l_szQuadS
  have hs : isub .i64 1048576 (ilen l) = 1048576 - (l.length : Int) := isub_eq _ _ (by unfold ilen; unfold maxLen at hl; omega)
  rw [hs]
  by_cases hb : l.length ≤ 1048576
  · rw [if_neg (by rw [ilt_iff]; omega)]
    obtain ⟨r, h1, h2, h3⟩ := taskInstrs_eq l c
    have ho : i_TaskInstrs_o l c = some r := (show i_TaskInstrs_o l c = i_TaskInstrs l c from rfl).trans h1
    have hm := markInstrS_val r.1 (by omega)
    have hh := heldInstrS_val r.1.length (by omega)
    have z : ∀ a : Int, ine a a = false := by intro a; simp [ine]
    have zb : ∀ a : Bool, bneb a a = false := by intro a; simp [bneb]
    have n1 : ilt (1 + 5 * (r.1.length : Int)) 0 = false := by rw [Bool.eq_false_iff, ne_eq, ilt_iff]; omega
    have n2 : ilt (1 + 5 * (l.length : Int)) 0 = false := by rw [Bool.eq_false_iff, ne_eq, ilt_iff]; omega
    have n3 : ilt (1048576 - (l.length : Int)) 0 = false := by rw [Bool.eq_false_iff, ne_eq, ilt_iff]; omega
    simp only [bind_some', n3, l_toQuadS_o_eq, ho, toQuadS_id l (by omega), h1, h2, eqInstrS_refl r.1 (by omega), eqQuadS_refl l (by omega), markQuadS_val l (by omega), hm, hh, z, zb, n1, n2, show bnot true = false from rfl, Bool.false_eq_true, if_false]
  · rw [if_pos (by rw [ilt_iff]; omega), bind_some', if_pos (by rfl)]
end Go.Abs
