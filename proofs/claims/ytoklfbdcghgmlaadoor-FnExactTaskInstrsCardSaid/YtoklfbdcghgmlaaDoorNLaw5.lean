/- laws.FnQuadCall's mirror: true for each code. -/
import Derived.Test.YtoklfbdcghgmlaaDoorNQuadEq2
set_option linter.unusedSimpArgs false
set_option linter.unusedVariables false
set_option maxHeartbeats 8000000
namespace Go.Abs
open Go

theorem remx4 (n : Int) : ∃ t, remx n 4 = some t := ⟨_, by unfold remx; rw [if_neg (by omega)]⟩
/-- what QuadInstrs gives for good arguments -/
def QGood (q : gQuad) (off : Int) : Prop := s_QuadValid q 600 = some true ∧ -100000 ≤ off ∧ off ≤ 100000 ∧ remx off 4 = some 0
def QList (q : gQuad) (c off : Int) (l : List gInstr) : Prop :=
  i_quadInstrs q c off = some l ∧ s_l43Quad q c off = some l ∧ (calls l = if 6 ≤ q.Op then [⟨15, 1, 0, 0, 0⟩] else []) ∧ l.length ≤ 5 ∧ l.length = qlen q c ∧ ((ilt q.Dst c && ilt q.A c && ilt q.B c) = true → noMem l = true)
theorem quadInstrs_good {q : gQuad} {off : Int} (h : QGood q off) {c : Int} (hc : 1 ≤ c ∧ c ≤ 8) : ∃ l, i_QuadInstrs q c off = some (l, true) ∧ s_QuadInstrs q c off = some (l, true) ∧ QList q c off l := by
  obtain ⟨v, hv, hv1⟩ := quadValid_ok q 600
  obtain ⟨k1, k2, k3, k4⟩ := h
  rw [k1] at hv
  cases hv
  unfold i_QuadInstrs s_QuadInstrs
  rw [quadValid_eq, k1]
  simp only [s_l6In, bind_id, if_and, if_or, bind_some', k4]
  have e1 : (bnot true || ilt c 1 || igt c 8 || ine 0 0 || ilt off (-100000) || igt off 100000) = false := by
    rw [Bool.eq_false_iff]; simp [bnot, ilt, igt, ine]; omega
  have e2 : (bnot true || bnot (ige c 1 && ile c 8) || bnot (ige off (-100000) && ile off 100000) || ine 0 0) = false := by
    rw [Bool.eq_false_iff]; simp [bnot, ige, ile, ine]; omega
  rw [e1, e2]
  obtain ⟨h1, h2, h3, h4, h5, h6, h7, h8, h9, h10⟩ := hv1 rfl
  obtain ⟨l, m1, m2, m3⟩ := quad_eq q c off hc ⟨k2, k3⟩ ⟨h1, h2⟩ h3 h5 h7 h9 h10
  simp only [Bool.false_eq_true, if_false, m1, m2, bind_some']
  exact ⟨l, rfl, rfl, m1, m2, m3⟩
theorem quadInstrs_eq (q : gQuad) (c off : Int) : (∃ l, QGood q off ∧ (1 ≤ c ∧ c ≤ 8) ∧ i_QuadInstrs q c off = some (l, true) ∧ s_QuadInstrs q c off = some (l, true) ∧ QList q c off l) ∨
    (i_QuadInstrs q c off = some ([], false) ∧ s_QuadInstrs q c off = some ([], false)) := by
  obtain ⟨v, hv, hv1⟩ := quadValid_ok q 600
  obtain ⟨t, ht⟩ := remx4 off
  by_cases hg : v = true ∧ 1 ≤ c ∧ c ≤ 8 ∧ -100000 ≤ off ∧ off ≤ 100000 ∧ t = 0
  · obtain ⟨rfl, g1, g2, g3, g4, rfl⟩ := hg
    have hq : QGood q off := ⟨hv, g3, g4, ht⟩
    obtain ⟨l, a, b, d⟩ := quadInstrs_good hq ⟨g1, g2⟩
    exact .inl ⟨l, hq, ⟨g1, g2⟩, a, b, d⟩
  · right
    unfold i_QuadInstrs s_QuadInstrs
    rw [quadValid_eq, hv]
    simp only [s_l6In, bind_id, if_and, if_or, bind_some', ht]
    have e1 : (bnot v || ilt c 1 || igt c 8 || ine t 0 || ilt off (-100000) || igt off 100000) = true := by
      cases v
      · simp [bnot]
      · simp [bnot, ilt, igt, ine]; simp at hg; omega
    have e2 : (bnot v || bnot (ige c 1 && ile c 8) || bnot (ige off (-100000) && ile off 100000) || ine t 0) = true := by
      cases v
      · simp [bnot]
      · simp [bnot, ige, ile, ine]; simp at hg; omega
    rw [e1, e2]
    exact ⟨rfl, rfl⟩

theorem sameInstrs_refl (l : List gInstr) (hl : l.length ≤ 1000000) : l_sameInstrs l l = some true := by
  unfold l_sameInstrs
  rw [if_neg (by simp [ine])]
  obtain ⟨e, he, hd⟩ := loopM_rule (step := l_sameInstrs_L1 l l) (s := 0) (fun s => 0 ≤ s ∧ s ≤ l.length) (fun s => l.length - s.toNat) (fun e => e = .inl ()) ⟨by omega, by omega⟩ (by
    rintro s ⟨h0, h1⟩
    unfold l_sameInstrs_L1
    by_cases h : s < l.length
    · left
      dsimp only
      rw [if_pos (by rw [ilt_iff]; exact h)]
      obtain ⟨v, hv, _⟩ := idx_ok l s h0 h
      simp only [hv, bind_some']
      rw [if_neg (by simp [bnot, eqD])]
      refine ⟨_, rfl, ?_, ?_⟩
      · rw [iadd_eq _ _ (by omega)]; omega
      · rw [iadd_eq _ _ (by omega)]; omega
    · right
      dsimp only
      rw [if_neg (by rw [ilt_iff]; exact h)]
      exact ⟨_, rfl, rfl⟩)
  rw [he, hd]; rfl

theorem calls_take (l : List gInstr) (k : Nat) (x : gInstr) (h : l[k]? = some x) : calls (l.take (k + 1)) = calls (l.take k) ++ (if x.Op == 15 then [x] else []) := by
  unfold calls
  rw [List.take_add_one, h, List.filter_append]
  simp [List.filter_cons]

theorem quadCall_loop (l : List gInstr) (b : Bool) (q : gQuad) (j : gInstr) (hj : j = ⟨15, 1, 0, 0, 0⟩) (hc : calls l = [j] ∨ calls l = []) (hl : l.length ≤ 1000000) :
    loopM (l_FnQuadCall_L1 (l, b)) (0, 0, q) = some (.inl ((calls l).length, q)) := by
  have hall : ∀ x ∈ l, x.Op = 15 → x = j := by
    intro x hx h
    have : x ∈ calls l := by unfold calls; rw [List.mem_filter]; exact ⟨hx, by simpa using h⟩
    rcases hc with hc | hc <;> rw [hc] at this <;> simp at this <;> exact this
  have hlen : (calls l).length ≤ 1 := by rcases hc with hc | hc <;> rw [hc] <;> simp
  obtain ⟨e, he, hd⟩ := loopM_rule (step := l_FnQuadCall_L1 (l, b)) (s := (0, 0, q)) (fun s => ∃ k : Nat, k ≤ l.length ∧ s = (((calls (l.take k)).length : Int), (k : Int), q)) (fun s => l.length - s.2.1.toNat) (fun e => e = .inl (((calls l).length : Int), q)) ⟨0, by omega, by simp [calls]⟩ (by
    rintro s ⟨k, hk, rfl⟩
    unfold l_FnQuadCall_L1
    have hkl : (calls (l.take k)).length ≤ 1000000 := by
      have := List.length_filter_le (fun i : gInstr => i.Op == 15) (l.take k)
      simp at this; unfold calls; omega
    by_cases h : k < l.length
    · left
      dsimp only
      rw [if_pos (by rw [ilt_iff]; simp [ilen]; exact h)]
      have hx : l[k]? = some l[k] := List.getElem?_eq_getElem h
      have hi : idx l (k : Int) = some l[k] := by rw [idx_nat, hx]
      have ht := calls_take l k _ hx
      simp only [hi, bind_some']
      by_cases h15 : l[k].Op = 15
      · rw [if_pos (by rw [ieq_iff]; exact h15)]
        have := hall _ (List.getElem_mem h) h15
        rw [if_neg (by rw [this, hj]; simp [bnot, eqD])]
        refine ⟨_, rfl, ⟨k + 1, by omega, ?_⟩, ?_⟩
        · rw [ht]; simp [h15]; rw [iadd_eq _ _ (by omega), iadd_eq _ _ (by omega)]; simp
        · simp only; rw [iadd_eq _ _ (by omega)]; omega
      · rw [if_neg (by rw [ieq_iff]; exact h15)]
        refine ⟨_, rfl, ⟨k + 1, by omega, ?_⟩, ?_⟩
        · rw [ht]; simp [h15]; rw [iadd_eq _ _ (by omega)]
        · simp only; rw [iadd_eq _ _ (by omega)]; omega
    · right
      dsimp only
      rw [if_neg (by rw [ilt_iff]; simp [ilen]; omega)]
      have : k = l.length := by omega
      subst this
      exact ⟨_, rfl, by simp⟩)
  rw [he, hd]

theorem fnQuadCall_true (l : List Int) (hb : Bytes l) : l_FnQuadCall l = some true := by
  unfold l_FnQuadCall
  split
  · rfl
  rename_i h
  rw [igt_iff] at h
  obtain ⟨r1, h1, _⟩ := drawQuadInstrs_ok hb (by unfold ilen at h; omega)
  rw [h1, bind_some']
  rcases quadInstrs_eq r1.1 r1.2.1 r1.2.2 with ⟨x, hg, hc, k1, k2, g2, g3, g6, g7, g8, g9⟩ | ⟨k1, k2⟩
  · rw [k1, k2]
    have hl : x.length ≤ 1000000 := by omega
    have hs := sameInstrs_refl x hl
    have hq := quadCall_loop x true r1.1 _ rfl (by rw [g6]; split <;> simp) hl
    simp only [bind_some', hs, bneb, beqb, bnot, beq_self_eq_true, Bool.not_true, Bool.false_eq_true, if_false, if_true, hq]
    rw [g6]
    by_cases h6 : 6 ≤ r1.1.Op
    · rw [if_pos h6, if_pos (by rw [ige_iff]; exact h6)]; rfl
    · rw [if_neg h6, if_neg (by rw [ige_iff]; exact h6)]; rfl
  · rw [k1, k2]
    have := sameInstrs_refl [] (by simp)
    simp [bneb, beqb, bnot, this]
end Go.Abs
