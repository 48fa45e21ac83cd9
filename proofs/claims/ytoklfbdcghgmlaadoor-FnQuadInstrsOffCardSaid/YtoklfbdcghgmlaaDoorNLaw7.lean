/- laws.FnQuadInstrsOff's mirror: true for each code. -/
import Derived.Test.YtoklfbdcghgmlaaDoorNLawE4
set_option linter.unusedSimpArgs false
set_option linter.unusedVariables false
set_option maxHeartbeats 8000000
namespace Go.Abs
open Go

theorem quad_same (q : gQuad) (c off off' : Int) (h4 : q.Op ≠ 4) (h5 : q.Op ≠ 5) : s_l43Quad q c off = s_l43Quad q c off' := by
  unfold s_l43Quad
  simp [ieq, h4, h5]
theorem quad_jump (q : gQuad) (c off : Int) (hc : 1 ≤ c ∧ c ≤ 8) (ho : -100000 ≤ off ∧ off ≤ 100000) (hd : 0 ≤ q.Dst) (ha : 0 ≤ q.A) (h : q.Op = 4 ∨ q.Op = 5) :
    ∃ (p : List gInstr) (m : Int), 0 ≤ m ∧ m ≤ 10 ∧ s_l43Quad q c off = some (p ++ [⟨20, 0, 0, 0, off - m⟩]) ∧ s_l43Quad q c 0 = some (p ++ [⟨20, 0, 0, 0, -m⟩]) := by
  obtain ⟨rd, hrd, hd1, hd2⟩ := reg_val q.Dst c 7 (by omega)
  obtain ⟨ra, hra, ha1, ha2⟩ := reg_val q.A c 5 (by omega)
  unfold s_l43Quad
  simp only [hrd, bind_some', ieq]
  rcases h with h | h
  · exact ⟨[], 0, by omega, by omega, by simp [h], by simp [h]⟩
  · simp only [h, s_l43Zero, s_l43Read_o]
    have f1 : ∀ x : Int, -100000 ≤ x ∧ x ≤ 100000 → isub .i64 x (imul .i64 4 1) = x - 4 := fun x hx => by rw [imul_eq _ _ (by omega), isub_eq _ _ (by omega)]; omega
    have f2 : ∀ x : Int, -100000 ≤ x ∧ x ≤ 100000 → isub .i64 x (imul .i64 4 2) = x - 8 := fun x hx => by rw [imul_eq _ _ (by omega), isub_eq _ _ (by omega)]; omega
    cases hA : ilt q.A c <;> first | (have := ha2 hA; subst this) | (have k2 := ha1 hA)
    · refine ⟨[⟨14, 5, 2, 0, imul .i64 4 (isub .i64 q.A c)⟩, ⟨18, 0, 5, 0, 8⟩], 8, by omega, by omega, ?_, ?_⟩
      · simp [appx_s, ilen, hra, f2, ho]
      · simp [appx_s, ilen, hra, f2]
    · refine ⟨[⟨18, 0, ra, 0, 8⟩], 4, by omega, by omega, ?_, ?_⟩
      · simp [appx_s, ilen, hra, f1, ho]
      · simp [appx_s, ilen, hra, f1]

theorem fnQuadInstrsOff_true (l : List Int) (hb : Bytes l) : l_FnQuadInstrsOff l = some true := by
  unfold l_FnQuadInstrsOff
  split
  · rfl
  rename_i h
  rw [igt_iff] at h
  obtain ⟨r1, h1, _⟩ := drawQuadInstrs_ok hb (by unfold ilen at h; omega)
  rw [h1, bind_some', i_QuadInstrs_o_eq]
  rcases quadInstrs_eq r1.1 r1.2.1 r1.2.2 with ⟨x, hg, hc, k1, k2, g2, g3, g6, g7, g8, g9⟩ | ⟨k1, k2⟩
  · rw [k1, k2]
    have hs := sameInstrs_refl x (by omega)
    obtain ⟨v, hv, hv1⟩ := quadValid_ok r1.1 600
    obtain ⟨e1, e2, e3, e4⟩ := hg
    rw [e1] at hv
    cases hv
    obtain ⟨m1, m2, m3, m4, m5, m6, m7, m8, m9, m10⟩ := hv1 rfl
    obtain ⟨x0, y1, y2, z1, z2, z3, z4, z5, z6⟩ := quadInstrs_good (q := r1.1) (off := 0) ⟨e1, by omega, by omega, by decide⟩ hc
    simp only [bind_some', hs, bneb, beqb, bnot, beq_self_eq_true, Bool.not_true, Bool.false_eq_true, if_false, if_true, y1]
    by_cases h45 : r1.1.Op = 4 ∨ r1.1.Op = 5
    · obtain ⟨p, m, n1, n2, n3, n4⟩ := quad_jump r1.1 r1.2.1 r1.2.2 hc ⟨e2, e3⟩ m3 m5 h45
      rw [g3] at n3
      rw [z2] at n4
      cases n3
      cases n4
      have hj : (if ine r1.1.Op 4 = true then some (ine r1.1.Op 5) else some false) = some false := by
        rcases h45 with h | h <;> rw [h] <;> decide
      have hp : p.length ≤ 4 := by simp at g7; omega
      have hn : isub .i64 (ilen (p ++ [(⟨20, 0, 0, 0, r1.2.2 - m⟩ : gInstr)])) 1 = ((p.length : Nat) : Int) := by
        rw [isub_eq _ _ (by simp [ilen]; omega)]; simp [ilen]
      have hm : iadd .i64 (-m) r1.2.2 = r1.2.2 - m := by rw [iadd_eq _ _ (by omega)]; omega
      simp only [hj, bind_some', hn, idx_cat p [] _ p.length rfl, setx_cat p [] _ _ p.length rfl, hm, hs, Bool.false_eq_true, if_false, ieq, beq_self_eq_true, if_true]
    · have hj : (if ine r1.1.Op 4 = true then some (ine r1.1.Op 5) else some false) = some true := by
        have a : ine r1.1.Op 4 = true := by rw [ine_iff]; omega
        have b : ine r1.1.Op 5 = true := by rw [ine_iff]; omega
        rw [a, b]; rfl
      have := quad_same r1.1 r1.2.1 0 r1.2.2 (by omega) (by omega)
      rw [z2, g3] at this
      cases this
      simp only [hj, bind_some', hs, if_true]
  · rw [k1, k2]
    have := sameInstrs_refl [] (by simp)
    simp [bneb, beqb, bnot, this]
end Go.Abs
