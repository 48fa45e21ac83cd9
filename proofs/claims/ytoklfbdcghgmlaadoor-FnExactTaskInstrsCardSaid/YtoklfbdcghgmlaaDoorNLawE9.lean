/- laws.FnExactTaskPlaces' mirror: true for each code. -/
import Derived.Test.YtoklfbdcghgmlaaDoorNQuadEq2
import Derived.Test.YtoklfbdcghgmlaaDoorNUp
set_option linter.unusedSimpArgs false
set_option linter.unusedVariables false
set_option maxHeartbeats 8000000
namespace Go.Abs
open Go

theorem i_TaskPlaces_o_eq : i_TaskPlaces_o = i_TaskPlaces := rfl
theorem l_toQuadS_o_eq : l_toQuadS_o = l_toQuadS := rfl

theorem codeValid_eq (l : List gQuad) : i_CodeValid l = s_CodeValid l := by
  have hL : i_CodeValid_L1 l = s_CodeValid_L1 l := by
    funext s
    unfold i_CodeValid_L1 s_CodeValid_L1
    simp only [quadValid_eq]
  unfold i_CodeValid s_CodeValid
  simp only [hL, s_l6In, bind_id, if_and, if_or, bind_some']
  have e : (ilt (ilen l) 1 || igt (ilen l) 600) = bnot (ige (ilen l) 1 && ile (ilen l) 600) := by
    rw [Bool.eq_iff_iff]; simp [ilt, igt, ige, ile, bnot]
  rw [e]

theorem codeValid_ok (l : List gQuad) : ∃ v, s_CodeValid l = some v ∧ (v = true → 1 ≤ l.length ∧ l.length ≤ 600 ∧ ∀ q ∈ l, s_QuadValid q (ilen l) = some true) := by
  unfold s_CodeValid
  simp only [s_l6In, bind_id, if_and, bind_some']
  by_cases h : 1 ≤ l.length ∧ l.length ≤ 600
  · have e : bnot (ige (ilen l) 1 && ile (ilen l) 600) = false := by
      have a : (ige (ilen l) 1 && ile (ilen l) 600) = true := by
        have a : ilen l = (l.length : Int) := rfl
        rw [Bool.and_eq_true, ige_iff, ile_iff]; omega
      rw [a]; rfl
    rw [e, if_neg (by simp)]
    obtain ⟨e, he, hd⟩ := loopM_rule (step := s_CodeValid_L1 l) (s := (0 : Int)) (fun s => ∃ k : Nat, k ≤ l.length ∧ s = (k : Int) ∧ ∀ q ∈ l.take k, s_QuadValid q (ilen l) = some true) (fun s => l.length - s.toNat)
      (fun e => e = .inr false ∨ (e = .inl () ∧ ∀ q ∈ l, s_QuadValid q (ilen l) = some true)) ⟨0, by omega, rfl, by simp⟩ (by
      rintro s ⟨k, hk, rfl, hall⟩
      unfold s_CodeValid_L1
      dsimp only
      by_cases hlt : k < l.length
      · rw [if_pos (by rw [ilt_iff]; unfold ilen; omega), idx_at (List.getElem?_eq_getElem hlt)]
        obtain ⟨v, hv, _⟩ := quadValid_ok l[k] (ilen l)
        simp only [bind_some', hv]
        cases v with
        | false => right; exact ⟨_, rfl, .inl rfl⟩
        | true =>
          left
          refine ⟨_, rfl, ⟨k + 1, by omega, by rw [iadd_eq _ _ (by omega)]; rfl, ?_⟩, ?_⟩
          · intro q hq
            rw [List.take_add_one, List.getElem?_eq_getElem hlt] at hq
            rcases List.mem_append.1 hq with hq | hq
            · exact hall q hq
            · simp at hq; subst hq; exact hv
          · rw [iadd_eq _ _ (by omega)]; omega
      · right
        rw [if_neg (by rw [ilt_iff]; unfold ilen; omega)]
        have : k = l.length := by omega
        subst this
        exact ⟨_, rfl, .inr ⟨rfl, by simpa using hall⟩⟩)
    rw [he]
    rcases hd with rfl | ⟨rfl, hall⟩
    · exact ⟨false, rfl, fun h => by cases h⟩
    · have hi : isub .i64 (ilen l) 1 = ((l.length - 1 : Nat) : Int) := by rw [isub_eq _ _ (by unfold ilen; omega)]; unfold ilen; omega
      simp only [bind_some', hi, idx_at (List.getElem?_eq_getElem (show l.length - 1 < l.length by omega)), if_or]
      exact ⟨_, rfl, fun _ => ⟨h.1, h.2, hall⟩⟩
  · have e : bnot (ige (ilen l) 1 && ile (ilen l) 600) = true := by
      have a : (ige (ilen l) 1 && ile (ilen l) 600) = false := by
        have a : ilen l = (l.length : Int) := rfl
        rw [Bool.eq_false_iff, ne_eq, Bool.and_eq_true, ige_iff, ile_iff]; omega
      rw [a]; rfl
    rw [e, if_pos rfl]
    exact ⟨false, rfl, fun h => by cases h⟩

theorem quad0 (q : gQuad) (c n : Int) (hc : 1 ≤ c ∧ c ≤ 8) (hn : 0 ≤ n ∧ n ≤ 600) (h : s_QuadValid q n = some true) : ∃ l, i_quadInstrs q c 0 = some l ∧ s_l43Quad q c 0 = some l ∧ l.length ≤ 5 := by
  obtain ⟨v, hv, hv1⟩ := quadValid_ok q n
  rw [h] at hv
  cases hv
  obtain ⟨m1, m2, m3, m4, m5, m6, m7, m8, m9, m10⟩ := hv1 rfl
  obtain ⟨l, k1, k2, k3⟩ := quad_eq q c 0 hc (by omega) ⟨m1, m2⟩ m3 m5 m7 m9 m10
  exact ⟨l, k1, k2, k3.2.1⟩

theorem places_eq (l : List gQuad) (c : Int) (hc : 1 ≤ c ∧ c ≤ 8) (hl : l.length ≤ 600) (h : ∀ q ∈ l, s_QuadValid q (ilen l) = some true) : i_TaskPlaces_L1 l c = s_l43Places_L1 l c := by
  funext s
  obtain ⟨a, k, o⟩ := s
  unfold i_TaskPlaces_L1 s_l43Places_L1
  dsimp only
  split
  · cases hi : idx l k with
    | none => cases appx 8 o [a] <;> rfl
    | some q =>
      have hq : q ∈ l := List.mem_of_getElem? (idx_lt3 hi).2.2
      obtain ⟨x, h1, h2, _⟩ := quad0 q c (ilen l) hc (by unfold ilen; omega) (h q hq)
      simp only [bind_some', h1, h2]
  · rfl
theorem places_ok (l : List gQuad) (c : Int) (hc : 1 ≤ c ∧ c ≤ 8) (hl : l.length ≤ 600) (h : ∀ q ∈ l, s_QuadValid q (ilen l) = some true) : ∃ r, loopM (s_l43Places_L1 l c) (0, 0, ([] : List Int)) = some r ∧ r.length = l.length := by
  refine loopM_rule (step := s_l43Places_L1 l c) (fun s => ∃ k : Nat, k ≤ l.length ∧ s.2.1 = (k : Int) ∧ s.2.2.length = k ∧ 0 ≤ s.1 ∧ s.1 ≤ 5 * k) (fun s => l.length - s.2.1.toNat) (fun r => r.length = l.length) ⟨0, by omega, rfl, rfl, by simp, by simp⟩ ?_
  rintro ⟨a, k', o⟩ ⟨k, hk, h1, h2, h3, h4⟩
  simp only at h1 h2 h3 h4
  subst h1
  unfold s_l43Places_L1
  dsimp only
  by_cases hlt : k < l.length
  · left
    rw [if_pos (by rw [ilt_iff]; unfold ilen; omega), appx_ok 8 o [a] (by simp; unfold maxLen; omega), idx_at (List.getElem?_eq_getElem hlt)]
    obtain ⟨x, _, k2, k3⟩ := quad0 l[k] c (ilen l) hc (by unfold ilen; omega) (h _ (List.getElem_mem hlt))
    simp only [bind_some', k2]
    have e1 : iadd .i64 a (ilen x) = a + x.length := by rw [iadd_eq _ _ (by unfold ilen; omega)]; rfl
    have e2 : iadd .i64 (k : Int) 1 = ((k + 1 : Nat) : Int) := by rw [iadd_eq _ _ (by omega)]; rfl
    refine ⟨_, rfl, ⟨k + 1, by omega, e2, by simp [h2], by rw [e1]; omega, by rw [e1]; omega⟩, by simp only [e2]; omega⟩
  · right
    rw [if_neg (by rw [ilt_iff]; unfold ilen; omega)]
    exact ⟨_, rfl, by omega⟩

theorem taskPlaces_eq (l : List gQuad) (c : Int) : ∃ r, i_TaskPlaces l c = some r ∧ s_TaskPlaces l c = some r ∧ r.length ≤ 600 := by
  obtain ⟨v, hv, hv1⟩ := codeValid_ok l
  unfold i_TaskPlaces s_TaskPlaces
  rw [codeValid_eq, hv]
  simp only [s_l6In, bind_id, if_and, if_or, bind_some']
  by_cases hg : v = true ∧ 1 ≤ c ∧ c ≤ 8
  · obtain ⟨rfl, g1, g2⟩ := hg
    obtain ⟨a1, a2, a3⟩ := hv1 rfl
    have e1 : (bnot true || ilt c 1 || igt c 8) = false := by rw [Bool.eq_false_iff]; simp [bnot, ilt, igt]; omega
    have e2 : (bnot true || bnot (ige c 1 && ile c 8)) = false := by rw [Bool.eq_false_iff]; simp [bnot, ige, ile]; omega
    obtain ⟨r, hr, hr2⟩ := places_ok l c ⟨g1, g2⟩ a2 a3
    rw [e1, e2]
    simp only [Bool.false_eq_true, if_false, s_l43Places, places_eq l c ⟨g1, g2⟩ a2 a3, hr, bind_some']
    exact ⟨r, rfl, rfl, by omega⟩
  · have e1 : (bnot v || ilt c 1 || igt c 8) = true := by
      cases v
      · simp [bnot]
      · simp [bnot, ilt, igt]; simp at hg; omega
    have e2 : (bnot v || bnot (ige c 1 && ile c 8)) = true := by
      cases v
      · simp [bnot]
      · simp [bnot, ige, ile]; simp at hg; omega
    rw [e1, e2]
    exact ⟨[], rfl, rfl, by simp⟩

/-! equal, marked, held -/
theorem eqIntS_refl (l : List Int) (hl : l.length ≤ 2000000) : l_eqIntS l l = some true := by
  unfold l_eqIntS
  rw [if_neg (by simp [ine])]
  have := up_loop (step := l_eqIntS_L1 l l) (s0 := (0 : Int)) l.length (fun k => (k : Int)) (.inl ()) rfl (fun k hk => ?_) ?_
  · rw [this]; rfl
  · unfold l_eqIntS_L1
    dsimp only
    rw [if_pos (by rw [ilt_iff]; unfold ilen; omega), idx_at (List.getElem?_eq_getElem hk)]
    simp only [bind_some']
    rw [if_neg (by simp [ine]), iadd_eq _ _ (by omega)]
    rfl
  · unfold l_eqIntS_L1
    dsimp only
    rw [if_neg (by rw [ilt_iff]; unfold ilen; omega)]
theorem eqQuad_refl (x : gQuad) : l_eqQuad x x = some true := by
  unfold l_eqQuad; simp [ine]
theorem eqQuadS_refl (l : List gQuad) (hl : l.length ≤ 2000000) : l_eqQuadS l l = some true := by
  unfold l_eqQuadS
  rw [if_neg (by simp [ine])]
  have := up_loop (step := l_eqQuadS_L1 l l) (s0 := (0 : Int)) l.length (fun k => (k : Int)) (.inl ()) rfl (fun k hk => ?_) ?_
  · rw [this]; rfl
  · unfold l_eqQuadS_L1
    dsimp only
    rw [if_pos (by rw [ilt_iff]; unfold ilen; omega), idx_at (List.getElem?_eq_getElem hk)]
    simp only [bind_some', eqQuad_refl]
    rw [show bnot true = false from rfl, if_neg (by decide), iadd_eq _ _ (by omega)]
    rfl
  · unfold l_eqQuadS_L1
    dsimp only
    rw [if_neg (by rw [ilt_iff]; unfold ilen; omega)]
theorem toQuadS_id (l : List gQuad) (hl : l.length ≤ 2000000) : l_toQuadS l = some l := by
  unfold l_toQuadS
  have hm : makex 40 (ilen l) (⟨0, 0, 0, 0, 0⟩ : gQuad) = some (List.replicate l.length ⟨0, 0, 0, 0, 0⟩) := by
    unfold makex ilen
    rw [if_pos (by simp; unfold maxLen; omega)]
    simp
  rw [hm, bind_some']
  have := up_loop (step := l_toQuadS_L1 l) (s0 := ((0 : Int), List.replicate l.length (⟨0, 0, 0, 0, 0⟩ : gQuad))) l.length (fun k => ((k : Int), l.take k ++ List.replicate (l.length - k) ⟨0, 0, 0, 0, 0⟩)) l (by simp) (fun k hk => ?_) ?_
  · rw [this]; rfl
  · unfold l_toQuadS_L1 l_toQuad
    dsimp only
    have hr : List.replicate (l.length - k) (⟨0, 0, 0, 0, 0⟩ : gQuad) = ⟨0, 0, 0, 0, 0⟩ :: List.replicate (l.length - (k + 1)) ⟨0, 0, 0, 0, 0⟩ := by
      rw [show l.length - k = (l.length - (k + 1)) + 1 by omega, List.replicate_succ]
    have ht : (l.take k).length = k := by simp; omega
    rw [if_pos (by rw [ilt_iff]; unfold ilen; omega), idx_at (List.getElem?_eq_getElem hk), hr]
    simp only [bind_some', idx_cat _ _ _ k ht, setx_cat _ _ _ _ k ht]
    rw [iadd_eq _ _ (by omega), List.take_add_one, List.getElem?_eq_getElem hk]
    simp only [Option.toList_some, List.append_assoc, List.singleton_append]
    rfl
  · unfold l_toQuadS_L1
    dsimp only
    rw [if_neg (by rw [ilt_iff]; unfold ilen; omega)]
    simp
def mkQ (k : Nat) : gQuad := ⟨1 + 5 * k, 2 + 5 * k, 3 + 5 * k, 4 + 5 * k, 5 + 5 * k⟩
def mkQs (n : Nat) : List gQuad := (List.range n).map mkQ
theorem mkQs_succ (n : Nat) : mkQs (n + 1) = mkQs n ++ [mkQ n] := by simp [mkQs, List.range_succ]
theorem mkQs_len (n : Nat) : (mkQs n).length = n := by simp [mkQs]
theorem markQuadS_val (l : List gQuad) (hl : l.length ≤ 2000000) : l_markQuadS l 1 = some (1 + 5 * (l.length : Int), mkQs l.length) := by
  unfold l_markQuadS
  have := up_loop (step := l_markQuadS_L1) (s0 := ((1 : Int), (0 : Int), l)) l.length (fun k => ((1 + 5 * k : Int), (k : Int), mkQs k ++ l.drop k)) (1 + 5 * (l.length : Int), mkQs l.length) (by simp [mkQs]) (fun k hk => ?_) ?_
  · rw [this]; rfl
  · unfold l_markQuadS_L1
    dsimp only
    have hc : l.drop k = l[k] :: l.drop (k + 1) := List.drop_eq_getElem_cons hk
    have hlen : (mkQs k ++ l.drop k).length = l.length := by simp [mkQs_len]; omega
    rw [if_pos (by rw [ilt_iff]; unfold ilen; rw [hlen]; omega), hc]
    have e1 : iadd .i64 (1 + 5 * (k : Int)) 1 = 2 + 5 * k := by rw [iadd_eq _ _ (by omega)]; omega
    have e2 : iadd .i64 (2 + 5 * (k : Int)) 1 = 3 + 5 * k := by rw [iadd_eq _ _ (by omega)]; omega
    have e3 : iadd .i64 (3 + 5 * (k : Int)) 1 = 4 + 5 * k := by rw [iadd_eq _ _ (by omega)]; omega
    have e4 : iadd .i64 (4 + 5 * (k : Int)) 1 = 5 + 5 * k := by rw [iadd_eq _ _ (by omega)]; omega
    have e5 : iadd .i64 (5 + 5 * (k : Int)) 1 = 6 + 5 * k := by rw [iadd_eq _ _ (by omega)]; omega
    have e6 : iadd .i64 (k : Int) 1 = ((k + 1 : Nat) : Int) := by rw [iadd_eq _ _ (by omega)]; rfl
    simp only [idx_cat _ _ _ k (mkQs_len k), setx_cat _ _ _ _ k (mkQs_len k), bind_some', e1, e2, e3, e4, e5, e6]
    rw [mkQs_succ, List.append_assoc]
    simp only [mkQ, List.singleton_append, Option.some.injEq, Flow.next.injEq, Prod.mk.injEq, and_true]
    omega
  · unfold l_markQuadS_L1
    dsimp only
    rw [List.drop_length, List.append_nil, if_neg (by rw [ilt_iff]; unfold ilen; rw [mkQs_len]; omega)]
def mkNs (n : Nat) : List Int := (List.range n).map fun k : Nat => (1 + (k : Int))
theorem mkNs_succ (n : Nat) : mkNs (n + 1) = mkNs n ++ [(1 + n : Int)] := by simp [mkNs, List.range_succ]
theorem mkNs_len (n : Nat) : (mkNs n).length = n := by simp [mkNs]
theorem markIntS_val (l : List Int) (hl : l.length ≤ 2000000) : l_markIntS l 1 = some (1 + (l.length : Int), mkNs l.length) := by
  unfold l_markIntS
  have := up_loop (step := l_markIntS_L1) (s0 := ((1 : Int), (0 : Int), l)) l.length (fun k => ((1 + k : Int), (k : Int), mkNs k ++ l.drop k)) (1 + (l.length : Int), mkNs l.length) (by simp [mkNs]) (fun k hk => ?_) ?_
  · rw [this]; rfl
  · unfold l_markIntS_L1
    dsimp only
    have hc : l.drop k = l[k] :: l.drop (k + 1) := List.drop_eq_getElem_cons hk
    have hlen : (mkNs k ++ l.drop k).length = l.length := by simp [mkNs_len]; omega
    rw [if_pos (by rw [ilt_iff]; unfold ilen; rw [hlen]; omega), hc]
    have e1 : iadd .i64 (1 + (k : Int)) 1 = 1 + ((k + 1 : Nat) : Int) := by rw [iadd_eq _ _ (by omega)]; omega
    have e6 : iadd .i64 (k : Int) 1 = ((k + 1 : Nat) : Int) := by rw [iadd_eq _ _ (by omega)]; rfl
    simp only [idx_cat _ _ _ k (mkNs_len k), setx_cat _ _ _ _ k (mkNs_len k), bind_some', e1, e6]
    rw [mkNs_succ, List.append_assoc]
    rfl
  · unfold l_markIntS_L1
    dsimp only
    rw [List.drop_length, List.append_nil, if_neg (by rw [ilt_iff]; unfold ilen; rw [mkNs_len]; omega)]
theorem heldIntS_val (n : Nat) (hn : n ≤ 2000000) : l_heldIntS (mkNs n) 1 = some (1 + (n : Int)) := by
  unfold l_heldIntS
  have := up_loop (step := l_heldIntS_L1 (mkNs n)) (s0 := ((1 : Int), (0 : Int))) n (fun k => ((1 + k : Int), (k : Int))) (.inl (1 + (n : Int))) rfl (fun k hk => ?_) ?_
  · rw [this]; rfl
  · unfold l_heldIntS_L1
    dsimp only
    have hx : idx (mkNs n) (k : Int) = some (1 + k : Int) := idx_at (by simp [mkNs, hk])
    have e1 : iadd .i64 (1 + (k : Int)) 1 = 1 + ((k + 1 : Nat) : Int) := by rw [iadd_eq _ _ (by omega)]; omega
    have e6 : iadd .i64 (k : Int) 1 = ((k + 1 : Nat) : Int) := by rw [iadd_eq _ _ (by omega)]; rfl
    rw [if_pos (by rw [ilt_iff]; unfold ilen; rw [mkNs_len]; omega), hx]
    simp only [bind_some', e1, e6]
    rw [if_neg (by simp [ine])]
  · unfold l_heldIntS_L1
    dsimp only
    rw [if_neg (by rw [ilt_iff]; unfold ilen; rw [mkNs_len]; omega)]

theorem fnExactTaskPlaces_true (l : List gQuad) (c : Int) (hl : l.length ≤ maxLen) : l_FnExactTaskPlaces l c = some true := by
  unfold l_FnExactTaskPlaces l_szQuadS
  have hs : isub .i64 1048576 (ilen l) = 1048576 - (l.length : Int) := isub_eq _ _ (by unfold ilen; unfold maxLen at hl; omega)
  rw [hs]
  by_cases hb : l.length ≤ 1048576
  · rw [if_neg (by rw [ilt_iff]; omega)]
    obtain ⟨r, h1, h2, h3⟩ := taskPlaces_eq l c
    have hm := markIntS_val r (by omega)
    have hh := heldIntS_val r.length (by omega)
    simp only [bind_some', l_toQuadS_o_eq, i_TaskPlaces_o_eq, toQuadS_id l (by omega), h1, h2, eqIntS_refl r (by omega), eqQuadS_refl l (by omega), markQuadS_val l (by omega), hm, hh]
    rw [if_neg (by rw [ilt_iff]; omega), show bnot true = false from rfl]
    simp only [Bool.false_eq_true, if_false]
    rw [if_neg (by rw [ilt_iff]; omega)]
    simp only [bind_some', Bool.false_eq_true, if_false]
    rw [if_neg (by rw [ilt_iff]; omega), if_neg (by simp [ine])]
    rw [if_neg (by rw [ilt_iff]; omega), if_neg (by simp [ine])]
  · rw [if_pos (by rw [ilt_iff]; omega), bind_some', if_pos (by rfl)]
end Go.Abs
