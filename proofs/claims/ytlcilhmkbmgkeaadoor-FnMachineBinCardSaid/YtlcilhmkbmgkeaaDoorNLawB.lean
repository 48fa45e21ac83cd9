/- laws.FnMachineBin's mirror: true for each pair of tapes. -/
import Derived.Test.YtlcilhmkbmgkeaaDoorNQuadE2
import Derived.Test.YtlcilhmkbmgkeaaDoorNDrawQ
import Derived.Test.YtlcilhmkbmgkeaaDoorNRun9
set_option linter.unusedSimpArgs false
set_option linter.unusedVariables false
set_option maxHeartbeats 8000000
set_option maxRecDepth 20000
namespace Go.Abs
open Go

theorem remx4 (n : Int) : ∃ t, remx n 4 = some t := ⟨_, by unfold remx; rw [if_neg (by omega)]⟩
def QGood (q : gQuad) (off : Int) : Prop := s_QuadValid q 600 = some true ∧ -100000 ≤ off ∧ off ≤ 100000 ∧ remx off 4 = some 0
def QList (q : gQuad) (c off : Int) (l : List gInstr) : Prop :=
  i_quadInstrs q c off = some l ∧ s_l43Quad q c off = some l ∧ (calls l = if 6 ≤ q.Op then [⟨15, 1, 0, 0, 0⟩] else []) ∧ l.length ≤ 5 ∧ l.length = qlen q c ∧ ((ilt q.Dst c && ilt q.A c && ilt q.B c) = true → noMem l = true)
theorem quadInstrs_good {q : gQuad} {off : Int} (h : QGood q off) {c : Int} (hc : 1 ≤ c ∧ c ≤ 8) : ∃ l, i_QuadInstrs q c off = some (l, true) ∧ s_QuadInstrs q c off = some (l, true) ∧ QList q c off l := by
  obtain ⟨v, hv, hv1⟩ := quadValid_ok q 600
  obtain ⟨k1, k2, k3, k4⟩ := h
  rw [k1] at hv
  cases hv
  unfold i_QuadInstrs s_QuadInstrs
  rw [quadValid_eq, k1]
  simp only [s_l6In, bind_id, if_and, if_or, bind_some', k4]
  have e1 : (bnot true || ilt c 1 || igt c 8 || ine 0 0 || ilt off (-100000) || igt off 100000) = false := by
    rw [Bool.eq_false_iff]; simp [bnot, ilt, igt, ine]; omega
  have e2 : (bnot true || bnot (ige c 1 && ile c 8) || bnot (ige off (-100000) && ile off 100000) || ine 0 0) = false := by
    rw [Bool.eq_false_iff]; simp [bnot, ige, ile, ine]; omega
  rw [e1, e2]
  obtain ⟨h1, h2, h3, h4, h5, h6, h7, h8, h9, h10⟩ := hv1 rfl
  obtain ⟨l, m1, m2, m3⟩ := quad_eq q c off hc ⟨k2, k3⟩ ⟨h1, h2⟩ h3 h5 h7 h9 h10
  simp only [Bool.false_eq_true, if_false, m1, m2, bind_some']
  exact ⟨l, rfl, rfl, m1, m2, m3⟩
theorem quadInstrs_eq (q : gQuad) (c off : Int) : (∃ l, QGood q off ∧ (1 ≤ c ∧ c ≤ 8) ∧ i_QuadInstrs q c off = some (l, true) ∧ s_QuadInstrs q c off = some (l, true) ∧ QList q c off l) ∨
    (i_QuadInstrs q c off = some ([], false) ∧ s_QuadInstrs q c off = some ([], false)) := by
  obtain ⟨v, hv, hv1⟩ := quadValid_ok q 600
  obtain ⟨t, ht⟩ := remx4 off
  by_cases hg : v = true ∧ 1 ≤ c ∧ c ≤ 8 ∧ -100000 ≤ off ∧ off ≤ 100000 ∧ t = 0
  · obtain ⟨rfl, g1, g2, g3, g4, rfl⟩ := hg
    have hq : QGood q off := ⟨hv, g3, g4, ht⟩
    obtain ⟨l, a, b, d⟩ := quadInstrs_good hq ⟨g1, g2⟩
    exact .inl ⟨l, hq, ⟨g1, g2⟩, a, b, d⟩
  · right
    unfold i_QuadInstrs s_QuadInstrs
    rw [quadValid_eq, hv]
    simp only [s_l6In, bind_id, if_and, if_or, bind_some', ht]
    have e1 : (bnot v || ilt c 1 || igt c 8 || ine t 0 || ilt off (-100000) || igt off 100000) = true := by
      cases v
      · simp [bnot]
      · simp [bnot, ilt, igt, ine]; simp at hg; omega
    have e2 : (bnot v || bnot (ige c 1 && ile c 8) || bnot (ige off (-100000) && ile off 100000) || ine t 0) = true := by
      cases v
      · simp [bnot]
      · simp [bnot, ige, ile, ine]; simp at hg; omega
    rw [e1, e2]
    exact ⟨rfl, rfl⟩

theorem sameInstrs_refl (l : List gInstr) (hl : l.length ≤ 1000000) : l_sameInstrs l l = some true := by
  unfold l_sameInstrs
  rw [if_neg (by simp [ine])]
  obtain ⟨e, he, hd⟩ := loopM_rule (step := l_sameInstrs_L1 l l) (s := 0) (fun s => 0 ≤ s ∧ s ≤ l.length) (fun s => l.length - s.toNat) (fun e => e = .inl ()) ⟨by omega, by omega⟩ (by
    rintro s ⟨h0, h1⟩
    unfold l_sameInstrs_L1
    by_cases h : s < l.length
    · left
      dsimp only
      rw [if_pos (by rw [ilt_iff]; exact h)]
      obtain ⟨v, hv, _⟩ := idx_ok l s h0 h
      simp only [hv, bind_some']
      rw [if_neg (by simp [bnot, eqD])]
      refine ⟨_, rfl, ?_, ?_⟩
      · rw [iadd_eq _ _ (by omega)]; omega
      · rw [iadd_eq _ _ (by omega)]; omega
    · right
      dsimp only
      rw [if_neg (by rw [ilt_iff]; exact h)]
      exact ⟨_, rfl, rfl⟩)
  rw [he, hd]; rfl


/-! the list of a quad that computes -/
theorem emit_ok (c : Int) (l m : List gInstr) (h : l.length + m.length ≤ 100) : i_emitter_emit ⟨c, l⟩ m = some ⟨c, l ++ m⟩ := by
  unfold i_emitter_emit
  rw [appx_s _ _ h]; rfl
theorem read_ok (c p s : Int) (l : List gInstr) (hc : 1 ≤ c ∧ c ≤ 8) (hp : 0 ≤ p ∧ p ≤ 11) (hl : l.length ≤ 50) : i_emitter_read ⟨c, l⟩ p s = some (rgP c p s, ⟨c, l ++ ldP c p s⟩) := by
  unfold i_emitter_read rgP ldP
  by_cases h : p < c
  · rw [if_pos (by rw [ilt_iff]; exact h), if_pos h, if_pos h, (cr_val p ⟨hp.1, by omega⟩).1, List.append_nil]; rfl
  · rw [if_neg (by rw [ilt_iff]; exact h), if_neg h, if_neg h]
    dsimp only
    rw [isub_eq _ _ (by omega), imul_eq _ _ (by omega), emit_ok c l _ (by simp; omega)]; rfl
theorem op_ok (q : gQuad) (rd ra rb : Int) (hn : 1 ≤ q.N ∧ q.N ≤ 12) : i_quadInstrs_3 rd q ra rb = some (opP q.N rd ra rb) := by
  unfold i_quadInstrs_3 opP
  rw [(opi_val q.N hn).1, bind_some', bind_some']
  by_cases h : q.N = 4
  · rw [if_pos (by rw [ieq_iff]; exact h), if_pos h, appx_s _ _ (by simp)]; rfl
  · rw [if_neg (by rw [ieq_iff]; exact h), if_neg h]
theorem op_len (n rd ra rb : Int) : (opP n rd ra rb).length ≤ 2 := by
  unfold opP; split <;> simp
theorem ld_len (c p s : Int) : (ldP c p s).length ≤ 1 := by
  unfold ldP; split <;> simp
theorem write_ok (q : gQuad) (c p ra rb : Int) (l : List gInstr) (hc : 1 ≤ c ∧ c ≤ 8) (hp : 0 ≤ p ∧ p ≤ 11) (hn : 1 ≤ q.N ∧ q.N ≤ 12) (hl : l.length ≤ 50) : i_emitter_write_i_quadInstrs_3 ⟨c, l⟩ p q ra rb = some ⟨c, l ++ opP q.N (rgP c p 7) ra rb ++ stP c p⟩ := by
  unfold i_emitter_write_i_quadInstrs_3 rgP stP
  by_cases h : p < c
  · have := op_len q.N (CR p) ra rb
    rw [if_pos (by rw [ilt_iff]; exact h), if_pos h, if_pos h, (cr_val p ⟨hp.1, by omega⟩).1, bind_some', op_ok q _ _ _ hn, bind_some', emit_ok c l _ (by omega), List.append_nil]; rfl
  · have := op_len q.N 7 ra rb
    rw [if_neg (by rw [ilt_iff]; exact h), if_neg h, if_neg h, op_ok q _ _ _ hn, bind_some', emit_ok c l _ (by omega), bind_some']
    dsimp only
    rw [isub_eq _ _ (by omega), imul_eq _ _ (by omega), emit_ok c _ _ (by simp; omega)]; rfl
theorem quad_bin (q : gQuad) (c off : Int) (h3 : q.Op = 3) (hc : 1 ≤ c ∧ c ≤ 8) (hd : 0 ≤ q.Dst ∧ q.Dst ≤ 11) (ha : 0 ≤ q.A ∧ q.A ≤ 11) (hb : 0 ≤ q.B ∧ q.B ≤ 11) (hn : 1 ≤ q.N ∧ q.N ≤ 12) : i_quadInstrs q c off = some (binP q c) := by
  have l1 := ld_len c q.A 5
  have l2 := ld_len c q.B 6
  unfold i_quadInstrs
  rw [if_neg (by rw [ieq_iff, h3]; decide), if_neg (by rw [ieq_iff, h3]; decide), if_pos (by rw [ieq_iff]; exact h3), read_ok c q.A 5 [] hc ha (by simp), bind_some', read_ok c q.B 6 _ hc hb (by simp; omega), bind_some',
    write_ok q c q.Dst _ _ _ hc hd hn (by simp; omega)]
  rfl

/-! the machine that runs it -/
theorem clone_o (l : List Int) (hl : l.length ≤ 2000000) : slices_Clone_int_int_o l = some l := by
  unfold slices_Clone_int_int_o
  rw [if_neg (by decide), appx_ok 8 _ _ (by unfold maxLen; simp; omega)]
  rfl
theorem valid_ok (R M : List Int) (hR : R.length = 32) (wR : R.all isW = true) (h0 : idx R 0 = some 0) (hl : M.length ≤ 10000) (wM : M.all isW = true) : i_MachineValid ⟨R, 0, M⟩ = some true := by
  unfold i_MachineValid
  have h1 : i_areWords R = some true := by rw [i_areWords_val _ (by unfold maxLen; omega), wR]
  have h2 : i_areWords M = some true := by rw [i_areWords_val _ (by unfold maxLen; omega), wM]
  have h4 : ile (ilen M) 10000 = true := by rw [ile_iff]; unfold ilen; omega
  have h5 : i_WordValid 0 = some true := rfl
  have h6 : ieq (ilen R) 32 = true := by rw [ieq_iff]; unfold ilen; omega
  have h7 : ieq (0 : Int) 0 = true := rfl
  simp -implicitDefEqProofs only [h0, h1, h2, h4, h5, h6, h7, bind_some', if_true]
theorem run_go {ws R F R' F' : List Int} {N : Nat} (hR : R.length = 32) (wR : R.all isW = true) (h0 : idx R 0 = some 0) (hl : (ws ++ F).length ≤ 10000) (wM : (ws ++ F).all isW = true) (hN : N ≤ 1000) (h : Goes ws N 0 R F N R' F') :
    i_MachineRun_o2 ⟨R, 0, ws ++ F⟩ N = some (⟨R', 4 * (N : Int), ws ++ F'⟩, (N : Int), 1) := by
  unfold i_MachineRun_o2 i_machineCopy_o2
  rw [valid_ok R _ hR wR h0 hl wM]
  have g1 : ilt (N : Int) 0 = false := by rw [Bool.eq_false_iff, ne_eq, ilt_iff]; omega
  have g2 : igt (N : Int) 1000000 = false := by rw [Bool.eq_false_iff, ne_eq, igt_iff]; omega
  have k := h ⟨[], 0, []⟩
  simp -implicitDefEqProofs only [bind_some', tt, Bool.false_eq_true, if_false, g1, g2, clone_o R (by omega), clone_o (ws ++ F) (by omega)]
  have k2 : loopM (i_MachineRun_o2_L1 N) (0, (⟨[], 0, []⟩ : gMachine), ⟨R, 0, ws ++ F⟩) = some (.inl ((⟨[], 0, []⟩ : gMachine), ⟨R', 4 * (N : Int), ws ++ F'⟩)) := by
    refine Eq.trans k (loopM_done ?_)
    unfold i_MachineRun_o2_L1
    dsimp only
    rw [if_neg (by rw [ilt_iff]; omega)]
  rw [k2]; rfl

/-! the words that are put -/
theorem all_set {l : List Int} {k : Nat} {x : Int} (h : l.all isW = true) (hx : isW x = true) : (l.set k x).all isW = true := by
  rw [List.all_eq_true] at h ⊢
  intro y hy
  rcases List.mem_or_eq_of_mem_set hy with hy | rfl
  · exact h y hy
  · exact hx
theorem put_ok (r2 : gQuad × Int × Int) (r3 : List gInstr × Bool) (a b : Int) (k : Nat) (p x : Int) (q : gQuad) (pc : Int) (ws R F : List Int) (hk : k < 2) (hv : idx ([a, b] : List Int) (k : Int) = some x) (hp : idx ([r2.1.A, r2.1.B] : List Int) (k : Int) = some p) (hpr : 0 ≤ p ∧ p ≤ 11) (hc : 1 ≤ r2.2.1 ∧ r2.2.1 ≤ 8) (hR : R.length = 32) (hF : F.length = 12) (hw : ws.length = r3.1.length) (hl : r3.1.length ≤ 20) (wx : isW x = true) :
    ∃ R' F', l_FnMachineBin_L1 r2 r3 a b ((k : Int), q, ⟨R, pc, ws ++ F⟩) = some (.next (((k + 1 : Nat) : Int), q, ⟨R', pc, ws ++ F'⟩)) ∧ R'.length = 32 ∧ F'.length = 12 ∧ Has r2.2.1 R' F' p x ∧
      (∀ p' y, p' ≠ p → 0 ≤ p' → Has r2.2.1 R F p' y → Has r2.2.1 R' F' p' y) ∧ idx R' 2 = idx R 2 ∧ idx R' 0 = idx R 0 ∧ (R.all isW = true → R'.all isW = true) ∧ (F.all isW = true → F'.all isW = true) := by
  unfold l_FnMachineBin_L1
  dsimp only
  rw [if_pos (by rw [ilt_iff]; omega), hv, bind_some', hp, bind_some', iadd_eq _ _ (by omega)]
  by_cases h : p < r2.2.1
  · obtain ⟨c1, c2, c3⟩ := cr_val p ⟨hpr.1, by omega⟩
    obtain ⟨v, hv⟩ := idx_some (l := R) (r := CR p) (by omega)
    have sx : setx R (CR p) x = some (R.set (CR p).toNat x) := by unfold setx; rw [if_pos (by omega)]
    rw [if_pos (by rw [ilt_iff]; exact h), c1, bind_some', hv, bind_some', sx, bind_some']
    refine ⟨R.set (CR p).toNat x, F, rfl, by simp [hR], hF, ?_, ?_, idx_set_ne (by omega) (by omega), idx_set_ne (by omega) (by omega), fun w => all_set w wx, id⟩
    · unfold Has; rw [if_pos h]; exact idx_set_eq (by omega)
    · intro p' y hne hp' hy
      unfold Has at hy ⊢
      split
      · rename_i hlt
        rw [if_pos hlt] at hy
        rw [idx_set_ne (by omega)]
        · exact hy
        · intro e; exact hne (cr_inj p' p ⟨hp', by omega⟩ ⟨hpr.1, by omega⟩ e)
      · rename_i hlt
        rw [if_neg hlt] at hy; exact hy
  · have e : isub .i64 (iadd .i64 (ilen r3.1) p) r2.2.1 = ((r3.1.length + (p - r2.2.1).toNat : Nat) : Int) := by
      unfold ilen; rw [iadd_eq _ _ (by omega), isub_eq _ _ (by omega)]; omega
    obtain ⟨v, hv⟩ := idx_some (l := ws ++ F) (r := ((r3.1.length + (p - r2.2.1).toNat : Nat) : Int)) (by rw [List.length_append]; omega)
    have sx : setx (ws ++ F) ((r3.1.length + (p - r2.2.1).toNat : Nat) : Int) x = some (ws ++ F.set (p - r2.2.1).toNat x) := by
      unfold setx
      rw [if_pos (by rw [List.length_append]; omega)]
      congr 1
      rw [Int.toNat_natCast, List.set_append_right _ _ (by omega)]
      congr 2; omega
    rw [if_neg (by rw [ilt_iff]; exact h), e, hv, bind_some', sx, bind_some']
    refine ⟨R, F.set (p - r2.2.1).toNat x, rfl, hR, by simp [hF], ?_, ?_, rfl, rfl, id, fun w => all_set w wx⟩
    · unfold Has; rw [if_neg h]; exact idx_set_eq (by omega)
    · intro p' y hne hp' hy
      unfold Has at hy ⊢
      split
      · rename_i hlt
        rw [if_pos hlt] at hy; exact hy
      · rename_i hlt
        rw [if_neg hlt] at hy
        rw [idx_set_ne (by omega) (by omega)]; exact hy

theorem appz8 (l : List Int) (h : l.length ≤ 2000000) : appzx 8 l 12 0 = some (l ++ List.replicate 12 0) := by
  unfold appzx
  rw [if_pos (by unfold maxLen; simp; omega)]
  rfl
theorem fnMachineBin_true (l l2 : List Int) (hb : Bytes l) : l_FnMachineBin l l2 = some true := by
  unfold l_FnMachineBin
  rw [if_or, bind_some']
  by_cases h0 : (1048576 : Int) < l.length ∨ (1048576 : Int) < l2.length
  · rw [if_pos (by simp [igt, ilen]; omega)]
  rw [if_neg (by simp [igt, ilen]; omega)]
  obtain ⟨r2, hq, _⟩ := drawQuadInstrs_ok hb (by omega)
  rw [hq, bind_some']
  have zb : ∀ a : Bool, bneb a a = false := by intro a; simp [bneb]
  have zc : ∀ a : Bool, beqb a a = true := by intro a; simp [beqb]
  rcases quadInstrs_eq r2.1 r2.2.1 r2.2.2 with ⟨li, hg, hc, e1, e2, hl⟩ | ⟨e1, e2⟩
  · rw [e1, bind_some', e2, bind_some']
    obtain ⟨m1, _, _, hlen, _⟩ := hl
    simp -implicitDefEqProofs only [zb, Bool.false_eq_true, if_false, sameInstrs_refl li (by omega), bind_some', tt]
    by_cases h3 : r2.1.Op = 3
    · rw [if_neg (by rw [ine_iff]; omega)]
      obtain ⟨v, hv, hv1⟩ := quadValid_ok r2.1 600
      rw [hg.1] at hv
      cases hv
      obtain ⟨_, _, d1, d2, a1, a2, b1, b2, n1, _⟩ := hv1 rfl
      have hn := n1 h3
      have hbin := quad_bin r2.1 r2.2.1 r2.2.2 h3 hc ⟨d1, d2⟩ ⟨a1, a2⟩ ⟨b1, b2⟩ hn
      rw [m1] at hbin
      obtain rfl := Option.some.inj hbin
      -- the words
      have e3 : isub .i64 (imul .i64 (ilen l2) 7919) 5000 = (l2.length : Int) * 7919 - 5000 := by
        unfold ilen; rw [imul_eq _ _ (by omega), isub_eq _ _ (by omega)]
      obtain ⟨a, ha, wa, _⟩ := wrap_ex ((l2.length : Int) * 7919 - 5000) (by omega)
      have e4 : remx (ilen l2) 11 = some ((l2.length : Int) % 11) := remx_eq _ _ (by unfold ilen; omega) (by decide)
      have e5 : ∃ b, (if ieq r2.1.A r2.1.B = true then some a else some (isub .i64 0 ((l2.length : Int) % 11))) = some b ∧ (-2147483648 ≤ b ∧ b ≤ 2147483647) ∧ (r2.1.A = r2.1.B → b = a) := by
        by_cases h : r2.1.A = r2.1.B
        · rw [if_pos (by rw [ieq_iff]; exact h)]; exact ⟨a, rfl, wa, fun _ => rfl⟩
        · rw [if_neg (by rw [ieq_iff]; exact h)]; exact ⟨_, rfl, by rw [isub_eq _ _ (by omega)]; omega, fun q => absurd q h⟩
      obtain ⟨b, e5, wb, hab⟩ := e5
      obtain ⟨ws, hws, code, www⟩ := words_ok (binP r2.1 r2.2.1) (bin_vp ⟨a1, a2⟩ ⟨b1, b2⟩ ⟨d1, d2⟩ hn hc) (by omega)
      have hws' : l_wordsOf_o (binP r2.1 r2.2.1) = some ws := hws
      have wl := code.len
      have e6 : appzx 8 ws 12 0 = some (ws ++ List.replicate 12 0) := appz8 ws (by omega)
      have e7 : makex 8 32 (0 : Int) = some (List.replicate 32 0) := rfl
      have e8 : idx (List.replicate 32 (0 : Int)) 2 = some 0 := rfl
      have e9 : imul .i64 4 (ilen (binP r2.1 r2.2.1)) = 4 * ((binP r2.1 r2.2.1).length : Int) := by unfold ilen; rw [imul_eq _ _ (by omega)]
      have e10 : setx (List.replicate 32 (0 : Int)) 2 (4 * ((binP r2.1 r2.2.1).length : Int)) = some ((List.replicate 32 (0 : Int)).set 2 (4 * ((binP r2.1 r2.2.1).length : Int))) := by
        unfold setx; rw [if_pos (by simp)]; rfl
      simp -implicitDefEqProofs only [e3, ha, bind_some', e4, e5, hws', e6, e7, e8, e9, e10]
      have iwa : isW a = true := by unfold isW; simp; omega
      have iwb : isW b = true := by unfold isW; simp; omega
      -- the places
      have z32 : (List.replicate 32 (0 : Int)).all isW = true := rfl
      have z12 : (List.replicate 12 (0 : Int)).all isW = true := rfl
      obtain ⟨R1, F1, s1, g1, g2, g3, g4, g5, g6, g7, g8⟩ := put_ok r2 (binP r2.1 r2.2.1, true) a b 0 r2.1.A a r2.1 0 ws ((List.replicate 32 (0 : Int)).set 2 (4 * ((binP r2.1 r2.2.1).length : Int))) (List.replicate 12 0) (by decide) rfl rfl ⟨a1, a2⟩ hc (by simp) (by simp) wl (by dsimp only; omega) iwa
      obtain ⟨R2, F2, s2, k1, k2, k3, k4, k5, k6, k7, k8⟩ := put_ok r2 (binP r2.1 r2.2.1, true) a b 1 r2.1.B b r2.1 0 ws R1 F1 (by decide) rfl rfl ⟨b1, b2⟩ hc g1 g2 wl (by dsimp only; omega) iwb
      have hA : Has r2.2.1 R2 F2 r2.1.A a := by
        by_cases h : r2.1.A = r2.1.B
        · have := hab h; subst this; rw [h]; exact k3
        · exact k4 _ _ h a1 g3
      have q2 : idx R2 2 = some (4 * ((binP r2.1 r2.2.1).length : Int)) := by
        rw [k5, g5]; rfl
      have q0 : idx R2 0 = some 0 := by rw [k6, g6]; rfl
      have wR : R2.all isW = true := k7 (g7 (all_set z32 (by unfold isW; simp; omega)))
      have wF : F2.all isW = true := k8 (g8 z12)
      have lp : loopM (l_FnMachineBin_L1 r2 (binP r2.1 r2.2.1, true) a b) (0, r2.1, (⟨(List.replicate 32 (0 : Int)).set 2 (4 * ((binP r2.1 r2.2.1).length : Int)), 0, ws ++ List.replicate 12 0⟩ : gMachine)) = some (r2.1, ⟨R2, 0, ws ++ F2⟩) := by
        refine Eq.trans (loopM_next s1) (Eq.trans (loopM_next s2) (loopM_done ?_))
        unfold l_FnMachineBin_L1
        dsimp only
        rw [if_neg (by rw [ilt_iff]; omega)]
      rw [lp, bind_some']
      dsimp only
      -- the run
      obtain ⟨due, hdue⟩ := apply_ok r2.1.N a b wb
      obtain ⟨R3, F3, go, l3, f3, h4⟩ := bin_go code k2 k1 q2 ⟨a1, a2⟩ ⟨b1, b2⟩ ⟨d1, d2⟩ hn hc hA k3 wa wb hdue
      have run := run_go k1 wR q0 (by rw [List.length_append]; omega) (by rw [List.all_append, www, wF]; rfl) (by omega) go
      have e11 : i_Apply r2.1.N a b = some (due, true) := by
        unfold i_Apply i_OpValid
        simp only [if_and, if_or, bind_some', i_WordValid_val, iwa, iwb, tt]
        rw [if_neg, hdue]
        · rfl
        · simp [ige, ile, bnot]; omega
      show (i_MachineRun_o2 ⟨R2, 0, ws ++ F2⟩ ((binP r2.1 r2.2.1).length : Int)).bind _ = _
      rw [run, bind_some', e11, bind_some']
      have i1 : ine ((binP r2.1 r2.2.1).length : Int) (ilen (binP r2.1 r2.2.1)) = false := by rw [Bool.eq_false_iff, ne_eq, ine_iff]; unfold ilen; omega
      simp -implicitDefEqProofs only [tt, Bool.false_eq_true, if_false, i1, bind_some', show ine (1 : Int) 1 = false from rfl]
      unfold Has at h4
      by_cases hd : r2.1.Dst < r2.2.1
      · rw [if_pos hd] at h4
        rw [if_pos (by rw [ilt_iff]; exact hd), (cr_val r2.1.Dst ⟨d1, by omega⟩).1, bind_some', h4, bind_some']
        congr 1; rw [ieq_iff]
      · rw [if_neg hd] at h4
        rw [if_neg (by rw [ilt_iff]; exact hd)]
        have e : isub .i64 (iadd .i64 (ilen (binP r2.1 r2.2.1)) r2.1.Dst) r2.2.1 = (((binP r2.1 r2.2.1).length + (r2.1.Dst - r2.2.1).toNat : Nat) : Int) := by
          unfold ilen; rw [iadd_eq _ _ (by omega), isub_eq _ _ (by omega)]; omega
        have e' : idx (ws ++ F3) (((binP r2.1 r2.2.1).length + (r2.1.Dst - r2.2.1).toNat : Nat) : Int) = some due := by
          refine idx_at ?_
          rw [List.getElem?_append_right (by omega), wl]
          unfold idx at h4
          rw [if_pos (by omega)] at h4
          rw [← h4]; congr 1; omega
        rw [e, e', bind_some']
        congr 1; rw [ieq_iff]
    · rw [if_pos (by rw [ine_iff]; exact h3)]
  · rw [e1, bind_some', e2, bind_some']
    simp -implicitDefEqProofs only [zb, zc, Bool.false_eq_true, if_false, sameInstrs_refl [] (by simp), bind_some', tt, show bnot false = true from rfl, if_true]
end Go.Abs
