/- The mirrors of laws.FnHartCall, FnHartCallKinds and FnHartCallTalk: true for each code. -/
import Derived.Test.YtoklfbdcghgmlaaNHartEq2
import Derived.Test.YtoklfbdcghgmlaaNHartY
set_option linter.unusedSimpArgs false
set_option linter.unusedVariables false
set_option maxHeartbeats 8000000
namespace Go.Abs
open Go

theorem sameInts_refl (l : List Int) (hl : l.length ≤ 2000000) : l_sameInts l l = some true := by
  unfold l_sameInts
  rw [if_neg (by simp [ine])]
  have := up_loop (step := l_sameInts_L1 l l) (s0 := (0 : Int)) l.length (fun k => (k : Int)) (.inl ()) rfl (fun k hk => ?_) ?_
  · rw [this]; rfl
  · unfold l_sameInts_L1
    dsimp only
    rw [if_pos (by rw [ilt_iff]; unfold ilen; omega), idx_at (List.getElem?_eq_getElem hk)]
    simp only [bind_some']
    rw [if_neg (by simp [ine]), iadd_eq _ _ (by omega)]
    rfl
  · unfold l_sameInts_L1
    dsimp only
    rw [if_neg (by rw [ilt_iff]; unfold ilen; omega)]
theorem ieq_refl (a : Int) : ieq a a = true := by simp [ieq]
theorem sameBox_refl (b : gBox) (h : b.Items.length ≤ 2000000) : l_sameBox b b = some true := by
  unfold l_sameBox
  rw [ieq_refl, if_pos rfl, sameInts_refl _ h]; rfl
theorem sameMachine_refl (m : gMachine) (hr : m.Regs.length ≤ 2000000) (hm : m.Mem.length ≤ 2000000) : l_sameMachine m m = some true := by
  unfold l_sameMachine
  rw [ieq_refl, if_pos rfl, sameInts_refl _ hr, sameInts_refl _ hm]; rfl
theorem sameBoxes_refl (l : List gBox) (hl : l.length ≤ 2000000) (hi : ∀ b ∈ l, b.Items.length ≤ 2000000) : l_sameBoxes l l = some true := by
  unfold l_sameBoxes
  rw [if_neg (by simp [ine])]
  have := up_loop (step := l_sameBoxes_L1 l l) (s0 := (0 : Int)) l.length (fun k => (k : Int)) (.inl ()) rfl (fun k hk => ?_) ?_
  · rw [this]; rfl
  · unfold l_sameBoxes_L1
    dsimp only
    rw [if_pos (by rw [ilt_iff]; unfold ilen; omega), idx_at (List.getElem?_eq_getElem hk)]
    simp only [bind_some', sameBox_refl _ (hi _ (List.getElem_mem hk))]
    rw [show bnot true = false from rfl, if_neg (by decide), iadd_eq _ _ (by omega)]
    rfl
  · unfold l_sameBoxes_L1
    dsimp only
    rw [if_neg (by rw [ilt_iff]; unfold ilen; omega)]
theorem sameElse_ok (l l' : List gBox) (j : Int) (hl : l.length ≤ 2000000) (hll : l'.length = l.length) (hi : ∀ b ∈ l, b.Items.length ≤ 2000000) (h : ∀ k : Nat, ¬ (k : Int) = j → l'[k]? = l[k]?) : l_sameElse l' l j = some true := by
  unfold l_sameElse
  rw [if_neg (by simp [ine, ilen, hll])]
  have := up_loop (step := l_sameElse_L1 l' l j) (s0 := (0 : Int)) l.length (fun k => (k : Int)) (.inl ()) rfl (fun k hk => ?_) ?_
  · rw [this]; rfl
  · unfold l_sameElse_L1
    dsimp only
    rw [if_pos (by rw [ilt_iff]; unfold ilen; omega)]
    have e2 : iadd .i64 (k : Int) 1 = ((k + 1 : Nat) : Int) := by rw [iadd_eq _ _ (by omega)]; rfl
    by_cases hj : (k : Int) = j
    · rw [if_neg (by rw [ine_iff]; simpa using hj), bind_some', if_neg (by decide), e2]
    · have hg := List.getElem?_eq_getElem hk
      rw [if_pos (by rw [ine_iff]; exact hj), idx_at ((h k hj).trans hg), bind_some', idx_at hg, bind_some', sameBox_refl _ (hi _ (List.getElem_mem hk)), bind_some', bind_some', if_neg (by decide), e2]
  · unfold l_sameElse_L1
    dsimp only
    rw [if_neg (by rw [ilt_iff]; unfold ilen; omega)]
theorem i_BoxPut_val (b : gBox) (x : Int) (hb : isBox b = true) (hx : isW x = true) : i_BoxPut b x = some (if (b.Items.length : Int) < b.Room then (⟨b.Room, b.Items ++ [x]⟩, true) else (⟨0, []⟩, false)) := by
  obtain ⟨⟨h1, h2⟩, h3, h4⟩ := (isBox_iff b).1 hb
  unfold i_BoxPut
  rw [i_BoxValid_val b (by unfold maxLen; omega), hb, i_WordValid_val, hx]
  have e1 : (if bnot true = true then some true else (some true).bind fun r2 => some (bnot r2)) = some false := rfl
  simp only [bind_some', e1, if_or, Bool.false_or, show bnot true = false from rfl]
  by_cases hf : (b.Items.length : Int) < b.Room
  · rw [if_neg (by rw [ieq_iff]; unfold ilen; omega), if_pos hf, clone_o_eq, clone_id _ (by omega), bind_some', appx_ok 8 b.Items [x] (by simp; unfold maxLen; omega), bind_some']
  · rw [if_pos (by rw [ieq_iff]; unfold ilen; omega), if_neg hf]
theorem i_BoxTake_nil (b : gBox) (hb : isBox b = true) (h : b.Items = []) : i_BoxTake b = some (⟨0, []⟩, 0, false) := by
  unfold i_BoxTake
  rw [i_BoxValid_val b (by rw [h]; simp [maxLen]), hb]
  simp only [bind_some', if_or, show bnot true = false from rfl, Bool.false_or, h]
  rw [if_pos (by rfl)]
theorem i_BoxTake_cons (b : gBox) (v : Int) (t : List Int) (hb : isBox b = true) (h : b.Items = v :: t) : i_BoxTake b = some (⟨b.Room, t⟩, v, true) := by
  obtain ⟨⟨h1, h2⟩, h3, h4⟩ := (isBox_iff b).1 hb
  rw [h] at h3
  simp only [List.length_cons] at h3
  unfold i_BoxTake
  rw [i_BoxValid_val b (by rw [h]; simp [maxLen]; omega), hb]
  have hn : ¬ ieq (ilen (v :: t)) 0 = true := by rw [ieq_iff]; simp [ilen]; omega
  have c1 : cutx (v :: t) 1 (ilen (v :: t)) = some t := by rw [cutx_iff]; exact ⟨⟨by omega, by simp [ilen]; omega, by simp [ilen]⟩, by simp [ilen]⟩
  have i0 : idx (v :: t) 0 = some v := idx_at (k := 0) rfl
  simp only [bind_some', if_or, show bnot true = false from rfl, Bool.false_or, h]
  rw [if_neg hn, c1, bind_some', clone_id t (by omega), bind_some', i0, bind_some']

theorem bytes_of {l : List Int} (h : ∀ x ∈ l, (fun n : Int => IntKind.u8.min ≤ n ∧ n ≤ IntKind.u8.max) x) : Bytes l := fun x hx => by
  have h1 := h x hx
  have a : IntKind.u8.min = 0 := by decide
  have b : IntKind.u8.max = 255 := by decide
  simp only [a, b] at h1
  omega
/-- what a law starts from -/
theorem start {l : List Int} (hb : Bytes l) (hl : l.length ≤ 1048576) : ∃ m bs r, s_DrawHartCall l = some (m, bs) ∧ i_HartCall m bs = some r ∧ s_HartCall m bs = some r ∧ m.Regs.length = 32 ∧ m.Mem.length ≤ 10000 ∧ bs.length ≤ 10 ∧ (∀ x ∈ bs, x.Items.length ≤ 10) ∧
    l_sameMachine r.1 r.1 = some true ∧ l_sameBoxes r.2.1 r.2.1 = some true ∧ l_sameInts r.2.2.1 r.2.2.1 = some true ∧
    (r.2.2.2 = 0 ∨ (isMach m = true ∧ isBoxes bs = true ∧ ¬ r.2.2.2 = 0 ∧ CallRes m bs r.2.2.2 r.1 r.2.1 r.2.2.1)) := by
  obtain ⟨⟨m, bs⟩, hd, h1, h2, h3, h4⟩ := drawHartCall_ok hb hl
  simp only at h1 h2 h3 h4
  have h4' : ∀ b ∈ bs, b.Items.length ≤ 2000000 := fun b hb => by have := h4 b hb; omega
  obtain ⟨r, k1, k2, k3⟩ := hartCall_eq m bs (by omega) (by omega) (by omega) h4'
  have hq : r.1.Regs.length ≤ 2000000 ∧ r.1.Mem.length ≤ 2000000 ∧ r.2.1.length ≤ 2000000 ∧ (∀ b ∈ r.2.1, b.Items.length ≤ 2000000) ∧ r.2.2.1.length ≤ 2000000 := by
    rcases k3 with ⟨rfl, _⟩ | ⟨_, _, _, _, hc⟩
    · simp
    · exact ⟨by rw [hc.regs]; omega, by rw [hc.mem]; omega, by rw [hc.len]; omega, fun b hb => by have := hc.items b hb; omega, by have := hc.pl; omega⟩
  refine ⟨m, bs, r, hd, k1, k2, h1, h2, h3, h4, sameMachine_refl _ hq.1 hq.2.1, sameBoxes_refl _ hq.2.2.1 hq.2.2.2.1, sameInts_refl _ hq.2.2.2.2, ?_⟩
  rcases k3 with ⟨rfl, _⟩ | ⟨a, b, c, _, d⟩
  · exact .inl rfl
  · exact .inr ⟨a, b, c, d⟩

theorem fnHartCall_true {l : List Int} (hb : Bytes l) : l_FnHartCall l = some true := by
  unfold l_FnHartCall
  rcases Nat.lt_or_ge 1048576 l.length with hl | hl
  · rw [if_pos (by rw [igt_iff]; unfold ilen; omega)]
  rw [if_neg (by rw [igt_iff]; unfold ilen; omega)]
  obtain ⟨m, bs, r, hd, k1, k2, h1, h2, h3, h4, s1, s2, s3, hc⟩ := start hb hl
  have z : ∀ a : Int, ine a a = false := by intro a; simp [ine]
  have h4' : ∀ b ∈ bs, b.Items.length ≤ 2000000 := fun b hb => by have := h4 b hb; omega
  simp only [hd, bind_some', k1, k2, s1, s2, s3, z, show bnot true = false from rfl, Bool.false_eq_true, if_false]
  rcases hc with h0 | ⟨hM, hB, hn, hc⟩
  · rw [if_pos (by rw [ieq_iff]; exact h0)]
  rw [if_neg (by rw [ieq_iff]; exact hn)]
  have how := hc.how
  obtain ⟨out, list, printed, code⟩ := r
  simp only at how ⊢
  have sm : l_sameMachine m m = some true := sameMachine_refl m (by omega) (by omega)
  have sb : l_sameBoxes bs bs = some true := sameBoxes_refl bs (by omega) h4'
  have go : ∀ v1 (R : List Int) x, R.length = 32 → idx m.Regs 1 = some v1 → idx R 10 = some x → m.Regs.set (Int.toNat 10) x = R →
      ((appx 8 ([] : List Int) m.Regs).bind fun l15 => (idx R 10).bind fun v16 => (idx l15 10).bind fun v17 => (setx l15 10 v16).bind fun l18 => (idx m.Regs 1).bind fun v19 =>
        (if ieq v1 v19 = true then (l_sameInts m.Mem m.Mem).bind fun r20 => some r20 else some false).bind fun g21 => (if g21 = true then (l_sameInts R l18).bind fun r22 => some r22 else some false).bind fun g23 => some g23) = some true := by
    intro v1 R x hR e1 e10 hset
    have i10 : ∃ y, idx m.Regs 10 = some y := ⟨_, idx_at (k := 10) (List.getElem?_eq_getElem (by omega))⟩
    obtain ⟨y, i10⟩ := i10
    rw [appx_nil' _ (by omega), bind_some', e10, bind_some', i10, bind_some', setx_ok x i10, bind_some', e1, bind_some', ieq_refl, if_pos rfl, sameInts_refl _ (by omega), bind_some', bind_some', if_pos rfl, hset, sameInts_refl R (by omega)]
    rfl
  have self : ∃ x, idx m.Regs 10 = some x ∧ m.Regs.set (Int.toNat 10) x = m.Regs := ⟨_, idx_at (k := 10) (List.getElem?_eq_getElem (by omega)), set_same (List.getElem?_eq_getElem (by omega))⟩
  obtain ⟨x10, e10, es⟩ := self
  cases how with
  | full h17 h11 hb h =>
    rw [if_pos (by rfl), bind_some', if_pos rfl, sm, bind_some', if_pos rfl, sb, bind_some', bind_some', if_pos rfl]; rfl
  | none h17 h11 hb h =>
    rw [if_pos (by rfl), bind_some', if_pos rfl, sm, bind_some', if_pos rfl, sb, bind_some', bind_some', if_pos rfl]; rfl
  | end' h17 =>
    rw [if_neg (by decide), bind_some', show ieq 4 4 = true from rfl, if_pos rfl, sm, bind_some', if_pos rfl, sb, bind_some', bind_some', if_pos rfl]; rfl
  | put h17 h11 h10 h1' hb h hb' =>
    rw [if_neg (by decide), bind_some', show ieq 1 4 = false from rfl, if_neg (by decide)]
    exact go _ _ _ h1 h1' e10 es
  | yield h17 h1' =>
    rw [if_neg (by decide), bind_some', show ieq 2 4 = false from rfl, if_neg (by decide)]
    exact go _ _ _ h1 h1' e10 es
  | print h17 h10 h1' =>
    rw [if_neg (by decide), bind_some', show ieq 1 4 = false from rfl, if_neg (by decide)]
    exact go _ _ _ h1 h1' e10 es
  | take h17 h11 h1' hb h hb' =>
    rw [if_neg (by decide), bind_some', show ieq 1 4 = false from rfl, if_neg (by decide)]
    refine go _ _ _ (by simp [h1]) h1' (idx_at (k := 10) ?_) rfl
    rw [List.getElem?_set, if_pos (show Int.toNat 10 = 10 from rfl), if_pos (by rw [h1]; decide)]

theorem fnHartCallKinds_true {l : List Int} (hb : Bytes l) : l_FnHartCallKinds l = some true := by
  unfold l_FnHartCallKinds
  rcases Nat.lt_or_ge 1048576 l.length with hl | hl
  · rw [if_pos (by rw [igt_iff]; unfold ilen; omega)]
  rw [if_neg (by rw [igt_iff]; unfold ilen; omega)]
  obtain ⟨m, bs, r, hd, k1, k2, h1, h2, h3, h4, s1, s2, s3, hc⟩ := start hb hl
  have z : ∀ a : Int, ine a a = false := by intro a; simp [ine]
  simp only [hd, bind_some', k1, k2, s1, s2, s3, z, show bnot true = false from rfl, Bool.false_eq_true, if_false]
  rcases hc with h0 | ⟨hM, hB, hn, hc⟩
  · rw [if_pos (by rw [ieq_iff]; exact h0)]
  rw [if_neg (by rw [ieq_iff]; exact hn)]
  have how := hc.how
  obtain ⟨out, list, printed, code⟩ := r
  simp only at how ⊢
  cases how with
  | full h17 h11 hb h => rw [h17]; rfl
  | none h17 h11 hb h => rw [h17]; rfl
  | end' h17 => rw [h17]; rfl
  | put h17 h11 h10 h1' hb h hb' => rw [h17]; rfl
  | yield h17 h1' => rw [h17]; rfl
  | take h17 h11 h1' hb h hb' => rw [h17]; rfl
  | print h17 h10 h1' =>
    rw [h17, bind_some', show ieq 4 4 = true from rfl, if_pos rfl, h10, bind_some', sameInts_refl _ (by simp)]
    rfl

theorem fnHartCallTalk_true {l : List Int} (hb : Bytes l) : l_FnHartCallTalk l = some true := by
  unfold l_FnHartCallTalk
  rcases Nat.lt_or_ge 1048576 l.length with hl | hl
  · rw [if_pos (by rw [igt_iff]; unfold ilen; omega)]
  rw [if_neg (by rw [igt_iff]; unfold ilen; omega)]
  obtain ⟨m, bs, r, hd, k1, k2, h1, h2, h3, h4, s1, s2, s3, hc⟩ := start hb hl
  have z : ∀ a : Int, ine a a = false := by intro a; simp [ine]
  have h4' : ∀ b ∈ bs, b.Items.length ≤ 2000000 := fun b hb => by have := h4 b hb; omega
  simp only [hd, bind_some', k1, k2, s1, s2, s3, z, show bnot true = false from rfl, Bool.false_eq_true, if_false]
  rcases hc with h0 | ⟨hM, hB, hn, hc⟩
  · rw [if_pos (by rw [ieq_iff]; exact h0), bind_some', if_pos rfl]
  rw [if_neg (by rw [ieq_iff]; exact hn)]
  have how := hc.how
  have hall : ∀ b ∈ bs, isBox b = true := by simp only [isBoxes, Bool.and_eq_true, List.all_eq_true] at hB; exact hB.1
  obtain ⟨w10, i10, x10, _⟩ := reg_at m hM 10 (by decide)
  replace i10 : idx m.Regs 10 = some w10 := i10
  obtain ⟨out, list, printed, code⟩ := r
  simp only at how ⊢
  have hset : ∀ (v11 : Int) (b b' : gBox), idx bs v11 = some b → b'.Items.length ≤ 100 → l_sameElse (bs.set v11.toNat b') bs v11 = some true ∧ idx (bs.set v11.toNat b') v11 = some b' ∧ l_sameBox b' b' = some true := by
    intro v11 b b' hi hb'
    obtain ⟨g0, g1, g2⟩ := idx_lt3 hi
    refine ⟨sameElse_ok _ _ _ (by omega) (by simp) h4' (fun k hk => by rw [List.getElem?_set, if_neg (by omega)]), ?_, sameBox_refl _ (by omega)⟩
    rw [idx_iff]
    exact ⟨g0, by rw [List.getElem?_set, if_pos rfl, if_pos (by omega)]⟩
  cases how with
  | end' h17 => rw [h17]; rfl
  | yield h17 h1' => rw [h17]; rfl
  | print h17 h10 h1' => rw [h17]; rfl
  | @full v11 b h17 h11 hb h =>
    have hbm : b ∈ bs := List.mem_of_getElem? (idx_lt3 hb).2.2
    have hp := i_BoxPut_val b w10 (hall b hbm) x10
    rw [if_neg h] at hp
    rw [h17, bind_some', bind_some', show igt 1 2 = false from rfl, if_neg (by decide), h11, bind_some', bind_some', show ieq 1 1 = true from rfl, if_pos rfl, hb, bind_some', i10, bind_some', hp, bind_some', if_pos (by rfl),
      sameElse_ok bs bs v11 (by omega) rfl h4' (fun _ _ => rfl)]
    rfl
  | @put v11 v10 v1 b b' h17 h11 h10 h1' hb h hb' =>
    have hbm : b ∈ bs := List.mem_of_getElem? (idx_lt3 hb).2.2
    have hp := i_BoxPut_val b v10 (hall b hbm) (by rw [i10] at h10; cases h10; exact x10)
    rw [if_pos h] at hp
    obtain ⟨e1, e2, e3⟩ := hset v11 b b' hb (by rw [hb']; have := h4 b hbm; simp; omega)
    rw [h17, bind_some', bind_some', show igt 1 2 = false from rfl, if_neg (by decide), h11, bind_some', bind_some', show ieq 1 1 = true from rfl, if_pos rfl, hb, bind_some', h10, bind_some', hp, bind_some', if_pos (by rfl), e1, bind_some', bind_some', if_pos rfl,
      if_neg (by simp [bnot]), e2, bind_some', ← hb', e3]
    rfl
  | @none v11 b h17 h11 hb h =>
    have hbm : b ∈ bs := List.mem_of_getElem? (idx_lt3 hb).2.2
    rw [h17, bind_some', bind_some', show igt 2 2 = false from rfl, if_neg (by decide), h11, bind_some', bind_some', show ieq 2 1 = false from rfl, if_neg (by decide), hb, bind_some', i_BoxTake_nil b (hall b hbm) h, bind_some', if_pos (by rfl),
      sameElse_ok bs bs v11 (by omega) rfl h4' (fun _ _ => rfl)]
    rfl
  | @take v11 v1 v b b' t h17 h11 h1' hb h hb' =>
    have hbm : b ∈ bs := List.mem_of_getElem? (idx_lt3 hb).2.2
    obtain ⟨e1, e2, e3⟩ := hset v11 b b' hb (by rw [hb']; have := h4 b hbm; rw [h] at this; simp at this ⊢; omega)
    have er : idx (m.Regs.set (Int.toNat 10) v) 10 = some v := by
      refine idx_at (k := 10) ?_
      rw [List.getElem?_set, if_pos (show Int.toNat 10 = 10 from rfl), if_pos (by rw [h1]; decide)]
    rw [h17, bind_some', bind_some', show igt 2 2 = false from rfl, if_neg (by decide), h11, bind_some', bind_some', show ieq 2 1 = false from rfl, if_neg (by decide), hb, bind_some', i_BoxTake_cons b v t (hall b hbm) h, bind_some', if_pos (by rfl), e1, bind_some', bind_some', if_pos rfl,
      if_neg (by simp [bnot]), e2, bind_some', ← hb', e3, bind_some', if_pos rfl, er, bind_some', ieq_refl]
    rfl
end Go.Abs
