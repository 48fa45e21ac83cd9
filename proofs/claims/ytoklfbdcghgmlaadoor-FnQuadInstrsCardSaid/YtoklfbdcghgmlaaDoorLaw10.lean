/- laws.FnQuadInstrs' mirror: true for each code. -/
import Derived.Test.YtoklfbdcghgmlaaDoorQuadGI
set_option linter.unusedSimpArgs false
set_option linter.unusedVariables false
set_option maxHeartbeats 8000000
namespace Go.Abs
open Go

theorem even_of (off n : Int) (h : remx off 4 = some 0) : remx (off - 4 * n) 2 = some 0 := by
  unfold remx at h ⊢
  rw [if_neg (by omega)] at h ⊢
  have h1 : (4 : Int) ∣ off := Int.dvd_of_tmod_eq_zero (Option.some.inj h)
  rw [Int.tmod_eq_zero_of_dvd]
  omega
theorem quad_gi (q : gQuad) (c off : Int) (hc : 1 ≤ c ∧ c ≤ 8) (ho : -100000 ≤ off ∧ off ≤ 100000) (h4 : remx off 4 = some 0) (h1 : 1 ≤ q.Op ∧ q.Op ≤ 10) (hd : 0 ≤ q.Dst ∧ q.Dst ≤ 11) (ha : 0 ≤ q.A ∧ q.A ≤ 11) (hb : 0 ≤ q.B ∧ q.B ≤ 11)
    (hn : q.Op = 3 → 1 ≤ q.N ∧ q.N ≤ 12) (hw : q.Op = 1 → -2147483648 ≤ q.N ∧ q.N ≤ 2147483647) (hx : q.Op = 6 ∨ q.Op = 7 → 0 ≤ q.N ∧ q.N ≤ 2) : ∃ l, s_l43Quad q c off = some l ∧ ∀ i ∈ l, GI c i := by
  obtain ⟨rd, hrd, hd1, hd2⟩ := reg_val q.Dst c 7 (by omega)
  obtain ⟨ra, hra, ha1, ha2⟩ := reg_val q.A c 5 (by omega)
  obtain ⟨rb, hrb, hb1, hb2⟩ := reg_val q.B c 6 (by omega)
  have R0 : (0 : Int) ∈ regsOf c := regsOf_base c (by simp)
  have R1 : (1 : Int) ∈ regsOf c := regsOf_base c (by simp)
  have R2 : (2 : Int) ∈ regsOf c := regsOf_base c (by simp)
  have R5 : (5 : Int) ∈ regsOf c := regsOf_base c (by simp)
  have R6 : (6 : Int) ∈ regsOf c := regsOf_base c (by simp)
  have R7 : (7 : Int) ∈ regsOf c := regsOf_base c (by simp)
  have R10 : (10 : Int) ∈ regsOf c := regsOf_base c (by simp)
  have R11 : (11 : Int) ∈ regsOf c := regsOf_base c (by simp)
  have R17 : (17 : Int) ∈ regsOf c := regsOf_base c (by simp)
  have md : rd ∈ regsOf c := regs_mem (by omega) R7 hrd
  have ma : ra ∈ regsOf c := regs_mem (by omega) R5 hra
  have mb : rb ∈ regsOf c := regs_mem (by omega) R6 hrb
  have f12 : ∀ x y n : Int, x ∈ regsOf c → y ∈ regsOf c → -2048 ≤ n → n ≤ 2047 → GI c ⟨12, x, y, 0, n⟩ := fun x y n a b d e => valid_I c (.inl rfl) a b ⟨d, e⟩
  have f13 : ∀ x : Int, x ∈ regsOf c → GI c ⟨13, x, x, 0, 1⟩ := fun x a => valid_I c (.inr (.inl rfl)) a a (by omega)
  have f15 : GI c ⟨15, 1, 0, 0, 0⟩ := valid_I c (.inr (.inr (.inr rfl))) R1 R0 (by omega)
  have im : ∀ p : Int, ilt p c = false → p ≤ 11 → imul .i64 4 (isub .i64 p c) = 4 * (p - c) ∧ 0 ≤ 4 * (p - c) ∧ 4 * (p - c) ≤ 44 := by
    intro p h1 h2
    have h3 : ¬ p < c := by rw [← ilt_iff, h1]; simp
    rw [isub_eq _ _ (by omega), imul_eq _ _ (by omega)]; omega
  have flw : ∀ p s : Int, s ∈ regsOf c → ilt p c = false → p ≤ 11 → GI c ⟨14, s, 2, 0, imul .i64 4 (isub .i64 p c)⟩ := fun p s a b d => by
    obtain ⟨e1, e2, e3⟩ := im p b d
    rw [e1]; exact valid_I c (.inr (.inr (.inl rfl))) a R2 (by omega)
  have fsw : ∀ p : Int, ilt p c = false → p ≤ 11 → GI c ⟨16, 0, 2, 7, imul .i64 4 (isub .i64 p c)⟩ := fun p b d => by
    obtain ⟨e1, e2, e3⟩ := im p b d
    rw [e1]; exact valid_S c R2 R7 (by omega)
  have fj : ∀ n : Int, 0 ≤ n → n ≤ 3 → GI c ⟨20, 0, 0, 0, isub .i64 off (imul .i64 4 n)⟩ := fun n a b => by
    rw [imul_eq _ _ (by omega), isub_eq _ _ (by omega)]
    exact valid_jal c (by omega) (even_of off n h4)
  have fj0 : GI c ⟨20, 0, 0, 0, off⟩ := by
    have := valid_jal c (imm := off) (by omega) (by have := even_of off 0 h4; simpa using this)
    exact this
  have fb : ∀ x : Int, x ∈ regsOf c → GI c ⟨18, 0, x, 0, 8⟩ := fun x a => valid_bne c a
  unfold s_l43Quad
  rw [hrd]
  simp only [bind_some', ieq]
  have hop : q.Op = 1 ∨ q.Op = 2 ∨ q.Op = 3 ∨ q.Op = 4 ∨ q.Op = 5 ∨ q.Op = 6 ∨ q.Op = 7 ∨ q.Op = 8 ∨ q.Op = 9 ∨ q.Op = 10 := by omega
  rcases hop with h | h | h | h | h | h | h | h | h | h
  · have hn := hw h
    obtain ⟨u, hu, _⟩ := unsigned_ok q.N
    obtain ⟨lo, hlo, lo1, lo2⟩ := bits_lt u 0 12 (by omega)
    obtain ⟨s, hs, hs1, hs2⟩ := sx12 lo ⟨lo1, by have : ((2 : Int) ^ 12) = 4096 := by decide
                                                 omega⟩
    have e : isub .i64 q.N s = q.N - s := isub_eq _ _ (by omega)
    have hwv := wrap_val (q.N - s) (by omega)
    obtain ⟨u2, hu2, _⟩ := unsigned_ok ((q.N - s + 2147483648) % 4294967296 - 2147483648)
    obtain ⟨hi, hhi, hi1, hi2⟩ := bits_lt u2 12 20 (by omega)
    have hi3 : hi ≤ 1048575 := by
      have : ((2 : Int) ^ 20) = 1048576 := by decide
      omega
    have fl : ∀ x : Int, x ∈ regsOf c → GI c ⟨19, x, 0, 0, hi⟩ := fun x a => valid_lui c a ⟨hi1, hi3⟩
    have hlo' : s_Bits u 0 12 = some lo := hlo
    have hhi' : s_Bits u2 12 20 = some hi := hhi
    simp only [h, s_l6In, bind_id, if_and, bind_some', hu, hlo', hs, e, hwv, hu2, hhi', beq_self_eq_true, if_true]
    cases hC : (ige q.N (-2048) && ile q.N 2047)
    · have g := f12 rd rd s md md hs1 hs2
      have g2 := fl rd md
      cases hD : ilt q.Dst c <;> simp [appx_s, g, g2, fsw, hD, hd.2, hwv, hu2, hhi']
    · have hC' : -2048 ≤ q.N ∧ q.N ≤ 2047 := by rw [Bool.and_eq_true, ige_iff, ile_iff] at hC; exact hC
      have g := f12 rd 0 q.N md R0 hC'.1 hC'.2
      cases hD : ilt q.Dst c <;> simp [appx_s, g, fsw, hD, hd.2]
  · have g := f12 rd ra 0 md ma (by omega) (by omega)
    simp only [h]
    cases hD : ilt q.Dst c <;> cases hA : ilt q.A c <;> simp [appx_s, s_l43Move, hra, g, flw, fsw, hD, hA, hd.2, ha.2, R5]
  · obtain ⟨vo, hvo, ho1, ho2⟩ := op_val q.N (hn h)
    have hv11 : 1 ≤ vo ∧ vo ≤ 11 := by
      obtain ⟨a, b, d⟩ := idx_lt3 ho2
      have := List.mem_of_getElem? d
      simp at this; omega
    have fr : GI c ⟨vo, rd, ra, rb, 0⟩ := valid_R c hv11 md ma mb
    simp only [h, s_l43Bin, hrd, hra, hrb, ho1, bind_some', ieq]
    by_cases hN : q.N = 4
    · simp only [hN]
      cases hD : ilt q.Dst c <;> cases hA : ilt q.A c <;> cases hB : ilt q.B c <;> simp [appx_s, fr, f13, md, flw, fsw, hD, hA, hB, hd.2, ha.2, hb.2, R5, R6]
    · have hN' : (q.N == 4) = false := by simpa using hN
      simp only [hN']
      cases hD : ilt q.Dst c <;> cases hA : ilt q.A c <;> cases hB : ilt q.B c <;> simp [appx_s, fr, f13, md, flw, fsw, hD, hA, hB, hd.2, ha.2, hb.2, R5, R6]
  · simp [h, fj0]
  · simp only [h, s_l43Zero]
    cases hA : ilt q.A c <;> simp [appx_s, ilen, hra, fb, ma, fj, flw, hA, ha.2, R5]
  · have hq := hx (.inl h)
    have g := f12 11 0 q.N R11 R0 (by omega) (by omega)
    have g1 := f12 17 0 1 R17 R0 (by omega) (by omega)
    have g2 := f12 10 ra 0 R10 ma (by omega) (by omega)
    simp only [h]
    cases hA : ilt q.A c <;> simp [appx_s, s_l43Move, s_l43Box, hra, g, g1, g2, f15, flw, hA, ha.2, R5]
  · have hq := hx (.inr h)
    have g := f12 11 0 q.N R11 R0 (by omega) (by omega)
    have g1 := f12 17 0 2 R17 R0 (by omega) (by omega)
    have g2 := f12 rd 10 0 md R10 (by omega) (by omega)
    simp only [h]
    cases hD : ilt q.Dst c <;> simp [appx_s, s_l43Move, s_l43Box, g, g1, g2, f15, fsw, hD, hd.2]
  · have g1 := f12 17 0 3 R17 R0 (by omega) (by omega)
    simp [h, appx_s, g1, f15]
  · have g1 := f12 17 0 4 R17 R0 (by omega) (by omega)
    have g2 := f12 10 ra 0 R10 ma (by omega) (by omega)
    simp only [h]
    cases hA : ilt q.A c <;> simp [appx_s, s_l43Move, hra, g1, g2, f15, flw, hA, ha.2, R5]
  · have g1 := f12 17 0 5 R17 R0 (by omega) (by omega)
    simp [h, appx_s, g1, f15]

theorem quadValid_box (q : gQuad) (n : Int) (h : s_QuadValid q n = some true) (ho : q.Op = 6 ∨ q.Op = 7) : 0 ≤ q.N ∧ q.N ≤ 2 := by
  obtain ⟨op, d, a, b, m⟩ := q
  unfold s_QuadValid at h
  simp only [s_l21Regs, s_l21Reg, s_WordValid, s_OpValid, s_l6In, if_true, Bool.false_eq_true, if_false, bind_id, if_and, if_or, bind_some'] at h
  simp only [ieq, ige, ile, ilt] at h
  simp only at ho
  rcases ho with rfl | rfl <;> simp at h <;> simp only <;> omega

theorem hasInt_mem (l : List Int) (x : Int) (hx : x ∈ l) (hl : l.length ≤ 1000000) : l_hasInt l x = some true := by
  unfold l_hasInt
  obtain ⟨e, he, hd⟩ := loopM_rule (step := l_hasInt_L1 l x) (s := 0) (fun s => ∃ k : Nat, s = k ∧ x ∈ l.drop k) (fun s => l.length - s.toNat) (fun e => e = .inr true) ⟨0, rfl, hx⟩ (by
    rintro s ⟨k, rfl, hm⟩
    have hk : k < l.length := by
      rcases Nat.lt_or_ge k l.length with h | h
      · exact h
      · rw [List.drop_eq_nil_of_le h] at hm; cases hm
    unfold l_hasInt_L1
    dsimp only
    rw [if_pos (by rw [ilt_iff]; simp [ilen]; exact hk)]
    have hi : idx l (k : Int) = some l[k] := by rw [idx_nat, List.getElem?_eq_getElem hk]
    simp only [hi, bind_some']
    by_cases h : l[k] = x
    · right
      rw [if_pos (by rw [ieq_iff]; exact h)]
      exact ⟨_, rfl, rfl⟩
    · left
      rw [if_neg (by rw [ieq_iff]; exact h)]
      refine ⟨_, rfl, ⟨k + 1, ?_, ?_⟩, ?_⟩
      · rw [iadd_eq _ _ (by omega)]; rfl
      · rw [List.drop_eq_getElem_cons hk] at hm
        rcases List.mem_cons.1 hm with h' | h'
        · exact absurd h'.symm h
        · exact h'
      · rw [iadd_eq _ _ (by omega)]; omega)
  rw [he, hd]; rfl

theorem quadInstrs_loop (l : List gInstr) (b : Bool) (c : Int) (hg : ∀ i ∈ l, GI c i) (hl : l.length ≤ 1000000) (hr : (regsOf c).length ≤ 1000000) : loopM (l_FnQuadInstrs_L1 (l, b)) (0, regsOf c) = some (.inl ()) := by
  obtain ⟨e, he, hd⟩ := loopM_rule (step := l_FnQuadInstrs_L1 (l, b)) (s := (0, regsOf c)) (fun s => ∃ k : Nat, k ≤ l.length ∧ s = ((k : Int), regsOf c)) (fun s => l.length - s.1.toNat) (fun e => e = .inl ()) ⟨0, by omega, rfl⟩ (by
    rintro s ⟨k, hk, rfl⟩
    unfold l_FnQuadInstrs_L1
    by_cases h : k < l.length
    · left
      dsimp only
      rw [if_pos (by rw [ilt_iff]; simp [ilen]; exact h)]
      have hi : idx l (k : Int) = some l[k] := by rw [idx_nat, List.getElem?_eq_getElem h]
      obtain ⟨g1, g2, g3, g4⟩ := hg _ (List.getElem_mem h)
      simp only [hi, bind_some', g1, hasInt_mem _ _ g2 hr, hasInt_mem _ _ g3 hr, hasInt_mem _ _ g4 hr, bnot, Bool.not_true, Bool.false_eq_true, if_false]
      refine ⟨_, rfl, ⟨k + 1, by omega, ?_⟩, ?_⟩
      · rw [iadd_eq _ _ (by omega)]; rfl
      · simp only; rw [iadd_eq _ _ (by omega)]; omega
    · right
      dsimp only
      rw [if_neg (by rw [ilt_iff]; simp [ilen]; omega)]
      exact ⟨_, rfl, rfl⟩)
  rw [he, hd]

theorem qlen_pos (q : gQuad) (c : Int) : 1 ≤ qlen q c := by
  unfold qlen
  repeat' split
  all_goals omega

theorem fnQuadInstrs_true (l : List Int) (hb : Bytes l) : l_FnQuadInstrs l = some true := by
  unfold l_FnQuadInstrs
  split
  · rfl
  rename_i h
  rw [igt_iff] at h
  obtain ⟨r1, h1, _⟩ := drawQuadInstrs_ok hb (by unfold ilen at h; omega)
  rw [h1, bind_some']
  rcases quadInstrs_eq r1.1 r1.2.1 r1.2.2 with ⟨x, hg, hc, k1, k2, g2, g3, g6, g7, g8, g9⟩ | ⟨k1, k2⟩
  · rw [k1, k2]
    have hl : x.length ≤ 1000000 := by omega
    have hs := sameInstrs_refl x hl
    obtain ⟨v, hv, hv1⟩ := quadValid_ok r1.1 600
    obtain ⟨e1, e2, e3, e4⟩ := hg
    rw [e1] at hv
    cases hv
    obtain ⟨m1, m2, m3, m4, m5, m6, m7, m8, m9, m10⟩ := hv1 rfl
    obtain ⟨x', hx', hgi⟩ := quad_gi r1.1 r1.2.1 r1.2.2 hc ⟨e2, e3⟩ e4 ⟨m1, m2⟩ ⟨m3, m4⟩ ⟨m5, m6⟩ ⟨m7, m8⟩ m9 m10 (quadValid_box _ _ e1)
    rw [g3] at hx'
    cases hx'
    have hcut : cutx ([8, 9, 18, 19, 20, 21, 22, 23] : List Int) 0 r1.2.1 = some (([8, 9, 18, 19, 20, 21, 22, 23] : List Int).take r1.2.1.toNat) := by
      unfold cutx; rw [if_pos (by simp; omega)]; rfl
    have hap : appx 8 ([0, 1, 2, 5, 6, 7, 10, 11, 17] : List Int) (([8, 9, 18, 19, 20, 21, 22, 23] : List Int).take r1.2.1.toNat) = some (regsOf r1.2.1) := by
      rw [appx_ok]; rfl
      simp only [List.length_take, List.length_cons, List.length_nil]; unfold maxLen; omega
    have hq := quadInstrs_loop x true r1.2.1 hgi hl (by unfold regsOf; simp only [List.length_append, List.length_take, List.length_cons, List.length_nil]; omega)
    have hp := qlen_pos r1.1 r1.2.1
    have f1 : ige (ilen x) 1 = true := by rw [ige_iff]; unfold ilen; omega
    have f2 : ile (ilen x) 5 = true := by rw [ile_iff]; unfold ilen; omega
    simp only [bind_some', hs, bneb, beqb, bnot, beq_self_eq_true, Bool.not_true, Bool.false_eq_true, if_false, if_true, hcut, hap, hq, f1, f2]
  · rw [k1, k2]
    have := sameInstrs_refl [] (by simp)
    simp [bneb, beqb, bnot, this]
end Go.Abs
