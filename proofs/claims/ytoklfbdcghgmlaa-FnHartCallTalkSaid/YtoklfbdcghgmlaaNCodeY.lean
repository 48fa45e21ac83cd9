/- The instructions of a drawn code are valid, and are encoded. -/
import Derived.Test.YtoklfbdcghgmlaaNDrawY
set_option linter.unusedSimpArgs false
set_option linter.unusedVariables false
set_option maxHeartbeats 8000000
namespace Go.Abs
open Go

theorem in6 {x a b : Int} (h : a ≤ x ∧ x ≤ b) : s_l6In x a b = some true := by
  unfold s_l6In
  simp only [if_and, bind_id, bind_some']
  have : (ige x a && ile x b) = true := by rw [Bool.and_eq_true, ige_iff, ile_iff]; omega
  rw [this]
theorem bitsY (u : Int) (l m : Nat) (h : l ≤ 31 ∧ 1 ≤ m ∧ m + l ≤ 32) : ∃ v, s_Bits u l m = some v ∧ 0 ≤ v ∧ v < 2 ^ m := by
  have pl : (0 : Int) < 2 ^ l := by exact_mod_cast Nat.pow_pos (n := l) (by decide : 0 < 2)
  have pm : (0 : Int) < 2 ^ m := by exact_mod_cast Nat.pow_pos (n := m) (by decide : 0 < 2)
  have pm' : (2 : Int) ^ m ≤ 2 ^ 32 := by exact_mod_cast Nat.pow_le_pow_right (by decide) (by omega)
  unfold s_Bits
  rw [in6 (x := (l : Int)) (by omega), isub_eq _ _ (by omega), in6 (x := (m : Int)) (by omega), power_eq l (by omega), power_eq m (by omega)]
  by_cases hu : 0 ≤ u ∧ u ≤ 4294967295
  · rw [in6 hu]
    simp only [bind_some', show bnot true = false from rfl, Bool.false_eq_true, if_false]
    rw [quox_eq u _ hu.1 (by omega) pl]
    simp only [bind_some']
    have hv0 : 0 ≤ u / 2 ^ l := Int.ediv_nonneg hu.1 (by omega)
    rw [remx_eq _ _ hv0 pm]
    exact ⟨_, rfl, Int.emod_nonneg _ (by omega), Int.emod_lt_of_pos _ pm⟩
  · have e : s_l6In u 0 4294967295 = some false := by
      unfold s_l6In
      simp only [if_and, bind_id, bind_some']
      have : (ige u 0 && ile u 4294967295) = false := by rw [Bool.eq_false_iff, ne_eq, Bool.and_eq_true, ige_iff, ile_iff]; omega
      rw [this]
    rw [e]
    exact ⟨0, rfl, by omega, pm⟩
theorem sx12 (u : Int) (h : 0 ≤ u ∧ u < 4096) : ∃ v, s_SignExtend u 12 = some v ∧ -2048 ≤ v ∧ v ≤ 2047 := by
  unfold s_SignExtend
  have p12 : s_l1Power 12 = some 4096 := power_eq 12 (by decide)
  have p11 : s_l1Power 11 = some 2048 := power_eq 11 (by decide)
  rw [in6 (x := 12) (by decide), isub_eq 12 1 (by decide), show (12 : Int) - 1 = 11 from rfl, p12, p11]
  simp only [bind_some', show bnot true = false from rfl, Bool.false_eq_true, if_false]
  rw [isub_eq 4096 1 (by decide), in6 (x := u) (by omega)]
  simp only [bind_some', show bnot true = false from rfl, Bool.false_eq_true, if_false]
  by_cases hu : u ≥ 2048
  · rw [if_pos (by rw [ige_iff]; exact hu), isub_eq _ _ (by omega)]; exact ⟨_, rfl, by omega, by omega⟩
  · rw [if_neg (by rw [ige_iff]; exact hu)]; exact ⟨_, rfl, by omega, by omega⟩

/-- a valid instruction -/
def VI (i : gInstr) : Prop := s_InstrValid i = some true ∧ 1 ≤ i.Op ∧ i.Op ≤ 21
theorem i31 : imul .i64 1 31 = 31 := rfl
theorem i0 : imul .i64 0 31 = 0 := rfl
theorem vi_I (op rd rs imm : Int) (h : 12 ≤ op ∧ op ≤ 15) (h1 : 0 ≤ rd ∧ rd ≤ 31) (h2 : 0 ≤ rs ∧ rs ≤ 31) (h3 : -2048 ≤ imm ∧ imm ≤ 2047) : VI ⟨op, rd, rs, 0, imm⟩ := by
  refine ⟨?_, by simp only []; omega, by simp only []; omega⟩
  unfold s_InstrValid s_l42Regs
  have e : s_l6In op 1 11 = some false := by
    unfold s_l6In
    simp only [if_and, bind_id, bind_some']
    have : (ige op 1 && ile op 11) = false := by rw [Bool.eq_false_iff, ne_eq, Bool.and_eq_true, ige_iff, ile_iff]; omega
    rw [this]
  simp only [e, in6 h, in6 h3, i31, i0, in6 h1, in6 h2, in6 (x := 0) (a := 0) (b := 0) (by decide), bind_some', Bool.false_eq_true, if_false, if_true]
theorem vi_R (op rd rs rt : Int) (h : 1 ≤ op ∧ op ≤ 11) (h1 : 0 ≤ rd ∧ rd ≤ 31) (h2 : 0 ≤ rs ∧ rs ≤ 31) (h3 : 0 ≤ rt ∧ rt ≤ 31) : VI ⟨op, rd, rs, rt, 0⟩ := by
  refine ⟨?_, by simp only []; omega, by simp only []; omega⟩
  unfold s_InstrValid s_l42Regs
  simp only [in6 h, i31, in6 h1, in6 h2, in6 h3, bind_some', if_true, show ieq 0 0 = true from rfl]
theorem vi_lui (rd imm : Int) (h1 : 0 ≤ rd ∧ rd ≤ 31) (h3 : 0 ≤ imm ∧ imm ≤ 1048575) : VI ⟨19, rd, 0, 0, imm⟩ := by
  refine ⟨?_, by simp only []; omega, by simp only []; omega⟩
  unfold s_InstrValid s_l42Regs
  have a1 : s_l6In 19 1 11 = some false := rfl
  have a2 : s_l6In 19 12 15 = some false := rfl
  simp only [a1, a2, in6 h3, i31, i0, in6 h1, in6 (x := 0) (a := 0) (b := 0) (by decide), bind_some', Bool.false_eq_true, if_false, if_true, show ieq 19 16 = false from rfl, show ieq 19 17 = false from rfl, show ieq 19 18 = false from rfl, show ieq 19 19 = true from rfl]
theorem even_ok (k : Int) (a b : Int) (h : a ≤ 4 * k ∧ 4 * k ≤ b) : s_l42Even (4 * k) a b = some true := by
  unfold s_l42Even
  have : remx (4 * k) 2 = some 0 := by
    unfold remx
    rw [if_neg (by decide)]
    congr 1
    exact Int.tmod_eq_zero_of_dvd ⟨2 * k, by omega⟩
  simp only [in6 h, this, bind_some', if_true, show ieq 0 0 = true from rfl]
theorem vi_jal (k : Int) (h : -100000 ≤ k ∧ k ≤ 100000) : VI ⟨20, 0, 0, 0, 4 * k⟩ := by
  refine ⟨?_, by simp only []; omega, by simp only []; omega⟩
  unfold s_InstrValid s_l42Regs
  have a1 : s_l6In 20 1 11 = some false := rfl
  have a2 : s_l6In 20 12 15 = some false := rfl
  simp only [a1, a2, even_ok k (-1048576) 1048574 (by omega), i31, i0, in6 (x := 0) (a := 0) (b := 0) (by decide), in6 (x := 0) (a := 0) (b := 31) (by decide), bind_some', Bool.false_eq_true, if_false, if_true, show ieq 20 16 = false from rfl, show ieq 20 17 = false from rfl, show ieq 20 18 = false from rfl, show ieq 20 19 = false from rfl, show ieq 20 20 = true from rfl]
theorem vi_bne (rs : Int) (h : 0 ≤ rs ∧ rs ≤ 31) : VI ⟨18, 0, rs, 0, 8⟩ := by
  refine ⟨?_, by simp only []; omega, by simp only []; omega⟩
  unfold s_InstrValid s_l42Regs
  have a1 : s_l6In 18 1 11 = some false := rfl
  have a2 : s_l6In 18 12 15 = some false := rfl
  have a3 : s_l42Even 8 (-4096) 4094 = some true := even_ok 2 _ _ (by decide)
  simp only [a1, a2, a3, i31, i0, in6 (x := 0) (a := 0) (b := 0) (by decide), in6 (x := 0) (a := 0) (b := 31) (by decide), in6 h, bind_some', Bool.false_eq_true, if_false, if_true, show ieq 18 16 = false from rfl, show ieq 18 17 = false from rfl, show ieq 18 18 = true from rfl]

/-! a register of a place -/
theorem regY (p s : Int) (h : 0 ≤ p ∧ p < 6) : ∃ r, s_l43Reg p 8 s = some r ∧ 1 ≤ r ∧ r ≤ 31 := by
  unfold s_l43Reg
  rw [if_neg (by rw [ige_iff]; omega)]
  obtain ⟨v, hv, hm⟩ := idx_ok ([8, 9, 18, 19, 20, 21, 22, 23] : List Int) p h.1 (by simp; omega)
  rw [hv, bind_some']
  refine ⟨v, rfl, ?_⟩
  simp at hm
  omega
theorem readY (p s : Int) (h : 0 ≤ p ∧ p < 6) : s_l43Read p 8 s = some [] := by
  unfold s_l43Read
  rw [if_pos (by rw [ilt_iff]; omega)]
theorem read_o_eq : s_l43Read_o = s_l43Read := rfl
theorem writeY (l : List gInstr) (p : Int) (h : 0 ≤ p ∧ p < 6) : s_l43Write l p 8 = some l := by
  unfold s_l43Write
  rw [if_pos (by rw [ilt_iff]; omega)]
theorem app40 (l m : List gInstr) (h : l.length + m.length ≤ 1000) : appx 40 l m = some (l ++ m) := appx_ok 40 _ _ (by unfold maxLen; omega)

theorem constY (rd n : Int) (h : 1 ≤ rd ∧ rd ≤ 31) (hn : isW n = true) : Ok (s_l43Const_o rd n) (fun l => l.length ≤ 2 ∧ ∀ i ∈ l, VI i) := by
  have hw : -2147483648 ≤ n ∧ n ≤ 2147483647 := by simpa [isW] using hn
  unfold s_l43Const_o
  by_cases hs : -2048 ≤ n ∧ n ≤ 2047
  · rw [in6 hs, bind_some', if_pos rfl]
    exact Ok.pure ⟨by simp, by intro i hi; simp at hi; subst hi; exact vi_I 12 rd 0 n (by decide) (by omega) (by decide) hs⟩
  · have e : s_l6In n (-2048) 2047 = some false := by
      unfold s_l6In
      simp only [if_and, bind_id, bind_some']
      have : (ige n (-2048) && ile n 2047) = false := by rw [Bool.eq_false_iff, ne_eq, Bool.and_eq_true, ige_iff, ile_iff]; omega
      rw [this]
    rw [e, bind_some', if_neg (by decide)]
    obtain ⟨u, hu, _, _, _⟩ := unsigned_ok n
    obtain ⟨b1, hb1, b2, b3⟩ := bitsY u 0 12 (by decide)
    replace hb1 : s_Bits u 0 12 = some b1 := hb1
    obtain ⟨x, hx, x1, x2⟩ := sx12 b1 ⟨b2, by simpa using b3⟩
    obtain ⟨w, hw1, _⟩ := Ok.wrap (isub .i64 n x) (by rw [isub_eq _ _ (by omega)]; omega)
    obtain ⟨u2, hu2, _, _, _⟩ := unsigned_ok w
    obtain ⟨b4, hb4, b5, b6⟩ := bitsY u2 12 20 (by decide)
    replace hb4 : s_Bits u2 12 20 = some b4 := hb4
    rw [hu, bind_some', hb1, bind_some', hx, bind_some', hw1, bind_some', hu2, bind_some', hb4, bind_some', bind_some', app40 _ _ (by simp), bind_some']
    refine Ok.pure ⟨by simp, ?_⟩
    intro i hi
    simp at hi
    rcases hi with rfl | rfl
    · have h20 : (2 : Int) ^ 20 = 1048576 := by decide
      exact vi_lui rd b4 (by omega) ⟨b5, by omega⟩
    · exact vi_I 12 rd rd x (by decide) (by omega) (by omega) ⟨x1, x2⟩
theorem moveVI (rd rs : Int) (h : 1 ≤ rd ∧ rd ≤ 31) (h' : 0 ≤ rs ∧ rs ≤ 31) : VI ⟨12, rd, rs, 0, 0⟩ := vi_I 12 rd rs 0 (by decide) (by omega) h' (by decide)
theorem callY (l : List gInstr) (n : Int) (hl : l.length ≤ 100) (hn : 0 ≤ n ∧ n ≤ 5) (h : ∀ i ∈ l, VI i) : Ok (s_l43Call l n) (fun q => q.length = l.length + 2 ∧ ∀ i ∈ q, VI i) := by
  unfold s_l43Call
  rw [app40 _ _ (by simp; omega), bind_some', app40 _ _ (by simp; omega), bind_some']
  refine Ok.pure ⟨by simp, ?_⟩
  intro i hi
  simp at hi
  rcases hi with hi | rfl | rfl
  · exact h i hi
  · exact vi_I 12 17 0 n (by decide) (by decide) (by decide) (by omega)
  · exact vi_I 15 1 0 0 (by decide) (by decide) (by decide) (by decide)
theorem call_o_eq : s_l43Call_o = s_l43Call := rfl
theorem giveY (p : Int) (h : 0 ≤ p ∧ p < 6) : Ok (s_l43Give_o p 8) (fun q => q.length = 1 ∧ ∀ i ∈ q, VI i) := by
  obtain ⟨r, hr, hr1⟩ := regY p 5 h
  unfold s_l43Give_o s_l43Move
  rw [read_o_eq, readY p 5 h, bind_some', hr, bind_some', bind_some', app40 _ _ (by simp), bind_some']
  refine Ok.pure ⟨by simp, ?_⟩
  intro i hi
  simp at hi
  subst hi
  exact moveVI 10 r (by decide) (by omega)
theorem binY (q : gQuad) (n : Int) (hq : GQ n q) (h3 : q.Op = 3) : Ok (s_l43Bin q 8) (fun l => l.length ≤ 2 ∧ ∀ i ∈ l, VI i) := by
  obtain ⟨r4, e4, g4⟩ := regY q.Dst 7 hq.dst
  obtain ⟨r6, e6, g6⟩ := regY q.A 5 hq.a
  obtain ⟨r7, e7, g7⟩ := regY q.B 6 hq.b
  have hn := hq.bin h3
  obtain ⟨o, ho, hm⟩ := idx_ok ([7, 8, 6, 8, 11, 9, 10, 1, 2, 3, 4, 5] : List Int) (q.N - 1) (by omega) (by simp; omega)
  have hop : s_l43Op q.N = some o := by
    unfold s_l43Op
    rw [isub_eq _ _ (by omega), ho]; rfl
  have hor : 1 ≤ o ∧ o ≤ 11 := by simp at hm; omega
  unfold s_l43Bin
  have a0 : appx 40 ([] : List gInstr) [] = some [] := app40 _ _ (by simp)
  have a1 : appx 40 ([] : List gInstr) [⟨o, r4, r6, r7, 0⟩] = some [⟨o, r4, r6, r7, 0⟩] := app40 _ _ (by simp)
  have a2 : appx 40 ([⟨o, r4, r6, r7, 0⟩] : List gInstr) [⟨13, r4, r4, 0, 1⟩] = some [⟨o, r4, r6, r7, 0⟩, ⟨13, r4, r4, 0, 1⟩] := app40 _ _ (by simp)
  simp only [read_o_eq, readY q.A 5 hq.a, readY q.B 6 hq.b, a0, e4, hop, e6, e7, a1, a2, bind_some']
  have v1 := vi_R o r4 r6 r7 hor (by omega) (by omega) (by omega)
  by_cases h4 : ieq q.N 4 = true
  · rw [if_pos h4, bind_some', writeY _ _ hq.dst, bind_some']
    refine Ok.pure ⟨by simp, ?_⟩
    intro i hi
    simp at hi
    rcases hi with rfl | rfl
    · exact v1
    · exact vi_I 13 r4 r4 1 (by decide) (by omega) (by omega) (by decide)
  · rw [if_neg h4, bind_some', writeY _ _ hq.dst, bind_some']
    refine Ok.pure ⟨by simp, ?_⟩
    intro i hi
    simp at hi
    subst hi
    exact v1
theorem quadY (q : gQuad) (n k : Int) (hq : GQ n q) (hk : -10000 ≤ k ∧ k ≤ 10000) : Ok (s_l43Quad q 8 (4 * k)) (fun l => l.length ≤ 5 ∧ ∀ i ∈ l, VI i) := by
  obtain ⟨r1, e1, g1⟩ := regY q.Dst 7 hq.dst
  unfold s_l43Quad
  rw [e1, bind_some']
  refine Ok.ite (fun h => ?_) fun h1 => ?_
  · rw [ieq_iff] at h
    refine Ok.bind (constY r1 q.N g1 (hq.con h)) fun l hl => ?_
    rw [writeY _ _ hq.dst, bind_some']
    exact Ok.pure ⟨by omega, hl.2⟩
  refine Ok.ite (fun h => ?_) fun h2 => ?_
  · obtain ⟨r5, e5, g5⟩ := regY q.A 5 hq.a
    unfold s_l43Move
    rw [read_o_eq, readY _ _ hq.a, bind_some', e5, bind_some', bind_some', app40 _ _ (by simp), bind_some', writeY _ _ hq.dst, bind_some']
    refine Ok.pure ⟨by simp, ?_⟩
    intro i hi; simp at hi; subst hi
    exact moveVI r1 r5 g1 (by omega)
  refine Ok.ite (fun h => ?_) fun h3 => ?_
  · rw [ieq_iff] at h
    exact Ok.bind (binY q n hq h) fun l hl => Ok.pure ⟨by omega, hl.2⟩
  refine Ok.ite (fun h => ?_) fun h4 => ?_
  · refine Ok.pure ⟨by simp, ?_⟩
    intro i hi; simp at hi; subst hi
    exact vi_jal k (by omega)
  refine Ok.ite (fun h => ?_) fun h5 => ?_
  · obtain ⟨r2, e2, g2⟩ := regY q.A 5 hq.a
    unfold s_l43Zero
    have ea : imul .i64 4 (ilen ([] ++ [(⟨18, 0, r2, 0, 8⟩ : gInstr)])) = 4 := rfl
    have eb : isub .i64 (4 * k) 4 = 4 * (k - 1) := by rw [isub_eq _ _ (by omega)]; omega
    rw [read_o_eq, readY _ _ hq.a, bind_some', e2, bind_some', app40 _ _ (by simp), bind_some', ea, eb, app40 _ _ (by simp), bind_some', bind_some']
    refine Ok.pure ⟨by simp, ?_⟩
    intro i hi; simp at hi
    rcases hi with rfl | rfl
    · exact vi_bne r2 (by omega)
    · exact vi_jal (k - 1) (by omega)
  refine Ok.ite (fun h => ?_) fun h6 => ?_
  · rw [ieq_iff] at h
    have hb := hq.box (.inl h)
    refine Ok.bind (giveY q.A hq.a) fun l hl => ?_
    unfold s_l43Box
    rw [bind_some', app40 _ _ (by simp; omega), bind_some']
    refine Ok.bind (callY _ 1 (by simp; omega) (by decide) ?_) fun l2 hl2 => Ok.pure ⟨by have := hl2.1; simp at this; omega, hl2.2⟩
    intro i hi
    rcases List.mem_append.1 hi with hi | hi
    · exact hl.2 i hi
    · simp at hi; subst hi; exact vi_I 12 11 0 q.N (by decide) (by decide) (by decide) (by omega)
  refine Ok.ite (fun h => ?_) fun h7 => ?_
  · rw [ieq_iff] at h
    have hb := hq.box (.inr h)
    unfold s_l43Box s_l43Move
    rw [bind_some', bind_some', call_o_eq]
    refine Ok.bind (callY _ 2 (by simp) (by decide) ?_) fun l2 hl2 => ?_
    · intro i hi; simp at hi; subst hi; exact vi_I 12 11 0 q.N (by decide) (by decide) (by decide) (by omega)
    · rw [bind_some', app40 _ _ (by simp; have := hl2.1; simp at this; omega), bind_some', writeY _ _ hq.dst, bind_some']
      refine Ok.pure ⟨by have := hl2.1; simp at this ⊢; omega, ?_⟩
      intro i hi
      rcases List.mem_append.1 hi with hi | hi
      · exact hl2.2 i hi
      · simp at hi; subst hi; exact moveVI r1 10 g1 (by decide)
  refine Ok.ite (fun h => ?_) fun h8 => ?_
  · rw [bind_some']
    exact Ok.bind (callY [] 3 (by simp) (by decide) (by simp)) fun l2 hl2 => Ok.pure ⟨by have := hl2.1; simp at this; omega, hl2.2⟩
  refine Ok.ite (fun h => ?_) fun h9 => ?_
  · refine Ok.bind (giveY q.A hq.a) fun l hl => ?_
    exact Ok.bind (callY l 4 (by omega) (by decide) hl.2) fun l2 hl2 => Ok.pure ⟨by have := hl2.1; omega, hl2.2⟩
  · rw [bind_some']
    exact Ok.bind (callY [] 5 (by simp) (by decide) (by simp)) fun l2 hl2 => Ok.pure ⟨by have := hl2.1; simp at this; omega, hl2.2⟩
end Go.Abs
