/- The draws of a machine's code end, and give valid instructions. -/
import Derived.Test.YtoklfbdcghgmlaaNPickY
import Derived.Test.YtoklfbdcghgmlaaNPlI
set_option linter.unusedSimpArgs false
set_option linter.unusedVariables false
set_option maxHeartbeats 4000000
namespace Go.Abs
open Go

/-- a part ends, and what it gives has P -/
def Ok {α : Type} (o : Option α) (P : α → Prop) : Prop := ∃ v, o = some v ∧ P v
theorem Ok.bind {α β : Type} {o : Option α} {f : α → Option β} {P : α → Prop} {Q : β → Prop} (h : Ok o P) (k : ∀ v, P v → Ok (f v) Q) : Ok (o.bind f) Q := by
  obtain ⟨v, rfl, hv⟩ := h
  exact k v hv
theorem Ok.ite {α : Type} {c : Prop} [Decidable c] {x y : Option α} {P : α → Prop} (a : c → Ok x P) (b : ¬ c → Ok y P) : Ok (if c then x else y) P := by
  by_cases h : c
  · rw [if_pos h]; exact a h
  · rw [if_neg h]; exact b h
theorem Ok.pure {α : Type} {v : α} {P : α → Prop} (h : P v) : Ok (some v) P := ⟨v, rfl, h⟩
theorem Ok.mono {α : Type} {o : Option α} {P Q : α → Prop} (h : Ok o P) (k : ∀ v, P v → Q v) : Ok o Q := by
  obtain ⟨v, e, hv⟩ := h
  exact ⟨v, e, k v hv⟩
theorem Ok.idx {α : Type} {l : List α} {i : Int} (h : 0 ≤ i ∧ i < l.length) : Ok (Go.Abs.idx l i) (fun v => v ∈ l) := by
  obtain ⟨v, e, hv⟩ := idx_ok l i h.1 h.2
  exact ⟨v, e, hv⟩

theorem Rd.le {b : List Int} {k k' : Int} {r : gL6Rd} (h : Rd b k r) (hk : k ≤ k') : Rd b k' r := ⟨h.1, h.2.1, Int.le_trans h.2.2 hk⟩
theorem power_eq (n : Nat) (hn : n ≤ 62) : s_l1Power n = some ((2 : Int) ^ n) := by
  unfold s_l1Power
  obtain ⟨e, he, hd⟩ := loopM_rule (step := s_l1Power_L1 n) (s := (1, 0)) (fun s => ∃ k : Nat, k ≤ n ∧ s = ((2 : Int) ^ k, (k : Int))) (fun s => n - s.2.toNat) (fun e => e = (2 : Int) ^ n) ⟨0, by omega, rfl⟩ (by
    rintro s ⟨k, hk, rfl⟩
    unfold s_l1Power_L1
    dsimp only
    by_cases h : k < n
    · left
      rw [if_pos (by rw [ilt_iff]; omega)]
      have hp : (2 : Int) ^ k ≤ 2 ^ 61 := by exact_mod_cast Nat.pow_le_pow_right (by decide) (by omega)
      have hp0 : (0 : Int) < (2 : Int) ^ k := by exact_mod_cast Nat.pow_pos (n := k) (by decide : 0 < 2)
      refine ⟨_, rfl, ⟨k + 1, by omega, ?_⟩, ?_⟩
      · rw [imul_eq _ _ (by omega), iadd_eq _ _ (by omega), Int.pow_succ]; rfl
      · simp only; rw [iadd_eq _ _ (by omega)]; omega
    · right
      rw [if_neg (by rw [ilt_iff]; omega)]
      have : k = n := by omega
      subst this
      exact ⟨_, rfl, rfl⟩)
  rw [he, hd]; rfl

theorem unsigned_ok (n : Int) : ∃ u, s_Unsigned n = some u ∧ -1 ≤ u ∧ u < 4294967296 ∧ (-2147483648 ≤ n ∧ n ≤ 2147483647 → u = n % 4294967296) := by
  unfold s_Unsigned
  simp only [s_WordValid, s_l6In, bind_id, if_and, bind_some']
  by_cases h : -2147483648 ≤ n ∧ n ≤ 2147483647
  · have e : (ige n (-2147483648) && ile n 2147483647) = true := by simp [ige, ile]; omega
    rw [e]
    simp only [bnot, Bool.not_true, Bool.false_eq_true, if_false]
    split
    · rename_i h0
      rw [ilt_iff] at h0
      rw [iadd_eq _ _ (by omega)]; exact ⟨_, rfl, by omega, by omega, by omega⟩
    · rename_i h0
      rw [ilt_iff] at h0
      exact ⟨_, rfl, by omega, by omega, by omega⟩
  · have e : (ige n (-2147483648) && ile n 2147483647) = false := by
      rw [Bool.eq_false_iff]; simp [ige, ile]; omega
    rw [e]; exact ⟨_, rfl, by omega, by omega, fun h' => absurd h' h⟩


theorem Ok.wrap (n : Int) (hn : -9223372036854775808 ≤ n ∧ n ≤ 9223372036854775807) : Ok (s_Wrap n) (fun v => isW v = true) := by
  unfold s_Wrap
  have e : remx n 4294967296 = some (n.tmod 4294967296) := by unfold remx; rw [if_neg (by omega)]
  have hb : -4294967296 < n.tmod 4294967296 ∧ n.tmod 4294967296 < 4294967296 := by
    by_cases h0 : 0 ≤ n
    · rw [Int.tmod_eq_emod_of_nonneg h0]; omega
    · have : n = -(-n) := by omega
      rw [this, Int.neg_tmod, Int.tmod_eq_emod_of_nonneg (by omega)]; omega
  rw [e, bind_some']
  generalize n.tmod 4294967296 = t at hb
  refine Ok.ite (fun h => Ok.pure ?_) fun h => Ok.ite (fun h' => Ok.pure ?_) fun h' => Ok.pure ?_
  · rw [igt_iff] at h; rw [isub_eq _ _ (by omega)]; simp [isW]; omega
  · rw [ilt_iff] at h'; rw [iadd_eq _ _ (by omega)]; simp [isW]; omega
  · rw [igt_iff] at h; rw [ilt_iff] at h'; simp [isW]; omega

/-- a quad of a drawn code of n quads -/
structure GQ (n : Int) (q : gQuad) : Prop where
  op : 1 ≤ q.Op ∧ q.Op ≤ 10
  dst : 0 ≤ q.Dst ∧ q.Dst < 6
  a : 0 ≤ q.A ∧ q.A < 6
  b : 0 ≤ q.B ∧ q.B < 6
  con : q.Op = 1 → isW q.N = true
  bin : q.Op = 3 → 1 ≤ q.N ∧ q.N ≤ 12
  to : q.Op = 4 ∨ q.Op = 5 → 0 ≤ q.N ∧ q.N < n
  box : q.Op = 6 ∨ q.Op = 7 → 0 ≤ q.N ∧ q.N < 2

section
variable {b : List Int} (hb : Bytes b) (hl : b.length ≤ 1048576)
include hb hl
theorem Ok.pick {k : Int} {r : gL6Rd} (hr : Rd b k r) {n : Int} (h1 : 1 ≤ n ∧ n ≤ 1000000) (hk : k ≤ 1000000) : Ok (s_l6Rd_pick r n) (fun q => Rd b (k + 1) q.2 ∧ 0 ≤ q.1 ∧ q.1 < n) := by
  obtain ⟨v, r', e, a, c⟩ := pick_ok hb hl hk hr h1.1 h1.2
  exact ⟨_, e, a, c⟩
theorem Ok.reg {k : Int} {r : gL6Rd} (hr : Rd b k r) (hk : k ≤ 1000000) : Ok (s_l93Reg r) (fun q => Rd b (k + 1) q.2 ∧ 0 ≤ q.1 ∧ q.1 < 6) := by
  unfold s_l93Reg
  exact Ok.bind (Ok.pick hb hl hr (by decide) hk) fun q h => Ok.pure h
theorem Ok.op {k : Int} {r : gL6Rd} (hr : Rd b k r) (hk : k ≤ 1000000) : Ok (s_l91Op r) (fun q => Rd b (k + 1) q.2 ∧ 1 ≤ q.1 ∧ q.1 ≤ 12) := by
  unfold s_l91Op
  exact Ok.bind (Ok.pick hb hl hr (by decide) hk) fun q h => Ok.pure ⟨h.1, by simp only []; rw [iadd_eq _ _ (by omega)]; omega⟩
theorem Ok.word {k : Int} {r : gL6Rd} (hr : Rd b k r) (hk : k ≤ 999990) : Ok (s_l91Word r) (fun q => Rd b (k + 5) q.2 ∧ isW q.1 = true) := by
  unfold s_l91Word
  refine Ok.bind (Ok.pick hb hl hr (by decide) (by omega)) fun q1 h1 => ?_
  refine Ok.ite (fun _ => ?_) fun _ => ?_
  · refine Ok.bind (Ok.pick hb hl h1.1 (by decide) (by omega)) fun q2 h2 => ?_
    refine Ok.bind (Ok.idx (by simp; omega)) fun v hv => Ok.pure ⟨h2.1.le (by omega), ?_⟩
    simp at hv
    rcases hv with rfl | rfl | rfl | rfl | rfl | rfl | rfl | rfl <;> rfl
  refine Ok.ite (fun _ => ?_) fun _ => ?_
  · refine Ok.bind (Ok.pick hb hl h1.1 (by decide) (by omega)) fun q2 h2 => ?_
    refine Ok.bind (Ok.pick hb hl h2.1 (by decide) (by omega)) fun q3 h3 => ?_
    refine Ok.bind (Ok.pick hb hl h3.1 (by decide) (by omega)) fun q4 h4 => ?_
    refine Ok.bind (Ok.pick hb hl h4.1 (by decide) (by omega)) fun q5 h5 => ?_
    have w64 : ∀ n : Int, -9223372036854775808 ≤ IntKind.i64.wrap n ∧ IntKind.i64.wrap n ≤ 9223372036854775807 := fun n => by rw [IntKind.wrap_i64]; omega
    exact Ok.bind (Ok.wrap _ (w64 _)) fun v hv => Ok.pure ⟨h5.1.le (by omega), hv⟩
  refine Ok.ite (fun _ => ?_) fun _ => ?_
  · refine Ok.bind (Ok.pick hb hl h1.1 (by decide) (by omega)) fun q2 h2 => Ok.pure ⟨h2.1.le (by omega), ?_⟩
    simp only []; rw [isub_eq _ _ (by omega)]; simp [isW]; omega
  · refine Ok.bind (Ok.pick hb hl h1.1 (by decide) (by omega)) fun q2 h2 => Ok.pure ⟨h2.1.le (by omega), ?_⟩
    simp [isW]; omega
theorem Ok.quad {k : Int} {r : gL6Rd} (hr : Rd b k r) (hk : k ≤ 999980) {n : Int} (hn : 1 ≤ n ∧ n ≤ 1000000) : Ok (s_l93Quad r n) (fun q => Rd b (k + 8) q.2 ∧ GQ n q.1) := by
  unfold s_l93Quad
  refine Ok.bind (Ok.pick hb hl hr (by decide) (by omega)) fun q1 h1 => ?_
  refine Ok.bind (P := fun _ => True) (Ok.ite (fun _ => Ok.pure trivial) fun _ => Ok.pure trivial) fun j1 _ => ?_
  refine Ok.ite (fun _ => ?_) fun _ => ?_
  · refine Ok.bind (Ok.reg hb hl h1.1 (by omega)) fun q2 h2 => ?_
    refine Ok.bind (Ok.word hb hl h2.1 (by omega)) fun q3 h3 => ?_
    refine Ok.bind (Ok.pick hb hl h3.1 (by decide) (by omega)) fun q4 h4 => ?_
    refine Ok.bind (Ok.idx (by simp; omega)) fun v hv => Ok.pure ⟨h4.1.le (by omega), ⟨by simp, h2.2, by simp, by simp, fun _ => ?_, by simp, by simp, by simp⟩⟩
    simp at hv
    rcases hv with rfl | rfl | rfl | rfl
    · rfl
    · rfl
    · rfl
    · exact h3.2
  refine Ok.bind (P := fun _ => True) (Ok.ite (fun _ => Ok.pure trivial) fun _ => Ok.pure trivial) fun j2 _ => ?_
  refine Ok.ite (fun _ => ?_) fun _ => ?_
  · refine Ok.bind (Ok.reg hb hl h1.1 (by omega)) fun q2 h2 => ?_
    exact Ok.bind (Ok.reg hb hl h2.1 (by omega)) fun q3 h3 => Ok.pure ⟨h3.1.le (by omega), ⟨by simp, h2.2, h3.2, by simp, by simp, by simp, by simp, by simp⟩⟩
  refine Ok.bind (P := fun _ => True) (Ok.ite (fun _ => Ok.pure trivial) fun _ => Ok.ite (fun _ => Ok.pure trivial) fun _ => Ok.pure trivial) fun j3 _ => ?_
  refine Ok.ite (fun _ => ?_) fun _ => ?_
  · refine Ok.bind (Ok.reg hb hl h1.1 (by omega)) fun q2 h2 => ?_
    refine Ok.bind (Ok.reg hb hl h2.1 (by omega)) fun q3 h3 => ?_
    refine Ok.bind (Ok.reg hb hl h3.1 (by omega)) fun q4 h4 => ?_
    exact Ok.bind (Ok.op hb hl h4.1 (by omega)) fun q5 h5 => Ok.pure ⟨h5.1.le (by omega), ⟨by simp, h2.2, h3.2, h4.2, by simp, fun _ => h5.2, by simp, by simp⟩⟩
  refine Ok.ite (fun _ => ?_) fun _ => ?_
  · exact Ok.bind (Ok.pick hb hl h1.1 hn (by omega)) fun q2 h2 => Ok.pure ⟨h2.1.le (by omega), ⟨by simp, by simp, by simp, by simp, by simp, by simp, fun _ => h2.2, by simp⟩⟩
  refine Ok.ite (fun _ => ?_) fun _ => ?_
  · refine Ok.bind (Ok.reg hb hl h1.1 (by omega)) fun q2 h2 => ?_
    exact Ok.bind (Ok.pick hb hl h2.1 hn (by omega)) fun q3 h3 => Ok.pure ⟨h3.1.le (by omega), ⟨by simp, by simp, h2.2, by simp, by simp, by simp, fun _ => h3.2, by simp⟩⟩
  refine Ok.ite (fun _ => ?_) fun _ => ?_
  · refine Ok.bind (Ok.reg hb hl h1.1 (by omega)) fun q2 h2 => ?_
    exact Ok.bind (Ok.pick hb hl h2.1 (by decide) (by omega)) fun q3 h3 => Ok.pure ⟨h3.1.le (by omega), ⟨by simp, by simp, h2.2, by simp, by simp, by simp, by simp, fun _ => h3.2⟩⟩
  refine Ok.ite (fun _ => ?_) fun _ => ?_
  · refine Ok.bind (Ok.reg hb hl h1.1 (by omega)) fun q2 h2 => ?_
    exact Ok.bind (Ok.pick hb hl h2.1 (by decide) (by omega)) fun q3 h3 => Ok.pure ⟨h3.1.le (by omega), ⟨by simp, h2.2, by simp, by simp, by simp, by simp, by simp, fun _ => h3.2⟩⟩
  refine Ok.bind (Ok.pick hb hl h1.1 (by decide) (by omega)) fun q2 h2 => ?_
  refine Ok.ite (fun _ => Ok.pure ⟨h2.1.le (by omega), ⟨by simp, by simp, by simp, by simp, by simp, by simp, by simp, by simp⟩⟩) fun _ => ?_
  exact Ok.bind (Ok.reg hb hl h2.1 (by omega)) fun q3 h3 => Ok.pure ⟨h3.1.le (by omega), ⟨by simp, by simp, h3.2, by simp, by simp, by simp, by simp, by simp⟩⟩
theorem Ok.random {r : gL6Rd} (hr : Rd b 0 r) : Ok (s_l93Random r) (fun q => Rd b 200 q.2 ∧ 1 ≤ q.1.length ∧ q.1.length ≤ 14 ∧ ∀ x ∈ q.1, GQ q.1.length x) := by
  unfold s_l93Random
  refine Ok.bind (Ok.pick hb hl hr (by decide) (by omega)) fun q1 h1 => ?_
  have e1 : iadd .i64 1 q1.1 = 1 + q1.1 := iadd_eq _ _ (by omega)
  have hloop : Ok (loopM (s_l93Random_L1 q1) (0, q1.2, ([] : List gQuad))) (fun e => Rd b (1 + 8 * q1.1) e.1 ∧ (e.2.length : Int) = q1.1 ∧ ∀ x ∈ e.2, GQ (1 + q1.1) x) := by
    refine loopM_rule (step := s_l93Random_L1 q1) (fun s => ∃ j : Nat, s.1 = (j : Int) ∧ (j : Int) ≤ q1.1 ∧ Rd b (1 + 8 * j) s.2.1 ∧ s.2.2.length = j ∧ ∀ x ∈ s.2.2, GQ (1 + q1.1) x) (fun s => (q1.1 - s.1).toNat) _ ⟨0, rfl, by omega, h1.1.le (by omega), rfl, by simp⟩ ?_
    rintro ⟨j', r', l⟩ ⟨j, h2, h3, h4, h5, h6⟩
    simp only at h2 h4 h5 h6
    subst h2
    unfold s_l93Random_L1
    dsimp only
    have e2 : iadd .i64 (j : Int) 1 = ((j + 1 : Nat) : Int) := by rw [iadd_eq _ _ (by omega)]; rfl
    rw [e1]
    simp only [e2]
    by_cases hlt : (j : Int) < q1.1
    · rw [if_pos (by rw [ilt_iff]; omega)]
      obtain ⟨v, hv, hv1, hv2⟩ := Ok.quad hb hl h4 (by omega) (n := 1 + q1.1) (by omega)
      rw [hv, bind_some', appx_ok 40 _ _ (by simp; unfold maxLen; omega), bind_some']
      refine .inl ⟨_, rfl, ⟨j + 1, rfl, by omega, hv1.le (by omega), by simp [h5], ?_⟩, by simp only []; omega⟩
      intro x hx
      rcases List.mem_append.1 hx with hx | hx
      · exact h6 x hx
      · simp at hx; subst hx; exact hv2
    · rw [if_neg (by rw [ilt_iff]; omega)]
      have : (j : Int) = q1.1 := by omega
      exact .inr ⟨_, rfl, by rw [← this]; exact h4, by show (l.length : Int) = q1.1; omega, h6⟩
  refine Ok.bind hloop fun e he => ?_
  obtain ⟨y5, y6⟩ := e
  obtain ⟨g1, g2, g3⟩ := he
  simp only at g1 g2 g3 ⊢
  refine Ok.bind (Ok.pick hb hl g1 (by decide) (by omega)) fun q9 h9 => ?_
  rw [e1]
  refine Ok.ite (fun _ => ?_) fun _ => ?_
  · refine Ok.bind (Ok.pick hb hl h9.1 (by omega) (by omega)) fun q10 h10 => ?_
    rw [appx_ok 40 _ _ (by simp; unfold maxLen; omega), bind_some']
    refine Ok.pure ⟨h10.1.le (by omega), by simp, by simp; omega, ?_⟩
    have hlen : ((y6 ++ [(⟨4, 0, 0, 0, q10.1⟩ : gQuad)]).length : Int) = 1 + q1.1 := by simp; omega
    simp only []
    rw [hlen]
    intro x hx
    rcases List.mem_append.1 hx with hx | hx
    · exact g3 x hx
    · simp at hx; subst hx
      exact ⟨by simp, by simp, by simp, by simp, by simp, by simp, fun _ => h10.2, by simp⟩
  · rw [appx_ok 40 _ _ (by simp; unfold maxLen; omega), bind_some']
    refine Ok.pure ⟨h9.1.le (by omega), by simp, by simp; omega, ?_⟩
    have hlen : ((y6 ++ [(⟨10, 0, 0, 0, 0⟩ : gQuad)]).length : Int) = 1 + q1.1 := by simp; omega
    simp only []
    rw [hlen]
    intro x hx
    rcases List.mem_append.1 hx with hx | hx
    · exact g3 x hx
    · simp at hx; subst hx
      exact ⟨by simp, by simp, by simp, by simp, by simp, by simp, by simp, by simp⟩
end
theorem Ok.open {l : List Int} (hb : Bytes l) (hl : l.length ≤ 1048576) : Ok (s_l6Open_o l) (fun r => ∃ b, Bytes b ∧ b.length ≤ 1048576 ∧ Rd b 0 r) := by
  unfold s_l6Open_o
  refine Ok.ite (fun h => ?_) fun h => ?_
  · rw [igt_iff] at h
    unfold ilen at h
    have hc : cutx l 0 2000 = some (l.take 2000) := by rw [cutx_iff]; exact ⟨by omega, by simp⟩
    rw [hc, bind_some']
    exact Ok.pure ⟨l.take 2000, fun x hx => hb x (List.mem_of_mem_take hx), by simp; omega, rfl, by simp, by simp⟩
  · exact Ok.pure ⟨l, hb, hl, rfl, by simp, by simp⟩
end Go.Abs
