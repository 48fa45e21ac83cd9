/- The draws of quads end. -/
import Derived.Test.YtlcilhmkbmgkeaaDoorNPick
set_option linter.unusedSimpArgs false
set_option linter.unusedVariables false
namespace Go.Abs
open Go

def Ok {α : Type} (o : Option α) (P : α → Prop) : Prop := ∃ v, o = some v ∧ P v
theorem Ok.bind {α β : Type} {o : Option α} {f : α → Option β} {P : α → Prop} {Q : β → Prop} (h : Ok o P) (k : ∀ v, P v → Ok (f v) Q) : Ok (o.bind f) Q := by
  obtain ⟨v, rfl, hv⟩ := h
  exact k v hv
theorem Ok.ite {α : Type} {c : Prop} [Decidable c] {x y : Option α} {P : α → Prop} (a : c → Ok x P) (b : ¬ c → Ok y P) : Ok (if c then x else y) P := by
  by_cases h : c
  · rw [if_pos h]; exact a h
  · rw [if_neg h]; exact b h
theorem Ok.pure {α : Type} {v : α} {P : α → Prop} (h : P v) : Ok (some v) P := ⟨v, rfl, h⟩
theorem Ok.mono {α : Type} {o : Option α} {P Q : α → Prop} (h : Ok o P) (k : ∀ v, P v → Q v) : Ok o Q := by
  obtain ⟨v, e, hv⟩ := h
  exact ⟨v, e, k v hv⟩
theorem Ok.idx {α : Type} {l : List α} {i : Int} (h : 0 ≤ i ∧ i < l.length) : Ok (Go.Abs.idx l i) (fun v => v ∈ l) := by
  obtain ⟨v, e, hv⟩ := idx_ok l i h.1 h.2
  exact ⟨v, e, hv⟩

theorem Rd.le {b : List Int} {k k' : Int} {r : gL6Rd} (h : Rd b k r) (hk : k ≤ k') : Rd b k' r := ⟨h.1, h.2.1, Int.le_trans h.2.2 hk⟩
theorem Ok.wrap (n : Int) : Ok (s_Wrap n) (fun _ => True) := by
  unfold s_Wrap
  refine Ok.bind (P := fun _ => True) ⟨_, by unfold remx; rw [if_neg (by omega)], trivial⟩ fun v _ => ?_
  refine Ok.ite (fun _ => Ok.pure trivial) fun _ => ?_
  exact Ok.ite (fun _ => Ok.pure trivial) fun _ => Ok.pure trivial

section
variable {b : List Int} (hb : Bytes b) (hl : b.length ≤ 1048576)
include hb hl
theorem Ok.pick {k : Int} {r : gL6Rd} (hr : Rd b k r) {n : Int} (h1 : 1 ≤ n ∧ n ≤ 1000000) (hk : k ≤ 1000000) : Ok (s_l6Rd_pick r n) (fun q => Rd b (k + 1) q.2 ∧ 0 ≤ q.1 ∧ q.1 < n) := by
  obtain ⟨v, r', e, a, c⟩ := pick_ok hb hl hk hr h1.1 h1.2
  exact ⟨_, e, a, c⟩
theorem Ok.reg {k : Int} {r : gL6Rd} (hr : Rd b k r) (hk : k ≤ 1000000) : Ok (s_l93Reg r) (fun q => Rd b (k + 1) q.2) := by
  unfold s_l93Reg
  exact Ok.bind (Ok.pick hb hl hr (by decide) hk) fun q h => Ok.pure h.1
theorem Ok.op {k : Int} {r : gL6Rd} (hr : Rd b k r) (hk : k ≤ 1000000) : Ok (s_l91Op r) (fun q => Rd b (k + 1) q.2) := by
  unfold s_l91Op
  exact Ok.bind (Ok.pick hb hl hr (by decide) hk) fun q h => Ok.pure h.1
theorem Ok.word {k : Int} {r : gL6Rd} (hr : Rd b k r) (hk : k ≤ 999990) : Ok (s_l91Word r) (fun q => Rd b (k + 5) q.2) := by
  unfold s_l91Word
  refine Ok.bind (Ok.pick hb hl hr (by decide) (by omega)) fun q1 h1 => ?_
  refine Ok.ite (fun _ => ?_) fun _ => ?_
  · refine Ok.bind (Ok.pick hb hl h1.1 (by decide) (by omega)) fun q2 h2 => ?_
    refine Ok.bind (Ok.idx (by simp; omega)) fun v _ => Ok.pure (h2.1.le (by omega))
  refine Ok.ite (fun _ => ?_) fun _ => ?_
  · refine Ok.bind (Ok.pick hb hl h1.1 (by decide) (by omega)) fun q2 h2 => ?_
    refine Ok.bind (Ok.pick hb hl h2.1 (by decide) (by omega)) fun q3 h3 => ?_
    refine Ok.bind (Ok.pick hb hl h3.1 (by decide) (by omega)) fun q4 h4 => ?_
    refine Ok.bind (Ok.pick hb hl h4.1 (by decide) (by omega)) fun q5 h5 => ?_
    exact Ok.bind (Ok.wrap _) fun v _ => Ok.pure (h5.1.le (by omega))
  refine Ok.ite (fun _ => ?_) fun _ => ?_
  · refine Ok.bind (Ok.pick hb hl h1.1 (by decide) (by omega)) fun q2 h2 => Ok.pure (h2.1.le (by omega))
  · refine Ok.bind (Ok.pick hb hl h1.1 (by decide) (by omega)) fun q2 h2 => Ok.pure (h2.1.le (by omega))
theorem Ok.quad {k : Int} {r : gL6Rd} (hr : Rd b k r) (hk : k ≤ 999980) {n : Int} (hn : 1 ≤ n ∧ n ≤ 1000000) : Ok (s_l93Quad r n) (fun q => Rd b (k + 8) q.2) := by
  unfold s_l93Quad
  refine Ok.bind (Ok.pick hb hl hr (by decide) (by omega)) fun q1 h1 => ?_
  refine Ok.bind (P := fun _ => True) (Ok.ite (fun _ => Ok.pure trivial) fun _ => Ok.pure trivial) fun j1 _ => ?_
  refine Ok.ite (fun _ => ?_) fun _ => ?_
  · refine Ok.bind (Ok.reg hb hl h1.1 (by omega)) fun q2 h2 => ?_
    refine Ok.bind (Ok.word hb hl h2 (by omega)) fun q3 h3 => ?_
    refine Ok.bind (Ok.pick hb hl h3 (by decide) (by omega)) fun q4 h4 => ?_
    exact Ok.bind (Ok.idx (by simp; omega)) fun v _ => Ok.pure (h4.1.le (by omega))
  refine Ok.bind (P := fun _ => True) (Ok.ite (fun _ => Ok.pure trivial) fun _ => Ok.pure trivial) fun j2 _ => ?_
  refine Ok.ite (fun _ => ?_) fun _ => ?_
  · refine Ok.bind (Ok.reg hb hl h1.1 (by omega)) fun q2 h2 => ?_
    exact Ok.bind (Ok.reg hb hl h2 (by omega)) fun q3 h3 => Ok.pure (h3.le (by omega))
  refine Ok.bind (P := fun _ => True) (Ok.ite (fun _ => Ok.pure trivial) fun _ => Ok.ite (fun _ => Ok.pure trivial) fun _ => Ok.pure trivial) fun j3 _ => ?_
  refine Ok.ite (fun _ => ?_) fun _ => ?_
  · refine Ok.bind (Ok.reg hb hl h1.1 (by omega)) fun q2 h2 => ?_
    refine Ok.bind (Ok.reg hb hl h2 (by omega)) fun q3 h3 => ?_
    refine Ok.bind (Ok.reg hb hl h3 (by omega)) fun q4 h4 => ?_
    exact Ok.bind (Ok.op hb hl h4 (by omega)) fun q5 h5 => Ok.pure (h5.le (by omega))
  refine Ok.ite (fun _ => ?_) fun _ => ?_
  · exact Ok.bind (Ok.pick hb hl h1.1 hn (by omega)) fun q2 h2 => Ok.pure (h2.1.le (by omega))
  refine Ok.ite (fun _ => ?_) fun _ => ?_
  · refine Ok.bind (Ok.reg hb hl h1.1 (by omega)) fun q2 h2 => ?_
    exact Ok.bind (Ok.pick hb hl h2 hn (by omega)) fun q3 h3 => Ok.pure (h3.1.le (by omega))
  refine Ok.ite (fun _ => ?_) fun _ => ?_
  · refine Ok.bind (Ok.reg hb hl h1.1 (by omega)) fun q2 h2 => ?_
    exact Ok.bind (Ok.pick hb hl h2 (by decide) (by omega)) fun q3 h3 => Ok.pure (h3.1.le (by omega))
  refine Ok.ite (fun _ => ?_) fun _ => ?_
  · refine Ok.bind (Ok.reg hb hl h1.1 (by omega)) fun q2 h2 => ?_
    exact Ok.bind (Ok.pick hb hl h2 (by decide) (by omega)) fun q3 h3 => Ok.pure (h3.1.le (by omega))
  refine Ok.bind (Ok.pick hb hl h1.1 (by decide) (by omega)) fun q2 h2 => ?_
  refine Ok.ite (fun _ => Ok.pure (h2.1.le (by omega))) fun _ => ?_
  exact Ok.bind (Ok.reg hb hl h2.1 (by omega)) fun q3 h3 => Ok.pure (h3.le (by omega))
theorem Ok.wrong {k : Int} {r : gL6Rd} (hr : Rd b k r) (hk : k ≤ 999970) : Ok (s_l93Wrong r) (fun q => Rd b (k + 11) q.2) := by
  unfold s_l93Wrong
  refine Ok.bind (Ok.quad hb hl hr (by omega) (by decide)) fun q1 h1 => ?_
  refine Ok.bind (P := fun q => Rd b (k + 9) q.1) ?_ fun j1 hj => ?_
  · refine Ok.bind (Ok.pick hb hl h1 (by decide) (by omega)) fun q2 h2 => ?_
    exact Ok.ite (fun _ => Ok.pure (h2.1.le (by omega))) fun _ => Ok.pure (h2.1.le (by omega))
  refine Ok.bind (Ok.pick hb hl hj (by decide) (by omega)) fun q3 h3 => ?_
  refine Ok.ite (fun _ => Ok.pure (h3.1.le (by omega))) fun _ => ?_
  refine Ok.ite (fun _ => Ok.pure (h3.1.le (by omega))) fun _ => ?_
  refine Ok.ite (fun _ => ?_) fun _ => ?_
  · refine Ok.bind (Ok.pick hb hl h3.1 (by decide) (by omega)) fun q4 h4 => ?_
    exact Ok.bind (Ok.idx (by simp; omega)) fun v _ => Ok.pure (h4.1.le (by omega))
  exact Ok.ite (fun _ => Ok.pure (h3.1.le (by omega))) fun _ => Ok.pure (h3.1.le (by omega))
end

theorem Ok.open {l : List Int} (hb : Bytes l) (hl : l.length ≤ 1048576) : Ok (s_l6Open_o l) (fun r => ∃ b, Bytes b ∧ b.length ≤ 1048576 ∧ Rd b 0 r) := by
  unfold s_l6Open_o
  refine Ok.ite (fun h => ?_) fun _ => Ok.pure ⟨l, hb, hl, rfl, by simp, by simp⟩
  rw [igt_iff] at h
  unfold ilen at h
  refine Ok.bind (P := fun b => Bytes b ∧ b.length ≤ 1048576) ⟨_, by unfold cutx; rw [if_pos (by omega)], fun x hx => hb x (List.mem_of_mem_take (List.mem_of_mem_drop hx)), by simp; omega⟩ fun b hbb => ?_
  exact Ok.pure ⟨b, hbb.1, hbb.2, rfl, by simp, by simp⟩

theorem drawQuadInstrs_ok {l : List Int} (hb : Bytes l) (hl : l.length ≤ 1048576) : Ok (s_DrawQuadInstrs l) (fun _ => True) := by
  unfold s_DrawQuadInstrs
  refine Ok.bind (Ok.open hb hl) fun r ⟨b, hb, hl, hr⟩ => ?_
  refine Ok.bind (Ok.wrong hb hl hr (by decide)) fun q1 h1 => ?_
  refine Ok.bind (Ok.pick hb hl h1 (by decide) (by decide)) fun q2 h2 => ?_
  refine Ok.bind (Ok.pick hb hl h2.1 (by decide) (by decide)) fun q3 h3 => ?_
  refine Ok.bind (P := fun _ => True) ?_ fun _ _ => Ok.pure trivial
  refine Ok.bind (Ok.pick hb hl h3.1 (by decide) (by decide)) fun q4 h4 => ?_
  refine Ok.ite (fun _ => ?_) fun _ => ?_
  · refine Ok.bind (Ok.pick hb hl h4.1 (by decide) (by decide)) fun q5 h5 => ?_
    exact Ok.bind (Ok.idx (by simp; omega)) fun v _ => Ok.pure trivial
  refine Ok.ite (fun _ => ?_) fun _ => Ok.pure trivial
  refine Ok.bind (Ok.pick hb hl h4.1 (by decide) (by decide)) fun q5 h5 => ?_
  exact Ok.bind (Ok.idx (by simp; omega)) fun v _ => Ok.pure trivial
end Go.Abs
