/- Contracts that leave the heap alone; freezing. -/
import Derived.Test.YtoklfbdcghgmlaaDoorAbs13
set_option linter.unusedSimpArgs false
set_option linter.unusedVariables false
namespace Go.Abs
open Go Go.RowKit

/-- names below N alone -/
inductive Below (N : Nat) : AV → Prop where
  | int {k : IntKind} {n : Int} : Below N (.int k n)
  | bool {b : Bool} : Below N (.bool b)
  | str {s : ByteArray} : Below N (.str s)
  | nilp : Below N .nilp
  | nilsl : Below N .nilsl
  | esl : Below N .esl
  | nilf : Below N .nilf
  | any : Below N .any
  | ptr {o r i : Nat} (h : o < N) : Below N (.ptr o r i)
  | sl {o r n : Nat} (h : o < N) : Below N (.sl o r n)
  | fptr {cs : List AV} {i : Nat} (h : ∀ x ∈ cs, Below N x) : Below N (.fptr cs i)
  | fsl {es : List (List AV)} (h : ∀ e ∈ es, ∀ x ∈ e, Below N x) : Below N (.fsl es)
  | agg {cs : List AV} (h : ∀ x ∈ cs, Below N x) : Below N (.agg cs)
  | tup {cs : List AV} (h : ∀ x ∈ cs, Below N x) : Below N (.tup cs)
  | clo {f : FuncId} {fs cs : List AV} (h : ∀ x ∈ fs, Below N x) (h' : ∀ x ∈ cs, Below N x) : Below N (.clo f fs cs)

theorem below_list {N : Nat} {cs : List AV} {vs : Array Value} (hl : cs.length = vs.size) (h : ∀ (i : Nat) (x : AV) (u : Value), cs[i]? = some x → vs[i]? = some u → Below N x) : ∀ x ∈ cs, Below N x := by
  intro x hx
  obtain ⟨i, hi, rfl⟩ := List.getElem_of_mem hx
  have hi' : i < vs.size := by omega
  exact h i _ vs[i] (List.getElem?_eq_getElem hi) (Array.getElem?_eq_getElem hi')

theorem VRel.isBelow {φ ow} {w : World} {N : Nat} (hN : ∀ o y, φ o = some y → o < N) {x : AV} {v : Value} (h : VRel φ ow w x v) : Below N x := by
  induction h with
  | int => exact .int
  | bool => exact .bool
  | str => exact .str
  | nilp => exact .nilp
  | nilsl => exact .nilsl
  | esl => exact .esl
  | nilf => exact .nilf
  | any => exact .any
  | ptr h => exact .ptr (hN _ _ h)
  | sl h _ _ _ _ _ => exact .sl (hN _ _ h)
  | sl0 h => exact .sl (hN _ _ h)
  | fptr vs hone hb hno hcell hv ih =>
    refine .fptr fun x hx => ?_
    obtain ⟨i, hi, rfl⟩ := List.getElem_of_mem hx
    exact ih i _ (List.getElem?_eq_getElem hi)
  | fsl0 => exact .fsl (by simp)
  | fsl vs hone hn hb hno h0 hcap hm hlen hcell hv ih =>
    refine .fsl fun e he x hx => ?_
    obtain ⟨j, hj, rfl⟩ := List.getElem_of_mem he
    obtain ⟨i, hi, rfl⟩ := List.getElem_of_mem hx
    exact ih j _ (List.getElem?_eq_getElem hj) i _ (List.getElem?_eq_getElem hi)
  | agg hl _ ih => exact .agg (below_list hl ih)
  | tup hl _ ih => exact .tup (below_list hl ih)
  | clo hl _ hl' _ ih ih' => exact .clo (below_list hl ih) (below_list hl' ih')

theorem VRel.cut {φ φ' : Phi} {ow ow' : Nat → Prop} {w : World} {N : Nat} (hφ : ∀ o, o < N → φ' o = φ o) (how : ∀ b, ow' b → ow b) {x : AV} {v : Value} (h : VRel φ ow w x v) : Below N x → VRel φ' ow' w x v := by
  induction h with
  | int => intro _; exact .int
  | bool => intro _; exact .bool
  | str => intro _; exact .str
  | nilp => intro _; exact .nilp
  | nilsl => intro _; exact .nilsl
  | esl => intro _; exact .esl
  | nilf => intro _; exact .nilf
  | any => intro _; exact .any
  | ptr h => intro hb; cases hb with | ptr hlt => exact .ptr ((hφ _ hlt).trans h)
  | sl h h1 h2 h3 h4 h5 =>
    intro hb
    cases hb with
    | sl hlt => exact .sl ((hφ _ hlt).trans h) h1 h2 h3 h4 h5
  | sl0 h => intro hb; cases hb with | sl hlt => exact .sl0 ((hφ _ hlt).trans h)
  | fptr vs hone hb hno hcell hv ih => intro hB; cases hB with | fptr hB => exact .fptr vs hone hb (fun h => hno (how _ h)) hcell fun j x hj => ih j x hj (hB x (List.mem_of_getElem? hj))
  | fsl0 => intro _; exact .fsl0
  | fsl vs hone hn hb hno h0 hcap hm hlen hcell hv ih =>
    intro hB
    cases hB with
    | fsl hB => exact .fsl vs hone hn hb (fun h => hno (how _ h)) h0 hcap hm hlen hcell fun j e hj i x hx => ih j e hj i x hx (hB e (List.mem_of_getElem? hj) x (List.mem_of_getElem? hx))
  | agg hl _ ih => intro hB; cases hB with | agg hB => exact .agg hl fun i x u hx hu => ih i x u hx hu (hB x (List.mem_of_getElem? hx))
  | tup hl _ ih => intro hB; cases hB with | tup hB => exact .tup hl fun i x u hx hu => ih i x u hx hu (hB x (List.mem_of_getElem? hx))
  | clo hl _ hl' _ ih ih' =>
    intro hB
    cases hB with
    | clo hB hB' => exact .clo hl (fun i x u hx hu => ih i x u hx hu (hB x (List.mem_of_getElem? hx))) hl' fun i x u hx hu => ih' i x u hx hu (hB' x (List.mem_of_getElem? hx))

/-- A contract that leaves the heap alone. -/
def APure (P : Program) (G : Globs) (f : FuncId) (args : List AV) (r : AV) : Prop := ∀ σ, ACalls P G f args σ fun r' σ' => r' = r ∧ σ' = σ

theorem APure.app {P G f args r σ Q} (h : APure P G f args r) (hq : Q r σ) : ACalls P G f args σ Q :=
  (h σ).mono fun r' σ' ⟨h1, h2⟩ => by rw [h1, h2]; exact hq

/-- The names from σ's next on are forgotten. -/
theorem reset {G φ σ w φ' σ' w'} (hR : R G φ σ w) (hR' : R G φ' σ' w') (he : Ext (· < σ.next) φ σ w φ' σ' w') (hobj : ∀ o, o < σ.next → σ'.objs o = σ.objs o) {x : AV} {v : Value} (hx : VRel φ' (own φ' σ') w' x v) (hb : Below σ.next x) :
    ∃ φ'', R G φ'' σ w' ∧ Ext (· < σ.next) φ σ w φ'' σ w' ∧ VRel φ'' (own φ'' σ) w' x v := by
  have hlt : ∀ o y, φ o = some y → o < σ.next := by
    intro o y h
    rcases Nat.lt_or_ge o σ.next with h1 | h1
    · exact h1
    · rw [(hR.ids o h1).2] at h; cases h
  let φ'' : Phi := fun o => if o < σ.next then φ' o else none
  have hφ : ∀ o, o < σ.next → φ'' o = φ' o := fun o h => by simp [φ'', h]
  have hsome : ∀ o y, φ'' o = some y → o < σ.next ∧ φ' o = some y := by
    intro o y h
    by_cases h1 : o < σ.next
    · exact ⟨h1, by simpa [φ'', h1] using h⟩
    · simp [φ'', h1] at h
  have hlive : ∀ o ob, σ.objs o = some ob → o < σ.next := by
    intro o ob h
    rcases Nat.lt_or_ge o σ.next with h1 | h1
    · exact h1
    · rw [(hR.ids o h1).1] at h; cases h
  have how : ∀ b, own φ'' σ b → own φ' σ' b := by
    rintro b ⟨o, ob, sz, h1, h2, h3⟩
    exact ⟨o, ob, sz, by rw [hobj o (hlive o ob h1)]; exact h1, (hsome _ _ h2).2, h3⟩
  have cutx : ∀ {y : AV} {u : Value}, VRel φ' (own φ' σ') w' y u → Below σ.next y → VRel φ'' (own φ'' σ) w' y u := fun h1 h2 => h1.cut hφ how h2
  have hExt : Ext (· < σ.next) φ σ w φ'' σ w' := by
    refine ⟨fun o ho => ⟨(hφ o ho).trans (he.keep o ho).1, fun h => h⟩, fun o y h => ?_, he.fr, fun b hb => he.new b (how b hb), Nat.le_refl _⟩
    rw [hφ o (hlt o y h)]
    exact he.sub o y h
  refine ⟨φ'', ⟨fun o ho => ⟨(hR.ids o ho).1, by simp [φ'']; intro h; have : σ.next ≤ o := ho; omega⟩, fun o ob h => ?_, fun o o' b s s' ob ob' h1 h2 h3 h4 p1 p2 => ?_, fun g cs hg => ?_⟩, hExt, cutx hx hb⟩
  · have h1 := hR'.obj o ob (by rw [hobj o (hlive o ob h)]; exact h)
    obtain ⟨b, sz, e1, e2, e3⟩ := h1
    refine ⟨b, sz, by rw [hφ o (hlive o ob h)]; exact e1, e2, fun h0 => ?_⟩
    obtain ⟨c1, c2, arr, c3, c4, c5⟩ := e3 h0
    refine ⟨c1, c2, arr, c3, c4, fun r e hr => ⟨(c5 r e hr).1, fun i y hy => ?_⟩⟩
    obtain ⟨d1, u, d2, d3⟩ := (c5 r e hr).2 i y hy
    refine ⟨d1, u, d2, cutx d3 ?_⟩
    have hold := hR.obj o ob h
    obtain ⟨b0, sz0, f1, f2, f3⟩ := hold
    have hsz0 : 0 < sz0 := by
      rcases Nat.eq_zero_or_pos sz0 with e | e
      · rw [f2 e] at hr; simp at hr
      · exact e
    obtain ⟨_, _, _, _, _, g5⟩ := f3 hsz0
    obtain ⟨_, u0, _, g6⟩ := (g5 r e hr).2 i y hy
    exact g6.isBelow hlt
  · exact hR'.inj o o' b s s' ob ob' (by rw [hobj o (hlive o ob h1)]; exact h1) (by rw [hobj o' (hlive o' ob' h2)]; exact h2) (hsome _ _ h3).2 (hsome _ _ h4).2 p1 p2
  · exact (hR.glob g cs hg).mono hExt

theorem Below.le {x : AV} {N : Nat} (h : Below 0 x) : Below N x := by
  induction h with
  | int => exact .int
  | bool => exact .bool
  | str => exact .str
  | nilp => exact .nilp
  | nilsl => exact .nilsl
  | esl => exact .esl
  | nilf => exact .nilf
  | any => exact .any
  | ptr h => omega
  | sl h => omega
  | fptr _ ih => exact .fptr ih
  | fsl _ ih => exact .fsl ih
  | agg _ ih => exact .agg ih
  | tup _ ih => exact .tup ih
  | clo _ _ ih ih' => exact .clo ih ih'

/-- old objects are as they were: what is new and not handed back is forgotten -/
theorem ACalls_gc {P G f args σ} {S : AV → Prop} (h : ACalls P G f args σ fun r' σ' => S r' ∧ ∀ o, o < σ.next → σ'.objs o = σ.objs o) (hb : ∀ r, S r → Below 0 r) : ACalls P G f args σ fun r' σ' => S r' ∧ σ' = σ := by
  refine ⟨h.1, fun φ w vs hR hA => (h.2 φ w vs hR hA).mono ?_⟩
  rintro e w' ⟨v, r', φ', σ', rfl, ⟨hs, h2⟩, h3, h4, h5⟩
  obtain ⟨φ'', k1, k2, k3⟩ := reset hR h3 h4 h2 h5 (hb _ hs).le
  exact ⟨v, r', φ'', σ, rfl, ⟨hs, rfl⟩, k1, k2, k3⟩

theorem APure_of {P G f args r} (h : ∀ σ, ACalls P G f args σ fun r' σ' => r' = r ∧ ∀ o, o < σ.next → σ'.objs o = σ.objs o) (hb : Below 0 r) : APure P G f args r :=
  fun σ => ACalls_gc (h σ) (by rintro _ rfl; exact hb)

/-- A result that is the call's own, handed back frozen. -/
theorem ACalls.freeze {P G f args σ Q Q'} (h : ACalls P G f args σ Q) (hq : ∀ r σ', Q r σ' → Q' r σ' ∨ ∃ o ob r', σ'.objs o = some ob ∧ Fz o ob.rows r r' ∧ Q' r' (σ'.kill o)) : ACalls P G f args σ Q' := by
  refine ⟨h.1, fun φ w vs hR hA => (h.2 φ w vs hR hA).mono ?_⟩
  rintro e w' ⟨v, r, φ', σ', rfl, h2, h3, h4, h5⟩
  rcases hq r σ' h2 with hq1 | ⟨o, ob, r', g1, g2, g3⟩
  · exact ⟨v, r, φ', σ', rfl, hq1, h3, h4, h5⟩
  · obtain ⟨k1, k2⟩ := h3.kill o (· < σ.next)
    exact ⟨v, r', φ', σ'.kill o, rfl, g3, k1, h4.trans k2, g2.sound h3 g1 h5⟩

end Go.Abs
