/- What the lower heap needs: more names, objects let go, cells read otherwise. -/
import Derived.Test.YtoklfbdcghgmlaaNAbsL1
set_option linter.unusedSimpArgs false
set_option linter.unusedVariables false
namespace Go.Abs
open Go Go.RowKit

def AHeap.bump (σ : AHeap) (k : Nat) : AHeap := { σ with next := σ.next + k }

theorem R0.bump {G φ σ w} (hR : R0 G φ σ w) (k : Nat) (K : Nat → Prop) : R0 G φ (σ.bump k) w ∧ Ext0 K φ σ w φ (σ.bump k) w ∧ (∀ j, j < k → (σ.bump k).objs (σ.next + j) = none ∧ φ (σ.next + j) = none) := by
  have he : Ext0 K φ σ w φ (σ.bump k) w := ⟨fun o _ => ⟨rfl, id⟩, fun o x hx => hx, Fr.refl _ _, fun b hb => .inl hb, by simp [AHeap.bump]⟩
  refine ⟨hR.next he (fun o ho => hR.ids o (Nat.le_trans (by simp [AHeap.bump]) ho)) hR.inj fun o ob h => .inr ⟨h, rfl, fun _ _ _ _ => rfl⟩, he, fun j hj => hR.ids _ (by omega)⟩

/-- names below N alone -/
inductive Below (N : Nat) : AV → Prop where
  | int {k : IntKind} {n : Int} : Below N (.int k n)
  | bool {b : Bool} : Below N (.bool b)
  | str {s : ByteArray} : Below N (.str s)
  | nilp : Below N .nilp
  | nilsl : Below N .nilsl
  | esl : Below N .esl
  | nilf : Below N .nilf
  | any : Below N .any
  | any1 : Below N .any1
  | ptr {o r i : Nat} (h : o < N) : Below N (.ptr o r i)
  | sl {o r n : Nat} (h : o < N) : Below N (.sl o r n)
  | fptr {cs : List AV} {i : Nat} (h : ∀ x ∈ cs, Below N x) : Below N (.fptr cs i)
  | fsl {es : List (List AV)} (h : ∀ e ∈ es, ∀ x ∈ e, Below N x) : Below N (.fsl es)
  | agg {cs : List AV} (h : ∀ x ∈ cs, Below N x) : Below N (.agg cs)
  | tup {cs : List AV} (h : ∀ x ∈ cs, Below N x) : Below N (.tup cs)
  | clo {f : FuncId} {fs cs : List AV} (h : ∀ x ∈ fs, Below N x) (h' : ∀ x ∈ cs, Below N x) : Below N (.clo f fs cs)

theorem below_list {N : Nat} {cs : List AV} {vs : Array Value} (hl : cs.length = vs.size) (h : ∀ (i : Nat) (x : AV) (u : Value), cs[i]? = some x → vs[i]? = some u → Below N x) : ∀ x ∈ cs, Below N x := by
  intro x hx
  obtain ⟨i, hi, rfl⟩ := List.getElem_of_mem hx
  have hi' : i < vs.size := by omega
  exact h i _ vs[i] (List.getElem?_eq_getElem hi) (Array.getElem?_eq_getElem hi')

theorem VRel.isBelow {φ ow} {w : World} {N : Nat} (hN : ∀ o y, φ o = some y → o < N) {x : AV} {v : Value} (h : VRel φ ow w x v) : Below N x := by
  induction h with
  | int => exact .int
  | bool => exact .bool
  | str => exact .str
  | nilp => exact .nilp
  | nilsl => exact .nilsl
  | esl => exact .esl
  | nilf => exact .nilf
  | any => exact .any
  | any1 _ => exact .any1
  | ptr h => exact .ptr (hN _ _ h)
  | sl h _ _ _ _ _ => exact .sl (hN _ _ h)
  | sl0 h => exact .sl (hN _ _ h)
  | sl1 h => exact .sl (hN _ _ h)
  | fptr vs hone hb hno hcell hv ih =>
    refine .fptr fun x hx => ?_
    obtain ⟨i, hi, rfl⟩ := List.getElem_of_mem hx
    exact ih i _ (List.getElem?_eq_getElem hi)
  | fsl0 => exact .fsl (by simp)
  | fsl vs hone hn hb hno h0 hcap hm hlen hcell hv ih =>
    refine .fsl fun e he x hx => ?_
    obtain ⟨j, hj, rfl⟩ := List.getElem_of_mem he
    obtain ⟨i, hi, rfl⟩ := List.getElem_of_mem hx
    exact ih j _ (List.getElem?_eq_getElem hj) i _ (List.getElem?_eq_getElem hi)
  | agg hl _ ih => exact .agg (below_list hl ih)
  | tup hl _ ih => exact .tup (below_list hl ih)
  | clo hl _ hl' _ ih ih' => exact .clo (below_list hl ih) (below_list hl' ih')

theorem VRel.cut {φ φ' : Phi0} {ow ow' : Nat → Prop} {w : World} {N : Nat} (hφ : ∀ o, o < N → φ' o = φ o) (how : ∀ b, ow' b → ow b) {x : AV} {v : Value} (h : VRel φ ow w x v) : Below N x → VRel φ' ow' w x v := by
  induction h with
  | int => intro _; exact .int
  | bool => intro _; exact .bool
  | str => intro _; exact .str
  | nilp => intro _; exact .nilp
  | nilsl => intro _; exact .nilsl
  | esl => intro _; exact .esl
  | nilf => intro _; exact .nilf
  | any => intro _; exact .any
  | any1 h => intro _; exact .any1 h
  | ptr h => intro hb; cases hb with | ptr hlt => exact .ptr ((hφ _ hlt).trans h)
  | sl h h1 h2 h3 h4 h5 =>
    intro hb
    cases hb with
    | sl hlt => exact .sl ((hφ _ hlt).trans h) h1 h2 h3 h4 h5
  | sl0 h => intro hb; cases hb with | sl hlt => exact .sl0 ((hφ _ hlt).trans h)
  | sl1 h => intro hb; cases hb with | sl hlt => exact .sl1 ((hφ _ hlt).trans h)
  | fptr vs hone hb hno hcell hv ih => intro hB; cases hB with | fptr hB => exact .fptr vs hone hb (fun h => hno (how _ h)) hcell fun j x hj => ih j x hj (hB x (List.mem_of_getElem? hj))
  | fsl0 => intro _; exact .fsl0
  | fsl vs hone hn hb hno h0 hcap hm hlen hcell hv ih =>
    intro hB
    cases hB with
    | fsl hB => exact .fsl vs hone hn hb (fun h => hno (how _ h)) h0 hcap hm hlen hcell fun j e hj i x hx => ih j e hj i x hx (hB e (List.mem_of_getElem? hj) x (List.mem_of_getElem? hx))
  | agg hl _ ih => intro hB; cases hB with | agg hB => exact .agg hl fun i x u hx hu => ih i x u hx hu (hB x (List.mem_of_getElem? hx))
  | tup hl _ ih => intro hB; cases hB with | tup hB => exact .tup hl fun i x u hx hu => ih i x u hx hu (hB x (List.mem_of_getElem? hx))
  | clo hl _ hl' _ ih ih' =>
    intro hB
    cases hB with
    | clo hB hB' => exact .clo hl (fun i x u hx hu => ih i x u hx hu (hB x (List.mem_of_getElem? hx))) hl' fun i x u hx hu => ih' i x u hx hu (hB' x (List.mem_of_getElem? hx))

/-- The names from σ's next on are forgotten. -/
theorem reset0 {G φ σ w φ' σ' w'} (hR : R0 G φ σ w) (hR' : R0 G φ' σ' w') (he : Ext0 (· < σ.next) φ σ w φ' σ' w') (hobj : ∀ o, o < σ.next → σ'.objs o = σ.objs o) {x : AV} {v : Value} (hx : VRel φ' (own0 φ' σ') w' x v) (hb : Below σ.next x) :
    ∃ φ'', R0 G φ'' σ w' ∧ Ext0 (· < σ.next) φ σ w φ'' σ w' ∧ VRel φ'' (own0 φ'' σ) w' x v := by
  have hlt : ∀ o y, φ o = some y → o < σ.next := by
    intro o y h
    rcases Nat.lt_or_ge o σ.next with h1 | h1
    · exact h1
    · rw [(hR.ids o h1).2] at h; cases h
  let φ'' : Phi0 := fun o => if o < σ.next then φ' o else none
  have hφ : ∀ o, o < σ.next → φ'' o = φ' o := fun o h => by simp [φ'', h]
  have hsome : ∀ o y, φ'' o = some y → o < σ.next ∧ φ' o = some y := by
    intro o y h
    by_cases h1 : o < σ.next
    · exact ⟨h1, by simpa [φ'', h1] using h⟩
    · simp [φ'', h1] at h
  have hlive : ∀ o ob, σ.objs o = some ob → o < σ.next := by
    intro o ob h
    rcases Nat.lt_or_ge o σ.next with h1 | h1
    · exact h1
    · rw [(hR.ids o h1).1] at h; cases h
  have how : ∀ b, own0 φ'' σ b → own0 φ' σ' b := by
    rintro b ⟨o, ob, sz, h1, h2, h3⟩
    exact ⟨o, ob, sz, by rw [hobj o (hlive o ob h1)]; exact h1, (hsome _ _ h2).2, h3⟩
  have cutx : ∀ {y : AV} {u : Value}, VRel φ' (own0 φ' σ') w' y u → Below σ.next y → VRel φ'' (own0 φ'' σ) w' y u := fun h1 h2 => h1.cut hφ how h2
  have hExt : Ext0 (· < σ.next) φ σ w φ'' σ w' := by
    refine ⟨fun o ho => ⟨(hφ o ho).trans (he.keep o ho).1, fun h => h⟩, fun o y h => ?_, he.fr, fun b hb => he.new b (how b hb), Nat.le_refl _⟩
    rw [hφ o (hlt o y h)]
    exact he.sub o y h
  refine ⟨φ'', ⟨fun o ho => ⟨(hR.ids o ho).1, by simp [φ'']; intro h; have : σ.next ≤ o := ho; omega⟩, fun o ob h => ?_, fun o o' b s s' ob ob' h1 h2 h3 h4 p1 p2 => ?_, fun g cs hg => ?_⟩, hExt, cutx hx hb⟩
  · have h1 := hR'.obj o ob (by rw [hobj o (hlive o ob h)]; exact h)
    obtain ⟨b, sz, e1, e2, e3⟩ := h1
    refine ⟨b, sz, by rw [hφ o (hlive o ob h)]; exact e1, e2, fun h0 => ?_⟩
    obtain ⟨c1, c2, arr, c3, c4, c5⟩ := e3 h0
    refine ⟨c1, c2, arr, c3, c4, fun r e hr => ⟨(c5 r e hr).1, fun i y hy => ?_⟩⟩
    obtain ⟨d1, u, d2, d3⟩ := (c5 r e hr).2 i y hy
    refine ⟨d1, u, d2, cutx d3 ?_⟩
    have hold := hR.obj o ob h
    obtain ⟨b0, sz0, f1, f2, f3⟩ := hold
    have hsz0 : 0 < sz0 := by
      rcases Nat.eq_zero_or_pos sz0 with e | e
      · rw [f2 e] at hr; simp at hr
      · exact e
    obtain ⟨_, _, _, _, _, g5⟩ := f3 hsz0
    obtain ⟨_, u0, _, g6⟩ := (g5 r e hr).2 i y hy
    exact g6.isBelow hlt
  · exact hR'.inj o o' b s s' ob ob' (by rw [hobj o (hlive o ob h1)]; exact h1) (by rw [hobj o' (hlive o' ob' h2)]; exact h2) (hsome _ _ h3).2 (hsome _ _ h4).2 p1 p2
  · exact (hR.glob g cs hg).mono hExt

theorem Below.le {x : AV} {N : Nat} (h : Below 0 x) : Below N x := by
  induction h with
  | int => exact .int
  | bool => exact .bool
  | str => exact .str
  | nilp => exact .nilp
  | nilsl => exact .nilsl
  | esl => exact .esl
  | nilf => exact .nilf
  | any => exact .any
  | any1 => exact .any1
  | ptr h => omega
  | sl h => omega
  | fptr _ ih => exact .fptr ih
  | fsl _ ih => exact .fsl ih
  | agg _ ih => exact .agg ih
  | tup _ ih => exact .tup ih
  | clo _ _ ih ih' => exact .clo ih ih'

def AHeap.cut (σ : AHeap) (D : Nat → Bool) : AHeap := { σ with objs := fun o => if D o then none else σ.objs o }

theorem R0.cut {G φ σ w} (hR : R0 G φ σ w) (D : Nat → Bool) (N : Nat → Prop) : R0 G φ (σ.cut D) w ∧ Ext0 N φ σ w φ (σ.cut D) w := by
  have he : Ext0 N φ σ w φ (σ.cut D) w := by
    refine ⟨fun o _ => ⟨rfl, fun h => by simp only [AHeap.cut]; split <;> simp_all⟩, fun o x hx => hx, Fr.refl _ _, fun b hb => ?_, Nat.le_refl _⟩
    obtain ⟨o, ob, s, h1, h2, h3⟩ := hb
    simp only [AHeap.cut] at h1
    split at h1
    · cases h1
    · exact .inl ⟨o, ob, s, h1, h2, h3⟩
  have hold : ∀ o ob, (σ.cut D).objs o = some ob → σ.objs o = some ob := by
    intro o ob h
    simp only [AHeap.cut] at h
    split at h
    · cases h
    · exact h
  refine ⟨hR.next he (fun o hle => ⟨?_, (hR.ids o hle).2⟩) (fun o o' b s s' ob ob' h1 h2 h3 h4 p1 p2 => hR.inj o o' b s s' ob ob' (hold _ _ h1) (hold _ _ h2) h3 h4 p1 p2) (fun o ob h => .inr ⟨hold _ _ h, rfl, fun _ _ _ _ => rfl⟩), he⟩
  have := (hR.ids o hle).1
  simp only [AHeap.cut]
  split <;> simp_all

/-- the same block, one cell read otherwise -/
theorem R0.recell {G φ σ w o ob r row i x y} (N : Nat → Prop) (hR : R0 G φ σ w) (ho : σ.objs o = some ob) (hr : ob.rows[r]? = some row) (hi : row[i]? = some x) (hy : y.one = true)
    (hxy : ∀ v, VRel φ (own0 φ σ) w x v → VRel φ (own0 φ σ) w y v) : R0 G φ (σ.put o ⟨ob.ty, ob.sz, ob.rows.set r (row.set i y)⟩) w ∧ Ext0 N φ σ w φ (σ.put o ⟨ob.ty, ob.sz, ob.rows.set r (row.set i y)⟩) w := by
  have howns : ∀ k, own0 φ (σ.put o ⟨ob.ty, ob.sz, ob.rows.set r (row.set i y)⟩) k ↔ own0 φ σ k := by
    intro k
    constructor
    · rintro ⟨o', ob', s, h1, h2, h3⟩
      by_cases e : o' = o
      · subst e; exact ⟨o', ob, s, ho, h2, h3⟩
      · exact ⟨o', ob', s, by simpa [AHeap.put, e] using h1, h2, h3⟩
    · rintro ⟨o', ob', s, h1, h2, h3⟩
      by_cases e : o' = o
      · subst e; exact ⟨o', _, s, by simp [AHeap.put]; rfl, h2, h3⟩
      · exact ⟨o', ob', s, by simpa [AHeap.put, e] using h1, h2, h3⟩
  have he : Ext0 N φ σ w φ (σ.put o ⟨ob.ty, ob.sz, ob.rows.set r (row.set i y)⟩) w := by
    refine ⟨fun k _ => ⟨rfl, fun h => ?_⟩, fun k x hx => hx, Fr.refl _ _, fun k hk => .inl ((howns k).1 hk), Nat.le_refl _⟩
    have : k ≠ o := by rintro rfl; rw [ho] at h; cases h
    simp [AHeap.put, this, h]
  refine ⟨hR.next he (fun k hle => ?_) (fun k k' b s s' ob1 ob2 h1 h2 h3 h4 p1 p2 => ?_) (fun k ob' h => ?_), he⟩
  · have : k ≠ o := by rintro rfl; rw [(hR.ids k hle).1] at ho; cases ho
    exact ⟨by simp [AHeap.put, this, (hR.ids k hle).1], (hR.ids k hle).2⟩
  · have f : ∀ k ob1, (σ.put o ⟨ob.ty, ob.sz, ob.rows.set r (row.set i y)⟩).objs k = some ob1 → ∃ x, σ.objs k = some x := by
      intro k ob1 h
      by_cases e : k = o
      · subst e; exact ⟨ob, ho⟩
      · exact ⟨ob1, by simpa [AHeap.put, e] using h⟩
    obtain ⟨x1, hx1⟩ := f k _ h1
    obtain ⟨y1, hy1⟩ := f k' _ h2
    exact hR.inj k k' b s s' x1 y1 hx1 hy1 h3 h4 p1 p2
  · by_cases e : k = o
    · subst e
      left
      simp [AHeap.put] at h
      subst h
      obtain ⟨b, sz, g1, g2, g3⟩ := hR.obj k ob ho
      refine ⟨b, sz, g1, fun e => by have := g2 e; rw [this] at hr; simp at hr, fun h0 => ?_⟩
      obtain ⟨c1, c2, arr, c3, c4, c5⟩ := g3 h0
      refine ⟨c1, c2, arr, c3, by simpa using c4, fun r' e' hr' => ?_⟩
      rw [List.getElem?_set] at hr'
      split at hr'
      · rename_i hrr
        subst hrr
        split at hr'
        · cases hr'
          obtain ⟨d1, d2⟩ := c5 r row hr
          refine ⟨by simpa using d1, fun i' z hz => ?_⟩
          rw [List.getElem?_set] at hz
          split at hz
          · rename_i hii
            subst hii
            split at hz
            · cases hz
              obtain ⟨d3, v, d4, d5⟩ := d2 i x hi
              exact ⟨hy, v, d4, (hxy v d5).mono he⟩
            · cases hz
          · obtain ⟨d3, v, d4, d5⟩ := d2 i' z hz
            exact ⟨d3, v, d4, d5.mono he⟩
        · cases hr'
      · obtain ⟨d1, d2⟩ := c5 r' e' hr'
        refine ⟨d1, fun i' z hz => ?_⟩
        obtain ⟨d3, v, d4, d5⟩ := d2 i' z hz
        exact ⟨d3, v, d4, d5.mono he⟩
    · right
      exact ⟨by simpa [AHeap.put, e] using h, rfl, fun _ _ _ _ => rfl⟩

theorem vnil_sl {φ ow w x g} (hx : x = .nilsl ∨ x = .esl) (hg : φ g = some (0, 0)) {v : Value} (h : VRel φ ow w x v) : VRel φ ow w (.sl g 0 0) v := by
  rcases hx with rfl | rfl <;> cases h <;> exact .sl0 hg
theorem vsl_ren {φ ow w d g n} (hg : φ g = φ d) {v : Value} (h : VRel φ ow w (.sl d 0 n) v) : VRel φ ow w (.sl g 0 n) v := by
  cases h with
  | sl h1 h2 h3 h4 h5 h6 => exact .sl (hg.trans h1) h2 h3 h4 h5 h6
  | sl0 h1 => exact .sl0 (hg.trans h1)

end Go.Abs
