/- append, cuts, slice literals, struct literals, make. -/
import Derived.Test.YtoklfbdcghgmlaaNAbs6
set_option linter.unusedSimpArgs false
set_option linter.unusedVariables false
namespace Go.Abs
open Go Go.RowKit

/-- the rows that a slice has -/
def srcA (ti : TI) (σ : AHeap) (x : AV) : Option (List (List AV)) :=
  match x with
  | .fsl es => if es.all (fun e => e.length == ti.sz) then some es else none
  | .sl o r m => (σ.objs o).bind fun ob => if (ob.sz = ti.sz ∧ r + m ≤ ob.rows.length) ∧ (((ob.rows.drop r).take m).all fun e => e.all AV.lin1) = true then some ((ob.rows.drop r).take m) else none
  | .nilsl => some []
  | .esl => some []
  | _ => none

/-- What a source of rows is in memory. -/
def Src (φ : Phi0) (ow : Nat → Prop) (w : World) (sz : Nat) (cx : Value) (E : List (List AV)) : Prop :=
  ∃ a c, cx = .slice a E.length c ∧ (E = [] ∨ ∃ ad, a = some ad ∧ ∀ (r : Nat) (e : List AV), E[r]? = some e → e.length = sz ∧ ∀ (i : Nat) (x : AV), e[i]? = some x → x.one = true ∧ ∃ v, w.cell? (ad.add (r * sz + i)) = some v ∧ VRel φ ow w x v)

theorem srcA_sound {G φ σ w ti x cx E} (hR : R0 G φ σ w) (hx : VRel φ (own0 φ σ) w x cx) (h : srcA ti σ x = some E) : Src φ (own0 φ σ) w ti.sz cx E := by
  unfold srcA at h
  split at h
  · rename_i es
    split at h
    · rename_i hall
      cases h
      simp only [List.all_eq_true, beq_iff_eq] at hall
      cases hx with
      | fsl0 => exact ⟨_, _, rfl, .inl rfl⟩
      | fsl vs hone hn hb hno hsz hcap hm hlen hcell hv =>
        rename_i n b off cap sz
        subst hn
        refine ⟨_, _, rfl, .inr ⟨_, rfl, fun r e hr => ?_⟩⟩
        have hmem := List.mem_of_getElem? hr
        have e1 := hlen r e hr
        have e2 := hall e hmem
        have e3 : sz = ti.sz := e1.symm.trans e2
        refine ⟨e2, fun i y hy => ⟨hone e hmem y (List.mem_of_getElem? hy), vs r i, ?_, hv r e hr i y hy⟩⟩
        rw [Addr.add_lit, ← e3]
        exact hcell r e hr i y hy
    · cases h
  · rename_i o r m
    cases ho : σ.objs o with
    | none => simp [ho] at h
    | some ob =>
    simp only [ho, Option.bind_some] at h
    split at h
    · rename_i hc
      obtain ⟨hc, _⟩ := hc
      cases h
      have hlen : ((ob.rows.drop r).take m).length = m := by simp; omega
      cases hx with
      | sl hφ hsz hn hcm hw he =>
        rename_i b sz cap T arr
        have hob := hR.obj o ob ho
        rw [hφ] at hob
        obtain ⟨rfl, h0, arr', hw', hle, hrows⟩ := hob.get hsz
        refine ⟨_, _, by rw [hlen], .inr ⟨_, rfl, fun k e hk => ?_⟩⟩
        rw [List.getElem?_take] at hk
        split at hk
        · rw [List.getElem?_drop] at hk
          obtain ⟨h1, h2⟩ := hrows _ e hk
          refine ⟨by rw [h1]; exact hc.1, fun i y hy => ?_⟩
          obtain ⟨h3, v, h4, h5⟩ := h2 i y hy
          refine ⟨h3, v, ?_, h5⟩
          rw [Addr.add_lit, cell_of_heap hw', ← hc.1, ← h4]
          congr 1
          rw [Nat.add_mul]; omega
        · cases hk
      | sl0 _ => exact ⟨_, _, by rw [hlen], .inl (by simp)⟩
      | sl1 _ => exact ⟨_, _, by rw [hlen], .inl (by simp)⟩
    · cases h
  · cases h; cases hx; exact ⟨_, _, rfl, .inl rfl⟩
  · cases h; cases hx; exact ⟨_, _, rfl, .inl rfl⟩
  · cases h

/-- The cells of a source, as a list of values. -/
theorem Src.news {φ ow w sz cx E} (h : Src φ ow w sz cx E) (h0 : 0 < sz) (hne : E ≠ []) : ∃ ad c, ∃ news : List Value, cx = .slice (some ad) E.length c ∧ news.length = E.length * sz ∧ (∀ j u, news[j]? = some u → w.cell? (ad.add j) = some u) ∧
    (∀ u ∈ news, u.oneCell' = true) ∧ Rows φ ow w sz E news.toArray := by
  obtain ⟨a, c, rfl, h1⟩ := h
  obtain ⟨ad, rfl, hE⟩ := h1.resolve_left hne
  have hq : ∀ q, q < E.length * sz → ∃ v, w.cell? (ad.add q) = some v ∧ v.oneCell' = true := by
    intro q hq
    have hr : q / sz < E.length := Nat.div_lt_of_lt_mul (by rw [Nat.mul_comm]; exact hq)
    have e1 : E[q / sz]? = some E[q / sz] := by simp [hr]
    obtain ⟨h2, h3⟩ := hE _ _ e1
    have hi : q % sz < E[q / sz].length := by rw [h2]; exact Nat.mod_lt _ h0
    obtain ⟨h4, v, h5, h6⟩ := h3 (q % sz) _ (List.getElem?_eq_getElem hi)
    refine ⟨v, ?_, oneCell_of h6 h4⟩
    rw [← h5]
    congr 2
    rw [Nat.mul_comm]
    exact (Nat.div_add_mod q sz).symm
  refine ⟨ad, c, (List.range (E.length * sz)).map fun q => (w.cell? (ad.add q)).getD undef, rfl, by simp, fun j u hj => ?_, fun u hu => ?_, fun r e hr => ?_⟩
  · rw [List.getElem?_map] at hj
    by_cases hl : j < E.length * sz
    · obtain ⟨v, h2, _⟩ := hq j hl
      simp [hl, h2] at hj
      rw [h2, hj]
    · simp [hl] at hj
  · rw [List.mem_map] at hu
    obtain ⟨q, hq', rfl⟩ := hu
    obtain ⟨v, h2, h3⟩ := hq q (List.mem_range.1 hq')
    simp [h2, h3]
  · obtain ⟨h2, h3⟩ := hE r e hr
    refine ⟨h2, fun i x hx => ?_⟩
    obtain ⟨h4, v, h5, h6⟩ := h3 i x hx
    have hi : i < sz := by rw [← h2]; exact (List.getElem?_eq_some_iff.1 hx).1
    have hrl : r < E.length := (List.getElem?_eq_some_iff.1 hr).1
    have hlt : r * sz + i < E.length * sz := idx_lt (j := 0) hrl hi
    exact ⟨h4, v, by simp [hlt, h5], h6⟩

def appendA (T : Types) (t : TypeId) (id : Nat) (s x : AV) (σ : AHeap) : Option (AV × AHeap) :=
  match T.kind t with
  | some (.slice e) => (T e).bind fun ti => (srcA ti σ x).bind fun E =>
    match s with
    | .sl o 0 n => (σ.objs o).bind fun ob =>
      if 0 < ti.sz ∧ ob.ty = e ∧ ob.sz = ti.sz ∧ n ≤ ob.rows.length ∧ n + E.length ≤ maxLen ∧ (n + E.length) * ti.bytes ≤ 140737488355328 then
        some (.sl id 0 (n + E.length), (σ.kill o).put id ⟨e, ti.sz, ob.rows.take n ++ E⟩) else none
    | .nilsl => if 0 < ti.sz ∧ E.length ≤ maxLen ∧ E.length * ti.bytes ≤ 140737488355328 then some (.sl id 0 E.length, σ.put id ⟨e, ti.sz, E⟩) else none
    | .esl => if 0 < ti.sz ∧ E.length ≤ maxLen ∧ E.length * ti.bytes ≤ 140737488355328 then some (.sl id 0 E.length, σ.put id ⟨e, ti.sz, E⟩) else none
    | _ => none
  | _ => none

def AV.noRoom : AV → Bool
  | .nilsl => true
  | .esl => true
  | _ => false

/-- an append whose result is only read -/
def appendF (T : Types) (t : TypeId) (s x : AV) (σ : AHeap) : Option (AV × AHeap) :=
  match T.kind t with
  | some (.slice e) => (T e).bind fun ti => (srcA ti σ x).bind fun E =>
    if s.noRoom = true ∧ 0 < ti.sz ∧ E.length ≤ maxLen ∧ E.length * ti.bytes ≤ 140737488355328 then some (.fsl E, σ) else none
  | _ => none

/-- x as it reads when object o, with these rows, is let go -/
inductive Fz (o : Nat) (rows : List (List AV)) : AV → AV → Prop where
  | refl (x : AV) : Fz o rows x x
  | sl {r n : Nat} (h : r + n ≤ rows.length) : Fz o rows (.sl o r n) (.fsl ((rows.drop r).take n))
  | ptr {r i : Nat} {row : List AV} (h : rows[r]? = some row) : Fz o rows (.ptr o r i) (.fptr row i)
  | tup {xs ys : List AV} (hl : xs.length = ys.length) (h : ∀ (i : Nat) (x y : AV), xs[i]? = some x → ys[i]? = some y → Fz o rows x y) : Fz o rows (.tup xs) (.tup ys)
  | agg {xs ys : List AV} (hl : xs.length = ys.length) (h : ∀ (i : Nat) (x y : AV), xs[i]? = some x → ys[i]? = some y → Fz o rows x y) : Fz o rows (.agg xs) (.agg ys)

theorem Fz.sound {G φ σ w o ob x y} (hR : R0 G φ σ w) (ho : σ.objs o = some ob) (h : Fz o ob.rows x y) : ∀ {v : Value}, VRel φ (own0 φ σ) w x v → VRel φ (own0 φ (σ.kill o)) w y v := by
  obtain ⟨_, he⟩ := hR.kill o (fun _ => False)
  have hno : ∀ b sz, φ o = some (b, sz) → 0 < sz → ¬ own0 φ (σ.kill o) b := by
    rintro b sz h1 h0 ⟨k, x, s, h2, h3, h4⟩
    simp only [AHeap.kill] at h2
    split at h2
    · cases h2
    · rename_i hne
      exact hne (hR.inj k o b s sz x ob h2 ho h3 h1 h4 h0)
  induction h with
  | refl x => intro v hv; exact hv.mono he
  | sl hrn =>
    rename_i r n
    intro v hv
    have hlen : ((ob.rows.drop r).take n).length = n := by simp; omega
    cases hv with
    | sl0 _ => simp; exact .fsl0
    | sl1 _ => simp; exact .fsl0
    | sl hφ hsz hn hcm hw hle =>
      rename_i b sz cap T arr
      have hob := hR.obj o ob ho
      rw [hφ] at hob
      obtain ⟨e1, _, arr', hw', hl', hrows⟩ := hob.get hsz
      by_cases hz : n = 0
      · subst hz; simp; exact .fsl0
      have get : ∀ (j : Nat) (row : List AV), ((ob.rows.drop r).take n)[j]? = some row → ob.rows[r + j]? = some row := by
        intro j row hj
        rw [List.getElem?_take] at hj
        split at hj
        · rwa [List.getElem?_drop] at hj
        · cases hj
      have mem : ∀ row ∈ (ob.rows.drop r).take n, ∃ j : Nat, ob.rows[r + j]? = some row := by
        intro row hrow
        obtain ⟨j, hj, rfl⟩ := List.getElem_of_mem hrow
        exact ⟨j, get j _ (List.getElem?_eq_getElem hj)⟩
      refine VRel.fsl (sz := sz) (fun j i => arr'.getD ((r + j) * sz + i) undef) (fun row hrow x hx => ?_) hlen (lt_of_heap hw) (hno b sz hφ hsz) hsz hn hcm (fun j row hj => (hrows _ row (get j row hj)).1) (fun j row hj i x hx => ?_) (fun j row hj i x hx => ?_)
      · obtain ⟨j, hj⟩ := mem row hrow
        obtain ⟨i, hi, rfl⟩ := List.getElem_of_mem hx
        exact ((hrows _ row hj).2 i _ (List.getElem?_eq_getElem hi)).1
      · obtain ⟨_, u, h3, _⟩ := (hrows _ row (get j row hj)).2 i x hx
        rw [cell_of_heap hw', show r * sz + (j * sz + i) = (r + j) * sz + i by rw [Nat.add_mul]; omega, h3, Array.getD_eq_getD_getElem?, h3]; rfl
      · obtain ⟨_, u, h3, h4⟩ := (hrows _ row (get j row hj)).2 i x hx
        rw [Array.getD_eq_getD_getElem?, h3]
        exact h4.mono he
  | ptr hr =>
    rename_i r i row
    intro v hv
    cases hv with
    | ptr hφ =>
      rename_i b sz
      have hob := hR.obj o ob ho
      rw [hφ] at hob
      have hsz : 0 < sz := by
        rcases Nat.eq_zero_or_pos sz with e | e
        · obtain ⟨b', sz', e1, h2', _⟩ := hob
          cases e1
          rw [h2' e] at hr
          simp at hr
        · exact e
      obtain ⟨e1, _, arr', hw', hl', hrows⟩ := hob.get hsz
      refine VRel.fptr (off := r * sz) (fun j => arr'.getD (r * sz + j) undef) (fun x hx => ?_) (lt_of_heap hw') (hno b sz hφ hsz) (fun j x hj => ?_) (fun j x hj => ?_)
      · obtain ⟨j, hj, rfl⟩ := List.getElem_of_mem hx
        exact ((hrows r row hr).2 j _ (List.getElem?_eq_getElem hj)).1
      · obtain ⟨_, u, h3, _⟩ := (hrows r row hr).2 j x hj
        rw [cell_of_heap hw', h3, Array.getD_eq_getD_getElem?, h3]; rfl
      · obtain ⟨_, u, h3, h4⟩ := (hrows r row hr).2 j x hj
        rw [Array.getD_eq_getD_getElem?, h3]
        exact h4.mono he
  | tup hl _ ih =>
    intro v hv
    cases hv with
    | tup hl' hv' =>
      refine .tup (hl.symm.trans hl') fun i y u hy hu => ?_
      have hi := (List.getElem?_eq_some_iff.1 hy).1
      exact ih i _ y (List.getElem?_eq_getElem (by omega)) hy (hv' i _ u (List.getElem?_eq_getElem (by omega)) hu)
  | agg hl _ ih =>
    intro v hv
    cases hv with
    | agg hl' hv' =>
      refine .agg (hl.symm.trans hl') fun i y u hy hu => ?_
      have hi := (List.getElem?_eq_some_iff.1 hy).1
      exact ih i _ y (List.getElem?_eq_getElem (by omega)) hy (hv' i _ u (List.getElem?_eq_getElem (by omega)) hu)


theorem Rows.append {φ ow} {w : World} {sz : Nat} {A B : List (List AV)} {a b c : Array Value} (hA : Rows φ ow w sz A a) (hB : Rows φ ow w sz B b) (ha : a.size = A.length * sz) (hb : b.size = B.length * sz) :
    Rows φ ow w sz (A ++ B) (a ++ b ++ c) := by
  intro r e hr
  rw [List.getElem?_append] at hr
  split at hr
  · rename_i hlt
    obtain ⟨h1, h2⟩ := hA r e hr
    refine ⟨h1, fun i x hx => ?_⟩
    obtain ⟨h3, v, h4, h5⟩ := h2 i x hx
    have hi : i < sz := by rw [← h1]; exact (List.getElem?_eq_some_iff.1 hx).1
    have : r * sz + i < A.length * sz := idx_lt (j := 0) hlt hi
    refine ⟨h3, v, ?_, h5⟩
    rw [Array.append_assoc, Array.getElem?_append_left (by omega)]
    exact h4
  · rename_i hge
    obtain ⟨h1, h2⟩ := hB _ e hr
    refine ⟨h1, fun i x hx => ?_⟩
    obtain ⟨h3, v, h4, h5⟩ := h2 i x hx
    have hrl : r - A.length < B.length := (List.getElem?_eq_some_iff.1 hr).1
    have hi : i < sz := by rw [← h1]; exact (List.getElem?_eq_some_iff.1 hx).1
    have hlt : (r - A.length) * sz + i < B.length * sz := idx_lt (j := 0) hrl hi
    have hmul : r * sz = (r - A.length) * sz + A.length * sz := by rw [← Nat.add_mul]; congr 1; omega
    refine ⟨h3, v, ?_, h5⟩
    rw [Array.append_assoc, Array.getElem?_append_right (by omega), ha, show r * sz + i - A.length * sz = (r - A.length) * sz + i by omega, Array.getElem?_append_left (by omega)]
    exact h4

theorem Rows.take {φ ow} {w : World} {sz : Nat} {A : List (List AV)} {a : Array Value} (h : Rows φ ow w sz A a) (n : Nat) : Rows φ ow w sz (A.take n) a := by
  intro r e hr
  rw [List.getElem?_take] at hr
  split at hr
  · exact h r e hr
  · cases hr

/-- rows lie in the first cells of an array -/
theorem Rows.first {φ ow} {w : World} {sz : Nat} {A : List (List AV)} {a : Array Value} (h : Rows φ ow w sz A a) (k : Nat) (hk : k = A.length * sz) : Rows φ ow w sz A (a.toList.take k).toArray := by
  subst hk
  intro r e hr
  obtain ⟨h1, h2⟩ := h r e hr
  refine ⟨h1, fun i x hx => ?_⟩
  obtain ⟨h3, v, h4, h5⟩ := h2 i x hx
  have hrl : r < A.length := (List.getElem?_eq_some_iff.1 hr).1
  have hi : i < sz := by rw [← h1]; exact (List.getElem?_eq_some_iff.1 hx).1
  have hlt : r * sz + i < A.length * sz := idx_lt (j := 0) hrl hi
  refine ⟨h3, v, ?_, h5⟩
  simp [List.getElem?_take, hlt, h4]

end Go.Abs
