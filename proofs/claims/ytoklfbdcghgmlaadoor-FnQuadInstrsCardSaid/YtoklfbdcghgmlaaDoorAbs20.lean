/- Lengths that every slice has; a read-only call at values that are owned. -/
import Derived.Test.YtoklfbdcghgmlaaDoorAbs19
set_option linter.unusedSimpArgs false
set_option linter.unusedVariables false
namespace Go.Abs
open Go Go.RowKit

/-- what is known of the lengths in a value, d levels deep -/
def AV.lens : Nat → AV → Prop
  | 0, _ => True
  | d + 1, .fsl es => (es.length : Int) ≤ 9223372036854775807 ∧ es.length ≤ maxLen ∧ ∀ e ∈ es, ∀ x ∈ e, AV.lens d x
  | d + 1, .agg cs => ∀ x ∈ cs, AV.lens d x
  | d + 1, .fptr cs _ => ∀ x ∈ cs, AV.lens d x
  | _ + 1, .sl _ _ n => n ≤ maxLen
  | _ + 1, _ => True

theorem maxLen_le : maxLen ≤ 9223372036854775807 := by decide

theorem VRel.lens {φ : Phi} {ow : Nat → Prop} {w : World} : ∀ (d : Nat) {x : AV} {v : Value}, VRel φ ow w x v → x.lens d
  | 0, _, _, _ => trivial
  | d + 1, x, v, h => by
    cases h with
    | fsl0 => exact ⟨by simp, by simp, by simp⟩
    | fsl vs hone hn hb hno hsz hcap hm hlen hcell hv =>
      have h1 := maxLen_le
      refine ⟨by omega, by omega, fun e he x hx => ?_⟩
      obtain ⟨j, hj, rfl⟩ := List.getElem_of_mem he
      obtain ⟨i, hi, rfl⟩ := List.getElem_of_mem hx
      exact VRel.lens d (hv j _ (List.getElem?_eq_getElem hj) i _ (List.getElem?_eq_getElem hi))
    | agg hl hv =>
      intro x hx
      obtain ⟨i, hi, rfl⟩ := List.getElem_of_mem hx
      exact VRel.lens d (hv i _ _ (List.getElem?_eq_getElem hi) (Array.getElem?_eq_getElem (by omega)))
    | fptr vs hone hb hno hcell hv =>
      intro x hx
      obtain ⟨i, hi, rfl⟩ := List.getElem_of_mem hx
      exact VRel.lens d (hv i _ (List.getElem?_eq_getElem hi))
    | sl h hsz hn hc => exact Nat.le_trans hn hc
    | sl0 h => exact Nat.zero_le _
    | int => trivial
    | bool => trivial
    | str => trivial
    | nilp => trivial
    | nilsl => trivial
    | esl => trivial
    | nilf => trivial
    | any => trivial
    | ptr h => trivial
    | tup hl hv => trivial
    | clo => trivial

theorem AWP_lens {P : Program} {G : Globs} {n N : Nat} {Q : Ex → AAct → AHeap → Prop} {a : AAct} {σ : AHeap} {c : Code} (d t : Nat) (k : (a.get t).lens d → AWP P G n N c Q a σ) : AWP P G n N c Q a σ :=
  fun hN φ w ca hR hA => k ((hA.rel t).lens d) hN φ w ca hR hA

def AHeap.cut (σ : AHeap) (D : Nat → Bool) : AHeap := { σ with objs := fun o => if D o then none else σ.objs o }

theorem R.cut {G φ σ w} (hR : R G φ σ w) (D : Nat → Bool) (N : Nat → Prop) : R G φ (σ.cut D) w ∧ Ext N φ σ w φ (σ.cut D) w := by
  have he : Ext N φ σ w φ (σ.cut D) w := by
    refine ⟨fun o _ => ⟨rfl, fun h => by simp only [AHeap.cut]; split <;> simp_all⟩, fun o x hx => hx, Fr.refl _ _, fun b hb => ?_, Nat.le_refl _⟩
    obtain ⟨o, ob, s, h1, h2, h3⟩ := hb
    simp only [AHeap.cut] at h1
    split at h1
    · cases h1
    · exact .inl ⟨o, ob, s, h1, h2, h3⟩
  have hold : ∀ o ob, (σ.cut D).objs o = some ob → σ.objs o = some ob := by
    intro o ob h
    simp only [AHeap.cut] at h
    split at h
    · cases h
    · exact h
  refine ⟨hR.next he (fun o hle => ⟨?_, (hR.ids o hle).2⟩) (fun o o' b s s' ob ob' h1 h2 h3 h4 p1 p2 => hR.inj o o' b s s' ob ob' (hold _ _ h1) (hold _ _ h2) h3 h4 p1 p2) (fun o ob h => .inr ⟨hold _ _ h, rfl, fun _ _ _ _ => rfl⟩), he⟩
  have := (hR.ids o hle).1
  simp only [AHeap.cut]
  split <;> simp_all

/-- how a value reads when the objects of D are let go -/
def thawA (D : Nat → Bool) (σ : AHeap) : Nat → AV → AV
  | 0, x => x
  | d + 1, .sl o r n => match σ.objs o with
    | some ob => if D o = true ∧ r + n ≤ ob.rows.length then .fsl (((ob.rows.drop r).take n).map fun e => e.map (thawA D σ d)) else .sl o r n
    | none => .sl o r n
  | d + 1, .ptr o r i => match σ.objs o with
    | some ob => if D o = true then (match ob.rows[r]? with
      | some row => .fptr (row.map (thawA D σ d)) i
      | none => .ptr o r i) else .ptr o r i
    | none => .ptr o r i
  | d + 1, .agg cs => .agg (cs.map (thawA D σ d))
  | d + 1, .tup cs => .tup (cs.map (thawA D σ d))
  | _ + 1, .nilsl => .fsl []
  | _ + 1, .esl => .fsl []
  | _ + 1, x => x

theorem thawA_one {D σ} : ∀ (d : Nat) (x : AV), x.one = true → (thawA D σ d x).one = true
  | 0, x, h => h
  | d + 1, x, h => by
    cases x with
    | sl o r n =>
      simp only [thawA]
      split
      · split <;> rfl
      · rfl
    | ptr o r i =>
      simp only [thawA]
      split
      · split
        · split <;> rfl
        · rfl
      · rfl
    | agg => cases h
    | tup => cases h
    | nilsl => rfl
    | esl => rfl
    | _ => exact h

theorem thawA_sound {G φ σ w} (hR : R G φ σ w) (D : Nat → Bool) : ∀ (d : Nat) (x : AV) (v : Value), VRel φ (own φ σ) w x v → VRel φ (own φ (σ.cut D)) w (thawA D σ d x) v := by
  obtain ⟨_, he⟩ := hR.cut D (fun _ => False)
  have hno : ∀ o ob b sz, σ.objs o = some ob → D o = true → φ o = some (b, sz) → 0 < sz → ¬ own φ (σ.cut D) b := by
    rintro o ob b sz ho hD h1 h0 ⟨k, x, s, h2, h3, h4⟩
    simp only [AHeap.cut] at h2
    split at h2
    · cases h2
    · rename_i hne
      have := hR.inj k o b s sz x ob h2 ho h3 h1 h4 h0
      subst this
      exact hne hD
  intro d
  induction d with
  | zero => intro x v hv; exact hv.mono he
  | succ d ih =>
    intro x v hv
    cases x with
    | sl o r n =>
      simp only [thawA]
      split
      · rename_i ob ho
        split
        · rename_i hc
          obtain ⟨hD, hrn⟩ := hc
          cases hv with
          | sl0 _ => simp; exact .fsl0
          | sl hφ hsz hn hcm hw hle =>
            rename_i b sz cap T arr
            have hob := hR.obj o ob ho
            rw [hφ] at hob
            obtain ⟨e1, _, arr', hw', hl', hrows⟩ := hob.get hsz
            have hlen : (((ob.rows.drop r).take n).map fun e => e.map (thawA D σ d)).length = n := by simp; omega
            have get : ∀ (j : Nat) (row : List AV), (((ob.rows.drop r).take n).map fun e => e.map (thawA D σ d))[j]? = some row → ∃ row0, ob.rows[r + j]? = some row0 ∧ row = row0.map (thawA D σ d) := by
              intro j row hj
              rw [List.getElem?_map, List.getElem?_take] at hj
              split at hj
              · rw [List.getElem?_drop] at hj
                cases h : ob.rows[r + j]? with
                | none => simp [h] at hj
                | some row0 => simp [h] at hj; exact ⟨row0, rfl, hj.symm⟩
              · cases hj
            refine VRel.fsl (sz := sz) (fun j i => arr'.getD ((r + j) * sz + i) undef) (fun row hrow x hx => ?_) hlen (lt_of_heap hw) (hno o ob b sz ho hD hφ hsz) hsz hn hcm (fun j row hj => ?_) (fun j row hj i x hx => ?_) (fun j row hj i x hx => ?_)
            · obtain ⟨j, hj, rfl⟩ := List.getElem_of_mem hrow
              obtain ⟨row0, h1, h2⟩ := get j _ (List.getElem?_eq_getElem hj)
              rw [h2] at hx
              obtain ⟨y, hy, rfl⟩ := List.mem_map.1 hx
              obtain ⟨i, hi, rfl⟩ := List.getElem_of_mem hy
              exact thawA_one _ _ ((hrows _ row0 h1).2 i _ (List.getElem?_eq_getElem hi)).1
            · obtain ⟨row0, h1, rfl⟩ := get j row hj
              rw [List.length_map]
              exact (hrows _ row0 h1).1
            · obtain ⟨row0, h1, rfl⟩ := get j row hj
              rw [List.getElem?_map] at hx
              cases h : row0[i]? with
              | none => simp [h] at hx
              | some y =>
                obtain ⟨_, u, h3, _⟩ := (hrows _ row0 h1).2 i y h
                rw [cell_of_heap hw', show r * sz + (j * sz + i) = (r + j) * sz + i by rw [Nat.add_mul]; omega, h3, Array.getD_eq_getD_getElem?, h3]; rfl
            · obtain ⟨row0, h1, rfl⟩ := get j row hj
              rw [List.getElem?_map] at hx
              cases h : row0[i]? with
              | none => simp [h] at hx
              | some y =>
                simp [h] at hx
                subst hx
                obtain ⟨_, u, h3, h4⟩ := (hrows _ row0 h1).2 i y h
                rw [Array.getD_eq_getD_getElem?, h3]
                exact ih _ _ h4
        · exact hv.mono he
      · exact hv.mono he
    | ptr o r i =>
      simp only [thawA]
      split
      · rename_i ob ho
        split
        · rename_i hD
          split
          · rename_i row hr
            cases hv with
            | ptr hφ =>
              rename_i b sz
              have hob := hR.obj o ob ho
              rw [hφ] at hob
              have hsz : 0 < sz := by
                rcases Nat.eq_zero_or_pos sz with e | e
                · obtain ⟨b', sz', e1, h2', _⟩ := hob
                  cases e1
                  rw [h2' e] at hr
                  simp at hr
                · exact e
              obtain ⟨e1, _, arr', hw', hl', hrows⟩ := hob.get hsz
              refine VRel.fptr (off := r * sz) (fun j => arr'.getD (r * sz + j) undef) (fun x hx => ?_) (lt_of_heap hw') (hno o ob b sz ho hD hφ hsz) (fun j x hj => ?_) (fun j x hj => ?_)
              · obtain ⟨y, hy, rfl⟩ := List.mem_map.1 hx
                obtain ⟨j, hj, rfl⟩ := List.getElem_of_mem hy
                exact thawA_one _ _ ((hrows r row hr).2 j _ (List.getElem?_eq_getElem hj)).1
              · rw [List.getElem?_map] at hj
                cases h : row[j]? with
                | none => simp [h] at hj
                | some y =>
                  obtain ⟨_, u, h3, _⟩ := (hrows r row hr).2 j y h
                  rw [cell_of_heap hw', h3, Array.getD_eq_getD_getElem?, h3]; rfl
              · rw [List.getElem?_map] at hj
                cases h : row[j]? with
                | none => simp [h] at hj
                | some y =>
                  simp [h] at hj
                  subst hj
                  obtain ⟨_, u, h3, h4⟩ := (hrows r row hr).2 j y h
                  rw [Array.getD_eq_getD_getElem?, h3]
                  exact ih _ _ h4
          · exact hv.mono he
        · exact hv.mono he
      · exact hv.mono he
    | agg cs =>
      cases hv with
      | agg hl h =>
        refine .agg (by rw [List.length_map]; exact hl) fun i x u hx hu => ?_
        rw [List.getElem?_map] at hx
        cases h' : cs[i]? with
        | none => simp [h'] at hx
        | some y => simp [h'] at hx; subst hx; exact ih _ _ (h i y u h' hu)
    | tup cs =>
      cases hv with
      | tup hl h =>
        refine .tup (by rw [List.length_map]; exact hl) fun i x u hx hu => ?_
        rw [List.getElem?_map] at hx
        cases h' : cs[i]? with
        | none => simp [h'] at hx
        | some y => simp [h'] at hx; subst hx; exact ih _ _ (h i y u h' hu)
    | nilsl => cases hv; exact .fsl0
    | esl => cases hv; exact .fsl0
    | _ => exact hv.mono he

/-- what is new is let go: a result that the caller reads only -/
theorem APure_thaw {P G f args r} (d : Nat) (h : ∀ σ, ACalls P G f args σ fun r' σ' => thawA (fun o => decide (σ.next ≤ o)) σ' d r' = r ∧ ∀ o, o < σ.next → σ'.objs o = σ.objs o) (hb : Below 0 r) : APure P G f args r := by
  refine APure_of (fun σ => ?_) hb
  refine ⟨(h σ).1, fun φ w vs hR hA => ((h σ).2 φ w vs hR hA).mono ?_⟩
  rintro e w' ⟨v, r', φ', σ', rfl, ⟨h1, h2⟩, h3, h4, h5⟩
  obtain ⟨k1, k2⟩ := h3.cut (fun o => decide (σ.next ≤ o)) (· < σ.next)
  refine ⟨v, r, φ', σ'.cut _, rfl, ⟨rfl, fun o ho => ?_⟩, k1, h4.trans k2, ?_⟩
  · simp only [AHeap.cut]
    rw [if_neg (by simp; omega)]
    exact h2 o ho
  · rw [← h1]
    exact thawA_sound h3 _ d r' v h5

/-- values that do not look into the heap -/
def AV.leaf : AV → Bool
  | .int _ _ | .bool _ | .str _ => true
  | _ => false
def AV.flat : AV → Bool
  | .tup l => l.all AV.leaf
  | x => x.leaf

theorem VRel.leaf {φ φ' : Phi} {ow ow' : Nat → Prop} {w w' : World} {x : AV} {v : Value} (h : VRel φ ow w x v) (hx : x.leaf = true) : VRel φ' ow' w' x v := by
  cases h with
  | int => exact .int
  | bool => exact .bool
  | str => exact .str
  | _ => cases hx

theorem VRel.flat {φ φ' : Phi} {ow ow' : Nat → Prop} {w w' : World} {x : AV} {v : Value} (h : VRel φ ow w x v) (hx : x.flat = true) : VRel φ' ow' w' x v := by
  cases x with
  | tup l =>
    cases h with
    | tup hl hv => exact .tup hl fun i y u hy hu => (hv i y u hy hu).leaf (List.all_eq_true.1 hx y (List.mem_of_getElem? hy))
  | _ => exact h.leaf hx

/-- a call that only reads, at values that are owned -/
theorem borrow {P G f args ys r σ} (d : Nat) (h : APure P G f ys r) (hy : args.map (thawA (fun _ => true) σ d) = ys) (hr : r.flat = true) : ACalls P G f args σ fun r' σ' => r' = r ∧ σ' = σ := by
  refine ⟨(h σ).1, fun φ w vs hR hA => ?_⟩
  obtain ⟨k1, _⟩ := hR.cut (fun _ => true) (fun _ => False)
  have hA' : ArgsRel φ (own φ (σ.cut fun _ => true)) w ys vs := by
    subst hy
    refine ⟨by rw [List.length_map]; exact hA.1, fun i x u hx hu => ?_⟩
    rw [List.getElem?_map] at hx
    cases h' : args[i]? with
    | none => simp [h'] at hx
    | some y => simp [h'] at hx; subst hx; exact thawA_sound hR _ d y u (hA.2 i y u h' hu)
  refine ((h (σ.cut fun _ => true)).2 φ w vs k1 hA').mono ?_
  rintro e w' ⟨v, r', φ', σ', rfl, ⟨rfl, rfl⟩, h3, h4, h5⟩
  have hφ : φ' = φ := by
    funext o
    rcases Nat.lt_or_ge o σ.next with hlt | hge
    · exact (h4.keep o hlt).1
    · rw [(h3.ids o hge).2, (hR.ids o hge).2]
  subst hφ
  have hno : ∀ b, ¬ own φ' (σ.cut fun _ => true) b := by
    rintro b ⟨o, ob, s, h1, _⟩
    simp [AHeap.cut] at h1
  have hblk : ∀ b, b < w.heap.size → w'.heap[b]? = w.heap[b]? := fun b hb => h4.fr.blk b hb (hno b)
  have he : Ext (· < σ.next) φ' σ w φ' σ w' := ⟨fun o _ => ⟨rfl, fun h => h⟩, fun o x h => h, ⟨h4.fr.os, h4.fr.tape, h4.fr.output, h4.fr.size, fun b hb _ => hblk b hb, h4.fr.shp⟩, fun b hb => .inl hb, Nat.le_refl _⟩
  refine ⟨v, r', φ', σ, rfl, ⟨rfl, rfl⟩, hR.next he hR.ids hR.inj (fun o ob ho => .inr ⟨ho, rfl, fun b sz hφ hsz => hblk b ?_⟩), he, h5.flat hr⟩
  have hob := hR.obj o ob ho
  rw [hφ] at hob
  obtain ⟨_, _, arr, hw, _⟩ := hob.get hsz
  exact lt_of_heap hw

/-- a part of a heap: the same names, some of the objects -/
def AHeap.Sub (τ σ : AHeap) : Prop := τ.next = σ.next ∧ ∀ o, τ.objs o = σ.objs o ∨ τ.objs o = none

theorem AHeap.Sub.refl (σ : AHeap) : AHeap.Sub σ σ := ⟨rfl, fun _ => .inl rfl⟩

theorem AHeap.Sub.cut {τ σ : AHeap} (h : AHeap.Sub τ σ) : ∃ D, τ = σ.cut D := by
  refine ⟨fun o => (τ.objs o).isNone, ?_⟩
  obtain ⟨h1, h2⟩ := h
  cases τ with
  | mk objs next =>
    simp only [AHeap.cut] at h1 h2 ⊢
    subst h1
    congr 1
    funext o
    split
    · rename_i h
      simpa using h
    · rename_i h
      rcases h2 o with k | k
      · exact k
      · rw [k] at h; exact absurd rfl h

section
variable {P : Program} {G : Globs} {n N : Nat} {Q : Ex → AAct → AHeap → Prop} {a : AAct} {σ τ : AHeap} {c : Code}

/-- objects are forgotten -/
theorem AWP_sub (hs : AHeap.Sub τ σ) (h : AWP P G n N c Q a τ) : AWP P G n N c Q a σ := by
  obtain ⟨D, rfl⟩ := hs.cut
  intro hN φ w ca hR hA
  obtain ⟨k1, k2⟩ := hR.cut D (· < N)
  exact wp_mono (h hN φ w ca k1 (hA.mono k2)) fun e ca' w' hq => hq.le k2

theorem AWP_ids (k : (∀ o, σ.next ≤ o → σ.objs o = none) → AWP P G n N c Q a σ) : AWP P G n N c Q a σ :=
  fun hN φ w ca hR hA => k (fun o ho => (hR.ids o ho).1) hN φ w ca hR hA

theorem AWP_loopg (l : List Nat) (I : Nat → AAct → AHeap → Prop) (m : Nat) (h0 : I m (a.keep l) σ)
    (round : ∀ m a σ, I m a σ → ∀ K : AAct → AHeap → Prop, (∀ a' σ', (∃ m', m' < m ∧ ∃ τ, AHeap.Sub τ σ' ∧ I m' (a'.keep l) τ) → K a' σ') → AWP P G n N c (thenQ K Q) a σ) : AWP P G n N (.loop c) Q a σ :=
  AWP_loop (fun m a σ => ∃ τ, AHeap.Sub τ σ ∧ I m (a.keep l) τ) m ⟨σ, .refl σ, h0⟩ fun m a σ ⟨τ, h1, h2⟩ => AWP_sub h1 (AWP_keep l (round m _ τ h2 _ fun _ _ h => h))
end

end Go.Abs
