/- Regions that draw their order and in which what is read is watched. -/
import Derived.Test.YtoklfbdcghgmlaaNAbs20
set_option linter.unusedSimpArgs false
set_option linter.unusedVariables false
namespace Go.Abs
open Go Go.RowKit

variable {P : Program} {T : Types} {G : Globs} {n N : Nat} {Q : Ex → AAct → AHeap → Prop} {K : AAct → AHeap → Prop} {a : AAct} {σ : AHeap}

/-- what was read stays as it was read -/
def Chk (wt : Nat → List Nat) (W : Recs) (i : Nat) (σ σ' : AHeap) : Prop := ∀ p ∈ W, p.1 ∈ wt i → sameVal (p.2 σ) (p.2 σ')

/-- the run in one order, as it is computed -/
def ADCw (P : Program) (T : Types) (G : Globs) (n : Nat) (alts : List Nat) (ds : List (Option Nat)) (base : Nat) (hs : List Nat) (wt : Nat → List Nat) (Q : AAct → AHeap → Prop) : List (Oper × Nat) → Recs → AAct → AHeap → Prop
  | [], _, a, σ => Q a σ
  | (o, i) :: l, W, a, σ => dstOk n o.dst = true ∧
    match o.guard with
    | none =>
      if hs.contains i then
        (match stepO T G (alts.contains i) (base + i) o a σ with
          | .val v σ' => Chk wt W i σ σ' ∧ ADCw P T G n alts ds base hs wt Q l ((i, fun σ => stepO T G (alts.contains i) (base + i) o a σ) :: W) (a.put o.dst v) σ'
          | .call f args => ACalls P G f args σ fun r σ' => Chk wt W i σ σ' ∧ ADCw P T G n alts ds base hs wt Q l W (a.put o.dst r) σ'
          | .bad => False)
      else
        (match stepO T G (alts.contains i) (base + i) o a empty with
          | .val v _ => freeOp (alts.contains i) o = true ∧ ADCw P T G n alts ds base hs wt Q l W (a.put o.dst v) σ
          | .call f args => ∃ r, APure P G f args r ∧ ADCw P T G n alts ds base hs wt Q l W (a.put o.dst r) σ
          | .bad => False)
    | some (j, want) =>
      match ds[j]? with
      | some (some t) => (match a.get t with
        | .bool b =>
          (b = want →
            if hs.contains i then
              (match stepO T G (alts.contains i) (base + i) o ((t, .bool want) :: a) σ with
                | .val v σ' => Chk wt W i σ σ' ∧ ADCw P T G n alts ds base hs wt Q l ((i, fun σ => stepO T G (alts.contains i) (base + i) o ((t, .bool want) :: a) σ) :: W) (AAct.put ((t, .bool want) :: a) o.dst v) σ'
                | .call f args => ACalls P G f args σ fun r σ' => Chk wt W i σ σ' ∧ ADCw P T G n alts ds base hs wt Q l W (AAct.put ((t, .bool want) :: a) o.dst r) σ'
                | .bad => False)
            else
              (match stepO T G (alts.contains i) (base + i) o ((t, .bool want) :: a) empty with
                | .val v _ => freeOp (alts.contains i) o = true ∧ ADCw P T G n alts ds base hs wt Q l W (AAct.put ((t, .bool want) :: a) o.dst v) σ
                | .call f args => ∃ r, APure P G f args r ∧ ADCw P T G n alts ds base hs wt Q l W (AAct.put ((t, .bool want) :: a) o.dst r) σ
                | .bad => False)) ∧
          (b = !want → ADCw P T G n alts ds base hs wt Q l W (AAct.put ((t, .bool (!want)) :: a) o.dst (.tup [])) σ)
        | .tup [] => ADCw P T G n alts ds base hs wt Q l W (a.put o.dst (.tup [])) σ
        | _ => False)
      | _ => False

theorem ADCw_sound {alts : List Nat} {ds : List (Option Nat)} {base : Nat} {hs : List Nat} {wt : Nat → List Nat} : ∀ (l : List (Oper × Nat)) (W : Recs) (a a' : AAct) (σ : AHeap), Eqv a a' → ADCw P T G n alts ds base hs wt K l W a σ →
    ADraw P T G n alts ds base hs wt (fun a σ => ∃ a0, Eqv a0 a ∧ K a0 σ) l W a' σ := by
  intro l
  induction l with
  | nil => intro W a a' σ he h; exact ⟨a, he, h⟩
  | cons x l ih =>
    obtain ⟨o, i⟩ := x
    intro W a a' σ he h
    simp only [ADCw] at h
    obtain ⟨hd, h⟩ := h
    simp only [ADraw]
    refine ⟨hd, ?_⟩
    have run : ∀ (b : AAct), Eqv b a' → wantA ds o a' = some true →
        (if hs.contains i then
          (match stepO T G (alts.contains i) (base + i) o b σ with
            | .val v σ' => Chk wt W i σ σ' ∧ ADCw P T G n alts ds base hs wt K l ((i, fun σ => stepO T G (alts.contains i) (base + i) o b σ) :: W) (b.put o.dst v) σ'
            | .call f args => ACalls P G f args σ fun r σ' => Chk wt W i σ σ' ∧ ADCw P T G n alts ds base hs wt K l W (b.put o.dst r) σ'
            | .bad => False)
        else
          (match stepO T G (alts.contains i) (base + i) o b empty with
            | .val v _ => freeOp (alts.contains i) o = true ∧ ADCw P T G n alts ds base hs wt K l W (b.put o.dst v) σ
            | .call f args => ∃ r, APure P G f args r ∧ ADCw P T G n alts ds base hs wt K l W (b.put o.dst r) σ
            | .bad => False)) →
        (if hs.contains i = true then HeapA P T G alts ds base wt o i W a' σ (ADraw P T G n alts ds base hs wt (fun a σ => ∃ a0, Eqv a0 a ∧ K a0 σ) l)
        else ∃ v, ValA P T G alts ds base o i a' v ∧ ADraw P T G n alts ds base hs wt (fun a σ => ∃ a0, Eqv a0 a ∧ K a0 σ) l W (a'.put o.dst v) σ) := by
      intro b hb hw h
      by_cases hx : hs.contains i = true
      · rw [if_pos hx] at h ⊢
        unfold HeapA
        rw [hw]
        simp only
        rw [← stepO_congr (T := T) (G := G) (ds := ds) (a := b) (a' := a') (fun t _ => hb t)]
        split at h
        · rename_i hst; rw [hst]; 
          have hf : (fun σ => stepO T G (alts.contains i) (base + i) o b σ) = fun σ => stepO T G (alts.contains i) (base + i) o a' σ := by
            funext σ
            exact stepO_congr (T := T) (G := G) (ds := ds) (fun t _ => hb t)
          rw [hf] at h
          exact ⟨h.1, ih _ _ _ _ (hb.put _ _) h.2⟩
        · rename_i hst; rw [hst]; exact h.mono fun r σ' hh => ⟨hh.1, ih _ _ _ _ (hb.put _ _) hh.2⟩
        · exact h.elim
      · rw [if_neg hx] at h ⊢
        unfold ValA
        rw [hw]
        simp only
        rw [← stepO_congr (T := T) (G := G) (ds := ds) (a := b) (a' := a') (fun t _ => hb t)]
        split at h
        · rename_i hst; rw [hst]; exact ⟨_, ⟨h.1, rfl⟩, ih _ _ _ _ (hb.put _ _) h.2⟩
        · rename_i hst; rw [hst]
          obtain ⟨r, h1, h2⟩ := h
          exact ⟨r, h1, ih _ _ _ _ (hb.put _ _) h2⟩
        · exact h.elim
    have skip : ∀ (b : AAct), Eqv b a' → wantA ds o a' = some false → ADCw P T G n alts ds base hs wt K l W (b.put o.dst (.tup [])) σ →
        (if hs.contains i = true then HeapA P T G alts ds base wt o i W a' σ (ADraw P T G n alts ds base hs wt (fun a σ => ∃ a0, Eqv a0 a ∧ K a0 σ) l)
        else ∃ v, ValA P T G alts ds base o i a' v ∧ ADraw P T G n alts ds base hs wt (fun a σ => ∃ a0, Eqv a0 a ∧ K a0 σ) l W (a'.put o.dst v) σ) := by
      intro b hb hw h
      by_cases hx : hs.contains i = true
      · rw [if_pos hx]
        unfold HeapA
        rw [hw]
        exact ih _ _ _ _ (hb.put _ _) h
      · rw [if_neg hx]
        unfold ValA
        rw [hw]
        exact ⟨.tup [], rfl, ih _ _ _ _ (hb.put _ _) h⟩
    cases hg : o.guard with
    | none =>
      simp only [hg] at h
      exact run a he (by simp [wantA, hg]) h
    | some jw =>
      obtain ⟨j, want⟩ := jw
      simp only [hg] at h
      split at h
      · rename_i t ht
        split at h
        · rename_i b hb
          have hb' : a'.get t = .bool b := by rw [← he t]; exact hb
          have hw : wantA ds o a' = some (b == want) := by simp [wantA, hg, ht, hb']
          have hput : ∀ b', b = b' → Eqv ((t, .bool b') :: a) a' := by
            rintro b' rfl k
            simp only [AAct.get]
            split
            · rename_i e; subst e; exact hb'.symm
            · exact he k
          by_cases e : b = want
          · subst e
            exact run _ (hput b rfl) (by simpa using hw) (h.1 rfl)
          · have e' : b = !want := by cases b <;> cases want <;> simp_all
            exact skip _ (hput _ e') (by rw [hw]; simp [e]) (h.2 e')
        · rename_i hb
          have hb' : a'.get t = .tup [] := by rw [← he t]; exact hb
          exact skip _ he (by simp [wantA, hg, ht, hb']) h
        · exact h.elim
      · exact h.elim


theorem AWP_drawW (hT : TOk P T) (hm : P.follows .mixedOrders = true) (alts hs : List Nat) (wt : Nat → List Nat) (ord : List Nat) {id : Nat} {ops : Array Oper} (hc : drawOk alts ops hs wt ord = true)
    (h : ADCw P T G n alts (ops.toList.map (·.dst)) σ.next hs wt K (withIdx ops ord) [] a (σ.bump ops.size)) : AWP P G n N (.region id ops true) (thenQ K Q) a σ :=
  AWP_draw_gen hT hm alts hs wt ord hc (ADCw_sound _ _ _ _ _ (Eqv.refl a) h)

end Go.Abs
