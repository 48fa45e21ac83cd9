/- Lengths that every slice has; a read-only call at values that are owned. -/
import Derived.Test.YtoklfbdcghgmlaaNAbs19
set_option linter.unusedSimpArgs false
set_option linter.unusedVariables false
namespace Go.Abs
open Go Go.RowKit

/-- what is known of the lengths in a value, d levels deep -/
def AV.lens : Nat → AV → Prop
  | 0, _ => True
  | d + 1, .fsl es => (es.length : Int) ≤ 9223372036854775807 ∧ es.length ≤ maxLen ∧ ∀ e ∈ es, ∀ x ∈ e, AV.lens d x
  | d + 1, .agg cs => ∀ x ∈ cs, AV.lens d x
  | d + 1, .fptr cs _ => ∀ x ∈ cs, AV.lens d x
  | _ + 1, .sl _ _ n => n ≤ maxLen
  | _ + 1, _ => True

theorem maxLen_le : maxLen ≤ 9223372036854775807 := by decide

theorem VRel.lens {φ : Phi0} {ow : Nat → Prop} {w : World} : ∀ (d : Nat) {x : AV} {v : Value}, VRel φ ow w x v → x.lens d
  | 0, _, _, _ => trivial
  | d + 1, x, v, h => by
    cases h with
    | fsl0 => exact ⟨by simp, by simp, by simp⟩
    | fsl vs hone hn hb hno hsz hcap hm hlen hcell hv =>
      have h1 := maxLen_le
      refine ⟨by omega, by omega, fun e he x hx => ?_⟩
      obtain ⟨j, hj, rfl⟩ := List.getElem_of_mem he
      obtain ⟨i, hi, rfl⟩ := List.getElem_of_mem hx
      exact VRel.lens d (hv j _ (List.getElem?_eq_getElem hj) i _ (List.getElem?_eq_getElem hi))
    | agg hl hv =>
      intro x hx
      obtain ⟨i, hi, rfl⟩ := List.getElem_of_mem hx
      exact VRel.lens d (hv i _ _ (List.getElem?_eq_getElem hi) (Array.getElem?_eq_getElem (by omega)))
    | fptr vs hone hb hno hcell hv =>
      intro x hx
      obtain ⟨i, hi, rfl⟩ := List.getElem_of_mem hx
      exact VRel.lens d (hv i _ (List.getElem?_eq_getElem hi))
    | sl h hsz hn hc => exact Nat.le_trans hn hc
    | sl0 h => exact Nat.zero_le _
    | sl1 h => exact Nat.zero_le _
    | int => trivial
    | bool => trivial
    | str => trivial
    | nilp => trivial
    | nilsl => trivial
    | esl => trivial
    | nilf => trivial
    | any => trivial
    | any1 _ => trivial
    | ptr h => trivial
    | tup hl hv => trivial
    | clo => trivial

theorem AWP_lens {P : Program} {G : Globs} {n N : Nat} {Q : Ex → AAct → AHeap → Prop} {a : AAct} {σ : AHeap} {c : Code} (d t : Nat) (k : (a.get t).lens d → AWP P G n N c Q a σ) : AWP P G n N c Q a σ :=
  fun hN φ w ca hR hA => k ((hA.rel t).lens d) hN φ w ca hR hA

/-- a part of a heap: the same names, some of the objects -/
def AHeap.Sub (τ σ : AHeap) : Prop := τ.next = σ.next ∧ ∀ o, τ.objs o = σ.objs o ∨ τ.objs o = none

theorem AHeap.Sub.refl (σ : AHeap) : AHeap.Sub σ σ := ⟨rfl, fun _ => .inl rfl⟩

theorem AHeap.Sub.cut {τ σ : AHeap} (h : AHeap.Sub τ σ) : ∃ D, τ = σ.cut D := by
  refine ⟨fun o => (τ.objs o).isNone, ?_⟩
  obtain ⟨h1, h2⟩ := h
  cases τ with
  | mk objs next =>
    simp only [AHeap.cut] at h1 h2 ⊢
    subst h1
    congr 1
    funext o
    split
    · rename_i h
      simpa using h
    · rename_i h
      rcases h2 o with k | k
      · exact k
      · rw [k] at h; exact absurd rfl h

section
variable {P : Program} {G : Globs} {n N : Nat} {Q : Ex → AAct → AHeap → Prop} {a : AAct} {σ τ : AHeap} {c : Code}

/-- objects are forgotten -/
theorem AWP_sub (hs : AHeap.Sub τ σ) (h : AWP P G n N c Q a τ) : AWP P G n N c Q a σ := by
  obtain ⟨D, rfl⟩ := hs.cut
  intro hN φ w ca hR hA
  obtain ⟨φ', k1, k2, _⟩ := hR.cut D (· < N)
  exact wp_mono (h hN φ' w ca k1 (hA.mono k2)) fun e ca' w' hq => hq.le k2

theorem AWP_ids (k : (∀ o, σ.next ≤ o → σ.objs o = none) → AWP P G n N c Q a σ) : AWP P G n N c Q a σ :=
  fun hN φ w ca hR hA => k (fun o ho => (hR.ids o ho).1) hN φ w ca hR hA

theorem AWP_loopg (l : List Nat) (I : Nat → AAct → AHeap → Prop) (m : Nat) (h0 : I m (a.keep l) σ)
    (round : ∀ m a σ, I m a σ → ∀ K : AAct → AHeap → Prop, (∀ a' σ', (∃ m', m' < m ∧ ∃ τ, AHeap.Sub τ σ' ∧ I m' (a'.keep l) τ) → K a' σ') → AWP P G n N c (thenQ K Q) a σ) : AWP P G n N (.loop c) Q a σ :=
  AWP_loop (fun m a σ => ∃ τ, AHeap.Sub τ σ ∧ I m (a.keep l) τ) m ⟨σ, .refl σ, h0⟩ fun m a σ ⟨τ, h1, h2⟩ => AWP_sub h1 (AWP_keep l (round m _ τ h2 _ fun _ _ h => h))
end

end Go.Abs
