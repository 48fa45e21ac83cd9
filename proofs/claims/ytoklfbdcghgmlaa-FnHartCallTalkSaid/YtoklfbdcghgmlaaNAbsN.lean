/- A list held against nil. -/
import Derived.Test.YtoklfbdcghgmlaaNAbsX
import Derived.WalkSpells
set_option linter.unusedSimpArgs false
set_option linter.unusedVariables false
namespace Go.Abs
open Go Go.RowKit

theorem VRel.fsl_shape {φ ow} {w : World} {es : List (List AV)} {v : Value} (h : VRel φ ow w (.fsl es) v) : ∃ a n cap, v = .slice a n cap ∧ (a = none → es = []) := by
  cases h with
  | fsl0 => exact ⟨_, _, _, rfl, fun _ => rfl⟩
  | fsl vs _ hn => exact ⟨_, _, _, rfl, fun h => by cases h⟩

theorem encL_isnil {α : Type} {f : α → List AV} {l : List α} (h : encL f l = []) : l = [] := by
  cases l with
  | nil => rfl
  | cons x l => simp [encL] at h

theorem AWP_isnil {P : Program} {T : Types} (hT : TOk P T) {G : Globs} {n N : Nat} {Q : Ex → AAct → AHeap → Prop} {a : AAct} {σ : AHeap} {t d1 d2 id : Nat} {ty e tb tm : TypeId} {p1 p2 : String} {y : Code} {es : List (List AV)} {edges : Array Edge}
    (l : List Nat) (X : AAct) (hk : T.kind ty = some (.slice e)) (ht : a.get t = .fsl es) (h1 : d1 < n) (h2 : d2 < n) (h12 : d2 ≠ d1) (hX : ∀ b, AAct.keep ((d2, .bool b) :: (d1, .any) :: a) l = (d2, .bool b) :: X)
    (k1 : es = [] → AWP P G n N y Q ((d2, .bool true) :: X) σ) (k2 : AWP P G n N y Q ((d2, .bool false) :: X) σ) :
    AWP P G n N (.seq (.region id #[⟨some d1, .move (.tmp t), tm, p1, #[], none⟩, ⟨some d2, .binOp .eql ty (.tmp d1) (.const (.slice none 0 0)) ty, tb, p2, edges, none⟩] false) y) Q a σ := by
  refine AWP_seq ?_
  intro hN φ w ca hR hA
  obtain ⟨d, hd, hdk⟩ := hT.under hk
  cases d <;> simp [tkOf] at hdk
  subst hdk
  have hv := hA.rel t
  rw [ht] at hv
  generalize hcv : ca.tmps.getD t undef = cv at hv
  obtain ⟨ad, m, cap, rfl, hnil⟩ := hv.fsl_shape
  have hA1 : ARel φ σ w n ((d2, .bool ad.isNone) :: (d1, .any) :: a) ((ca.put (some d1) (.slice ad m cap)).put (some d2) (.bool ad.isNone)) :=
    (hA.put (d := some d1) (v := .any) (by rintro x ⟨⟩; exact h1) .any).put (d := some d2) (v := .bool ad.isNone) (by rintro x ⟨⟩; exact h2) .bool
  have hA2 := hA1.keep l
  rw [hX] at hA2
  have hw : AWP P G n N y Q ((d2, .bool ad.isNone) :: X) σ := by
    cases ad with
    | none => exact k1 (hnil rfl)
    | some x => exact k2
  refine wp_region ?_
  have e1 : (execOp ca.eval ⟨some d1, .move (.tmp t), tm, p1, #[], none⟩).run P w = .ok (.value (.slice ad m cap)) w := by
    simp [execOp, Act.eval, hcv]
  have hput : (ca.put (some d1) (.slice ad m cap)).tmps.getD d1 undef = .slice ad m cap := by
    have hs : d1 < ca.tmps.size := by rw [hA.size]; exact h1
    simp [Act.put, hs]
  have e2 : (execOp (ca.put (some d1) (.slice ad m cap)).eval ⟨some d2, .binOp .eql ty (.tmp d1) (.const (.slice none 0 0)) ty, tb, p2, edges, none⟩).run P w = .ok (.value (.bool ad.isNone)) w := by
    simp only [execOp, Act.eval, hput, Sem.run_bind]
    have := Lib.run_eql_slice_nil (P := P) w ty _ ad m cap 0 0 hd
    simp [eqGuard, this]
  have hr : List.range (#[(⟨some d1, .move (.tmp t), tm, p1, #[], none⟩ : Oper), ⟨some d2, .binOp .eql ty (.tmp d1) (.const (.slice none 0 0)) ty, tb, p2, edges, none⟩] : Array Oper).size = [0, 1] := rfl
  rw [hr]
  have fin : CPost G n (· < N) φ σ w (thenQ (fun a σ => AWP P G n N y Q a σ) Q) .normal ((ca.put (some d1) (.slice ad m cap)).put (some d2) (.bool ad.isNone)) w :=
    ⟨.normal, φ, _, σ, rfl, hw, hR, hA2, Ext.refl _ _ _ _⟩
  simp only [wpOps, List.getElem?_toArray, List.getElem?_cons_zero, List.getElem?_cons_succ, Region.wanted, if_true]
  refine .inl ?_
  unfold Oper.wp
  rw [e1]
  refine .inl ?_
  rw [e2]
  exact fin

end Go.Abs
