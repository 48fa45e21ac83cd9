/- The state that a walk speaks of: the upper heap; what stands below it goes with the names. -/
import Derived.Test.YtoklfbdcghgmlaaNAbsL2
set_option linter.unusedSimpArgs false
set_option linter.unusedVariables false
namespace Go.Abs
open Go Go.RowKit

/-- the names, the heap below, and what is set aside there -/
structure Phi where
  nm : Phi0
  fl : AHeap
  fr : Nat → Prop
instance : Coe Phi Phi0 := ⟨Phi.nm⟩

def own (φ : Phi) (_ : AHeap) : Nat → Prop := own0 φ.nm φ.fl

structure R (G : Globs) (φ : Phi) (σ : AHeap) (w : World) : Prop where
  base : R0 G φ.nm φ.fl w
  lift : Lift σ φ.fl φ.fr

structure Ext (N : Nat → Prop) (φ : Phi) (σ : AHeap) (w : World) (φ' : Phi) (σ' : AHeap) (w' : World) : Prop where
  base : Ext0 N φ.nm φ.fl w φ'.nm φ'.fl w'
  frk : ∀ d, φ.fr d → φ'.fr d ∧ φ'.fl.objs d = φ.fl.objs d
  nx : σ.next ≤ σ'.next

theorem R.nxt {G φ σ w} (hR : R G φ σ w) : φ.fl.next = σ.next := hR.lift.1
theorem R.ids {G φ σ w} (hR : R G φ σ w) : ∀ o, σ.next ≤ o → σ.objs o = none ∧ φ.nm o = none := fun o h => by
  have := hR.base.ids o (by rw [hR.nxt]; exact h)
  exact ⟨hR.lift.gone this.1, this.2⟩
theorem R.drew {G φ σ w} (hR : R G φ σ w) (N : Nat → Prop) (k : Nat) : R G φ σ { w with drawn := k } ∧ Ext N φ σ w φ σ { w with drawn := k } := by
  obtain ⟨h1, h2⟩ := hR.base.drew N k
  exact ⟨⟨h1, hR.lift⟩, ⟨h2, fun d hd => ⟨hd, rfl⟩, Nat.le_refl _⟩⟩
theorem R.glob {G φ σ w} (hR : R G φ σ w) : ∀ g cs, G g = some cs → VRel φ (own φ σ) w (.fptr cs 0) (.pointer (some ⟨g, 0, none⟩)) := hR.base.glob

theorem Ext.fr {N φ σ w φ' σ' w'} (h : Ext N φ σ w φ' σ' w') : Fr (own φ σ) w w' := h.base.fr
theorem Ext.refl (N : Nat → Prop) (φ : Phi) (σ : AHeap) (w : World) : Ext N φ σ w φ σ w := ⟨Ext0.refl _ _ _ _, fun _ h => ⟨h, rfl⟩, Nat.le_refl _⟩
theorem Ext.le {N M φ σ w φ1 σ1 w1} (h : Ext N φ σ w φ1 σ1 w1) (hM : ∀ o, M o → N o) : Ext M φ σ w φ1 σ1 w1 := ⟨h.base.le hM, h.frk, h.nx⟩
theorem Ext.trans {N φ σ w φ1 σ1 w1 φ2 σ2 w2} (h : Ext N φ σ w φ1 σ1 w1) (k : Ext N φ1 σ1 w1 φ2 σ2 w2) : Ext N φ σ w φ2 σ2 w2 :=
  ⟨h.base.trans k.base, fun d hd => ⟨(k.frk d (h.frk d hd).1).1, (k.frk d (h.frk d hd).1).2.trans (h.frk d hd).2⟩, Nat.le_trans h.nx k.nx⟩
theorem VRel.monoL {φ φ' : Phi} {N : Nat → Prop} {σ σ' : AHeap} {w w' : World} (he : Ext N φ σ w φ' σ' w') {a : AV} {v : Value} (h : VRel φ (own φ σ) w a v) : VRel φ' (own φ' σ') w' a v := h.mono he.base

structure ARel (φ : Phi) (σ : AHeap) (w : World) (n : Nat) (a : AAct) (ca : Act) : Prop where
  size : ca.tmps.size = n
  defers : ca.defers = []
  rel : ∀ t, VRel φ (own φ σ) w (a.get t) (ca.tmps.getD t undef)
theorem ARel.base {φ σ w n a ca} (h : ARel φ σ w n a ca) : ARel0 φ.nm φ.fl w n a ca := ⟨h.size, h.defers, h.rel⟩
theorem ARel.of {φ : Phi} {σ w n a ca} (h : ARel0 φ.nm φ.fl w n a ca) : ARel φ σ w n a ca := ⟨h.size, h.defers, h.rel⟩
theorem ARel.mono {φ φ' : Phi} {N : Nat → Prop} {σ σ' : AHeap} {w w' : World} {n a ca} (he : Ext N φ σ w φ' σ' w') (h : ARel φ σ w n a ca) : ARel φ' σ' w' n a ca := .of (h.base.mono he.base)
theorem ARel.put {φ : Phi} {σ : AHeap} {w : World} {n a ca} (h : ARel φ σ w n a ca) {d : Option Nat} (hd : ∀ x, d = some x → x < n) {v : AV} {cv : Value}
    (hv : VRel φ (own φ σ) w v cv) : ARel φ σ w n (a.put d v) (ca.put d cv) := .of (h.base.put hd hv)
theorem ARel.keep {φ : Phi} {σ : AHeap} {w : World} {n a ca} (h : ARel φ σ w n a ca) (l : List Nat) : ARel φ σ w n (a.keep l) ca := .of (h.base.keep l)

theorem ev_rel {G φ σ w n a ca} (hR : R G φ σ w) (hA : ARel φ σ w n a ca) (x : Operand) (h : ev G a x ≠ .bad) : VRel φ (own φ σ) w (ev G a x) (ca.eval x) := ev_rel0 hR.base hA.base x h
theorem evs_rel {G φ σ w n a ca} (hR : R G φ σ w) (hA : ARel φ σ w n a ca) (xs : Array Operand) (h : (xs.toList.map (ev G a)).all AV.good = true) : ArgsRel φ (own φ σ) w (xs.toList.map (ev G a)) (xs.map ca.eval) := evs_rel0 hR.base hA.base xs h

def HPost (G : Globs) (id : Nat) (φ : Phi) (σ : AHeap) (w : World) (v : AV) (σ' : AHeap) (cv : Value) (w' : World) : Prop :=
  ∃ φ', R G φ' σ' w' ∧ Ext (· ≠ id) φ σ w φ' σ' w' ∧ VRel φ' (own φ' σ') w' v cv

theorem stepO_next {T G alt id o a σ v σ'} (h : stepO T G alt id o a σ = .val v σ') : σ'.next = σ.next := by
  have ofO : ∀ {x : Option (AV × AHeap)}, St.ofO x = .val v σ' → (∀ v σ', x = some (v, σ') → σ'.next = σ.next) → σ'.next = σ.next := by
    intro x h1 h2
    cases x with
    | none => cases h1
    | some p => obtain ⟨v', σ1⟩ := p; cases h1; exact h2 _ _ rfl
  have ofV : ∀ {x : Option AV}, St.ofV x σ = .val v σ' → σ'.next = σ.next := by
    intro x h1
    cases x with
    | none => cases h1
    | some p => cases h1; rfl
  have new : ∀ (ty : TypeId) (cs : List AV) (v : AV) (σ' : AHeap), newA ty alt id cs σ = (v, σ') → σ'.next = σ.next := by
    intro ty cs v σ' hq
    unfold newA at hq
    cases alt <;> (cases hq; rfl)
  unfold stepO at h
  split at h
  · refine ofO h fun v σ' hq => ?_
    unfold allocA at hq
    split at hq
    · split at hq
      · exact new _ _ _ _ (Option.some.inj hq)
      · cases hq
    · cases hq
  · refine ofO h fun v σ' hq => ?_
    unfold boxA at hq
    split at hq
    · exact new _ _ _ _ (Option.some.inj hq)
    · cases hq
  · exact ofV h
  · refine ofO h fun v σ' hq => ?_
    split at hq
    · unfold buildSliceA at hq
      split at hq
      · rename_i e hk
        cases he : T e with
        | none => simp [he] at hq
        | some ti =>
        simp only [he, Option.bind_some] at hq
        split at hq
        · cases alt
          · simp only [Bool.false_eq_true, if_false] at hq; cases hq; rfl
          · simp only [if_true] at hq; cases hq; rfl
        · cases hq
      · cases hq
    · cases hq
  · split at h
    · rename_i σ1 hs
      cases h
      split at hs
      · unfold storeA at hs
        split at hs
        · rename_i ti o' r i _ _
          cases ho : σ.objs o' with
          | none => simp [ho] at hs
          | some ob =>
          simp only [ho, Option.bind_some] at hs
          cases hr : ob.rows[r]? with
          | none => simp [hr] at hs
          | some row =>
          simp only [hr, Option.bind_some] at hs
          split at hs
          · cases hs; rfl
          · cases hs
        · cases hs
      · cases hs
    · cases h
  · refine ofO h fun v σ' hq => ?_
    unfold makeA at hq
    split at hq
    · rename_i e k n k' m hk _ _
      cases he : T e with
      | none => simp [he] at hq
      | some ti =>
      simp only [he, Option.bind_some] at hq
      split at hq
      · cases alt
        · simp only [Bool.false_eq_true, if_false] at hq; cases hq; rfl
        · simp only [if_true] at hq; cases hq; rfl
      · cases hq
    · cases hq
  · exact ofV h
  · split at h
    · split at h
      · refine ofO h fun v σ' hq => ?_
        cases alt
        · simp only [Bool.false_eq_true, if_false] at hq
          unfold appendA at hq
          split at hq
          case h_2 => cases hq
          rename_i e hk
          cases he : T e with
          | none => simp [he] at hq
          | some ti =>
          rename_i s x _ _ _ _ _ _
          simp only [he, Option.bind_some] at hq
          cases hE : srcA ti σ (ev G a x) with
          | none => simp [hE] at hq
          | some E =>
          simp only [hE, Option.bind_some] at hq
          split at hq
          · rename_i o n _
            cases ho : σ.objs o with
            | none => simp [ho] at hq
            | some ob =>
            simp only [ho, Option.bind_some] at hq
            split at hq
            · cases hq; rfl
            · cases hq
          · split at hq
            · cases hq; rfl
            · cases hq
          · split at hq
            · cases hq; rfl
            · cases hq
          · cases hq
        · simp only [if_true] at hq
          have : ∀ {s x v σ'} {t : TypeId}, appendF T t s x σ = some (v, σ') → σ'.next = σ.next := by
            intro s x v σ' t hq
            unfold appendF at hq
            split at hq
            case h_2 => cases hq
            rename_i e hk
            cases he : T e with
            | none => simp [he] at hq
            | some ti =>
            simp only [he, Option.bind_some] at hq
            cases hE : srcA ti σ x with
            | none => simp [hE] at hq
            | some E =>
            simp only [hE, Option.bind_some] at hq
            split at hq
            · cases hq; rfl
            · cases hq
          exact this hq
      · split at h
        · cases h
        · refine ofO h fun v σ' hq => ?_
          unfold appendZ at hq
          split at hq
          case h_2 => cases hq
          rename_i e ku kx m hk hku _
          cases he : T e with
          | none => simp [he] at hq
          | some ti =>
          simp only [he, Option.bind_some] at hq
          split at hq
          case isFalse => cases hq
          split at hq
          · rename_i o n _
            cases ho : σ.objs o with
            | none => simp [ho] at hq
            | some ob =>
            simp only [ho, Option.bind_some] at hq
            split at hq
            · cases hq; rfl
            · cases hq
          · split at hq
            · cases hq; rfl
            · cases hq
          · split at hq
            · cases hq; rfl
            · cases hq
          · cases hq
    · cases h
  · unfold callA at h
    split at h
    · split at h <;> cases h
    · cases h
  · cases alt
    · simp only [Bool.false_eq_true, if_false] at h; exact ofV h
    · simp only [if_true] at h
      refine ofO h fun v σ' hq => ?_
      unfold nilA at hq
      split at hq
      · rename_i e _ _
        cases he : T e with
        | none => simp [he] at hq
        | some ti =>
        simp only [he, Option.map_some] at hq
        cases hq; rfl
      · cases hq
  · exact ofV h

/-- What a step gives: a value and a heap, or a call. -/
theorem stepO_val {P T G φ σ w n a ca alt id o v σ'} (hT : TOk P T) (hR : R G φ σ w) (hA : ARel φ σ w n a ca) (hid : id < σ.next) (ho : φ.fl.objs id = none) (hφ : φ.nm id = none)
    (h : stepO T G alt id o a σ = .val v σ') :
    ∃ cv w', ((execOp ca.eval o).run P w = .ok (.value cv) w' ∨ ((execOp ca.eval o).run P w = .ok .skip w' ∧ cv = undef)) ∧ HPost G id φ σ w v σ' cv w' := by
  obtain ⟨σ0', g1, g2, g3⟩ := stepO_lift hR.lift ho h
  obtain ⟨cv, w', k1, φ', k2, k3, k4⟩ := stepO_val0 (P := P) hT hR.base hA.base (by rw [hR.nxt]; exact hid) ho hφ g1
  exact ⟨cv, w', k1, ⟨φ', σ0', φ.fr⟩, ⟨k2, g2⟩, ⟨k3, fun d hd => ⟨hd, g3 d hd⟩, Nat.le_of_eq (stepO_next h).symm⟩, k4⟩

def Enterable (P : Program) (f : FuncId) : Prop := ∃ fn, P.funcs[f]? = some fn ∧ (fn.name == "runtime.NumGoroutine") = false ∧ fn.body.isNone = false

def RetPost (G : Globs) (φ : Phi) (σ : AHeap) (w : World) (Q : AV → AHeap → Prop) (e : Ending) (w' : World) : Prop :=
  ∃ v r φ' σ', e = .returned v ∧ Q r σ' ∧ R G φ' σ' w' ∧ Ext (· < σ.next) φ σ w φ' σ' w' ∧ VRel φ' (own φ' σ') w' r v

def ACalls (P : Program) (G : Globs) (f : FuncId) (args : List AV) (σ : AHeap) (Q : AV → AHeap → Prop) : Prop :=
  Enterable P f ∧ ∀ φ w vs, R G φ σ w → ArgsRel φ (own φ σ) w args vs → Calls P f vs w (RetPost G φ σ w Q)

theorem ACalls.mono {P G f args σ Q Q'} (h : ACalls P G f args σ Q) (hq : ∀ r σ', Q r σ' → Q' r σ') : ACalls P G f args σ Q' :=
  ⟨h.1, fun φ w vs h1 h2 => (h.2 φ w vs h1 h2).mono fun e w' ⟨v, r, φ', σ', a1, a2, a3⟩ => ⟨v, r, φ', σ', a1, hq _ _ a2, a3⟩⟩

def dstOk (n : Nat) : Option Nat → Bool
  | some d => decide (d < n)
  | none => true

/-- the operations of a region, one after the other; i: the next one's number, base + i: the name of what it makes -/
def AOps (P : Program) (T : Types) (G : Globs) (n : Nat) (alts : List Nat) (ds : List (Option Nat)) (base : Nat) (Q : AAct → AHeap → Prop) : Nat → List Oper → AAct → AHeap → Prop
  | _, [], a, σ => Q a σ
  | i, o :: l, a, σ =>
    dstOk n o.dst = true ∧
    match o.guard with
    | none =>
      (match stepO T G (alts.contains i) (base + i) o a σ with
        | .val v σ' => AOps P T G n alts ds base Q (i + 1) l (a.put o.dst v) σ'
        | .call f args => ACalls P G f args σ fun r σ' => AOps P T G n alts ds base Q (i + 1) l (a.put o.dst r) σ'
        | .bad => False)
    | some (j, want) =>
      match ds[j]? with
      | some (some t) => (match a.get t with
        | .bool b =>
          (b = want → match stepO T G (alts.contains i) (base + i) o ((t, .bool want) :: a) σ with
            | .val v σ' => AOps P T G n alts ds base Q (i + 1) l (AAct.put ((t, .bool want) :: a) o.dst v) σ'
            | .call f args => ACalls P G f args σ fun r σ' => AOps P T G n alts ds base Q (i + 1) l (AAct.put ((t, .bool want) :: a) o.dst r) σ'
            | .bad => False) ∧
          (b = !want → AOps P T G n alts ds base Q (i + 1) l (AAct.put ((t, .bool (!want)) :: a) o.dst (.tup [])) σ)
        | .tup [] => AOps P T G n alts ds base Q (i + 1) l (a.put o.dst (.tup [])) σ
        | _ => False)
      | _ => False

def RegPost (G : Globs) (n : Nat) (K : Nat → Prop) (φ : Phi) (σ : AHeap) (w : World) (Q : AAct → AHeap → Prop) (e : Exit) (ca' : Act) (w' : World) : Prop :=
  e = .normal ∧ ∃ φ' a' σ', Q a' σ' ∧ R G φ' σ' w' ∧ ARel φ' σ' w' n a' ca' ∧ Ext K φ σ w φ' σ' w'

end Go.Abs
