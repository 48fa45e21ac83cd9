/- Rows that own lists: put behind a list, made of zeros. -/
import Derived.Test.YtoklfbdcghgmlaaNAbsB
import Derived.Test.YtoklfbdcghgmlaaNAbsN
import Derived.WalkSpells
set_option linter.unusedSimpArgs false
set_option linter.unusedVariables false
namespace Go.Abs
open Go Go.RowKit

abbrev emptyS : ByteArray := ⟨#[]⟩
theorem nq {a b : Nat} (h : a ≠ b) : ¬ a = b ∧ ¬ b = a := ⟨h, fun e => h e.symm⟩
/-- a row that is put behind a list -/
theorem aprA_sl {T : Types} {t e : TypeId} {ti : TI} (h : T.kind t = some (.slice e)) (he : T e = some ti) (h0 : 0 < ti.sz) {α : Type} {f : α → List AV} {l r : List α} {v : α} (hv : appx ti.bytes l [v] = some r) {σ : AHeap} {o : Nat} {x : AV} {c : List AV} (id : Nat)
    (ho : σ.objs o = some ⟨e, ti.sz, encL f l⟩) (hx : srcA ti σ x = some [c]) : appendA T t id (.sl o 0 l.length) x σ = some (.sl id 0 r.length, (σ.kill o).put id ⟨e, ti.sz, encL f l ++ [c]⟩) := by
  obtain ⟨⟨h1, h2⟩, rfl⟩ := appx_iff.1 hv
  simp only [List.length_cons, List.length_nil, Nat.zero_add] at h1 h2
  unfold appendA
  rw [h]
  simp [he, hx, ho, h0, h1, h2]
theorem aprA_nil {T : Types} {t e : TypeId} {ti : TI} (h : T.kind t = some (.slice e)) (he : T e = some ti) (h0 : 0 < ti.sz) {α : Type} {l r : List α} {v : α} (hl : l = []) (hv : appx ti.bytes l [v] = some r) {σ : AHeap} {s x : AV} {c : List AV} (id : Nat) (hs : s = .nilsl ∨ s = .esl)
    (hx : srcA ti σ x = some [c]) : appendA T t id s x σ = some (.sl id 0 r.length, σ.put id ⟨e, ti.sz, [c]⟩) := by
  subst hl
  obtain ⟨⟨h1, h2⟩, rfl⟩ := appx_iff.1 hv
  simp only [List.length_cons, List.length_nil, Nat.zero_add] at h1 h2
  have h3 : ti.bytes ≤ 140737488355328 := by omega
  rcases hs with rfl | rfl <;>
  · unfold appendA
    rw [h]
    simp [he, hx, h0, h1, h3]
theorem app_get {α : Type} (f : α → List AV) (l : List α) (c : List AV) : (encL f l ++ [c])[l.length]? = some c := by
  rw [List.getElem?_append_right (by simp)]; simp
theorem app_set {α : Type} (f : α → List AV) (l : List α) (c c' : List AV) : (encL f l ++ [c]).set l.length c' = encL f l ++ [c'] := by
  rw [List.set_append_right _ _ (by simp)]; simp
theorem app_enc {α : Type} {f : α → List AV} {b : Nat} {l r : List α} {v : α} {c : List AV} (h : appx b l [v] = some r) (hc : f v = c) : encL f l ++ [c] = encL f r := by
  obtain ⟨_, rfl⟩ := appx_iff.1 h
  subst hc; simp [encL]

/-- cells that may be read otherwise -/
inductive CWs : List AV → List AV → Prop
  | nil : CWs [] []
  | same {x : AV} {l l' : List AV} (h : CWs l l') : CWs (x :: l) (x :: l')
  | frz {l l' : List AV} (h : CWs l l') : CWs (.nilsl :: l) (.fsl [] :: l')
  | own {ty sz : Nat} {l l' : List AV} (h : CWs l l') : CWs (.nilsl :: l) (.osl ty sz [] :: l')

theorem st_st (L : OL) (o : Nat) (x y : Option AObj) : st (st L o x) o y = st L o y := by
  induction L with
  | nil => simp
  | cons p L ih =>
    obtain ⟨i, z⟩ := p
    by_cases e : o = i
    · subst e; simp
    · simp [e, ih]
theorem st_same (L : OL) (B : Nat → Option AObj) (o : Nat) (x : Option AObj) (N : Nat) (h : lk L (B o) o = x) : hp B (st L o x) N = hp B L N := by
  simp only [hp, AHeap.mk.injEq, and_true]
  funext i
  rw [lk_st]
  split
  · rename_i e; subst e; exact h.symm
  · rfl

section
variable {G : Globs} {n N0 : Nat} {a : AAct} {B : Nat → Option AObj} {L : OL} {N : Nat} {X : AAct → AHeap → Prop}
/-- one row's cells, from a place on -/
theorem gCws (hX : ∀ {a σ a1 σ1}, Ref G n N0 a σ a1 σ1 → X a1 σ1 → X a σ) {o ty sz : Nat} {c c' : List AV} (hc : CWs c c') : ∀ (pre : List AV) (rows : List (List AV)) (r : Nat), rows[r]? = some (pre ++ c) →
    X a (hp B (st L o (some ⟨ty, sz, rows.set r (pre ++ c')⟩)) N) → X a (hp B (st L o (some ⟨ty, sz, rows⟩)) N) := by
  induction hc with
  | nil => intro pre rows r hr h; rwa [set_same hr] at h
  | @same x l l' _ ih =>
    intro pre rows r hr h
    exact ih (pre ++ [x]) rows r (by simpa using hr) (by simpa using h)
  | @frz l l' _ ih =>
    intro pre rows r hr h
    refine gWkC hX (o := o) (r := r) (i := pre.length) (ob := ⟨ty, sz, rows⟩) (row := pre ++ .nilsl :: l) (st L o (some ⟨ty, sz, rows.set r (pre ++ .fsl [] :: l)⟩)) (by rw [lk_st, if_pos rfl]) hr (by simp) (.inl rfl) (by rw [st_st]; simp) ?_
    have hlt : r < rows.length := (List.getElem?_eq_some_iff.1 hr).1
    refine ih (pre ++ [.fsl []]) (rows.set r (pre ++ .fsl [] :: l)) r (by simp [hlt]) ?_
    rw [List.set_set]; simpa using h
  | @own ty' sz' l l' _ ih =>
    intro pre rows r hr h
    refine gPk0 hX (o := o) (r := r) (i := pre.length) (ob := ⟨ty, sz, rows⟩) (row := pre ++ .nilsl :: l) ty' sz' (st L o (some ⟨ty, sz, rows.set r (pre ++ .osl ty' sz' [] :: l)⟩)) (by rw [lk_st, if_pos rfl]) hr (by simp) (.inl rfl) (by rw [st_st]; simp) ?_
    have hlt : r < rows.length := (List.getElem?_eq_some_iff.1 hr).1
    refine ih (pre ++ [.osl ty' sz' []]) (rows.set r (pre ++ .osl ty' sz' [] :: l)) r (by simp [hlt]) ?_
    rw [List.set_set]; simpa using h

/-- all rows of zeros -/
theorem gRep (hX : ∀ {a σ a1 σ1}, Ref G n N0 a σ a1 σ1 → X a1 σ1 → X a σ) {o ty sz m : Nat} {c c' : List AV} (hc : CWs c c') (L' : OL) (ho : lk L (B o) o = some ⟨ty, sz, List.replicate m c⟩) (hL : st L o (some ⟨ty, sz, List.replicate m c'⟩) = L') (h : X a (hp B L' N)) : X a (hp B L N) := by
  subst hL
  have key : ∀ k, k ≤ m → X a (hp B (st L o (some ⟨ty, sz, List.replicate k c' ++ List.replicate (m - k) c⟩)) N) := by
    intro k hk
    generalize hj : m - k = j
    induction j generalizing k with
    | zero => obtain rfl : k = m := by omega
              simpa using h
    | succ j ih =>
      refine gCws hX hc [] _ k (by rw [List.getElem?_append_right (by simp)]; simp) ?_
      have := ih (k + 1) (by omega) (by omega)
      rw [List.set_append_right _ _ (by simp)]
      rw [List.replicate_succ'] at this
      simpa [List.replicate_succ] using this
  have := key 0 (Nat.zero_le _)
  simp only [List.replicate_zero, List.nil_append, Nat.sub_zero] at this
  rwa [st_same _ _ _ _ _ ho] at this
end

/-- a place in a list, or nil -/
def optp (o : Nat) : Option Int → AV
  | none => .nilp
  | some i => .ptr o i.toNat 0
@[simp] theorem optp_none (o : Nat) : optp o none = .nilp := rfl
@[simp] theorem optp_some (o : Nat) (i : Int) : optp o (some i) = .ptr o i.toNat 0 := rfl
theorem bin_optp {T : Types} {t : TypeId} (h : T.kind t = some .ptr) (o : Nat) (x : Option Int) : bin T .eql t (optp o x) .nilp = some (.bool x.isNone) := by
  cases x <;> simp [optp, bin, h, ptrNil]
theorem bin_optp_ne {T : Types} {t : TypeId} (h : T.kind t = some .ptr) (o : Nat) (x : Option Int) : bin T .neq t (optp o x) .nilp = some (.bool !x.isNone) := by
  cases x <;> simp [optp, bin, h, ptrNil]

/-! lists that are nil if they are empty -/
def nslO (o n : Nat) : AV := if n = 0 then .nilsl else .sl o 0 n
def nslA (es : List (List AV)) : AV := if es.length = 0 then .nilsl else .fsl es
theorem nslO_nil {α : Type} {o : Nat} {l : List α} (h : l = []) : nslO o l.length = .nilsl := by subst h; rfl
theorem nslO_ne {α : Type} {o : Nat} {l : List α} (h : l ≠ []) : nslO o l.length = .sl o 0 l.length := by
  unfold nslO; rw [if_neg (by cases l with | nil => exact absurd rfl h | cons x l => simp)]
theorem nslA_nil : nslA [] = .nilsl := rfl
theorem nslA_ne {es : List (List AV)} (h : es ≠ []) : nslA es = .fsl es := by
  unfold nslA; rw [if_neg (by cases es with | nil => exact absurd rfl h | cons x l => simp)]
theorem nslA_enc {α : Type} {f : α → List AV} {l : List α} (h : l ≠ []) : nslA (encL f l) = .fsl (encL f l) := nslA_ne fun e => h (encL_isnil e)
theorem appx_nil {α : Type} {b : Nat} {l m r : List α} (hl : l = []) (h : appx b l m = some r) : appx b [] m = some r := by subst hl; exact h
theorem appx_ne {α : Type} {b : Nat} {l r : List α} {x : α} {m : List α} (h : appx b l (x :: m) = some r) : r ≠ [] := by
  obtain ⟨_, rfl⟩ := appx_iff.1 h; simp
theorem VRel.nsl_shape {φ ow} {w : World} {es : List (List AV)} {v : Value} (h : VRel φ ow w (nslA es) v) : ∃ a n cap, v = .slice a n cap ∧ (a = none ↔ es = []) := by
  by_cases e : es = []
  · subst e
    rw [nslA_nil] at h
    cases h
    exact ⟨_, _, _, rfl, by simp⟩
  · rw [nslA_ne e] at h
    cases h with
    | fsl0 => exact absurd rfl e
    | fsl vs _ hn => exact ⟨_, _, _, rfl, by simp [e]⟩
theorem AWP_isnil2 {P : Program} {T : Types} (hT : TOk P T) {G : Globs} {n N : Nat} {Q : Ex → AAct → AHeap → Prop} {a : AAct} {σ : AHeap} {t d1 d2 id : Nat} {ty e tb tm : TypeId} {p1 p2 : String} {y : Code} {es : List (List AV)} {edges : Array Edge}
    (l : List Nat) (X : AAct) (hk : T.kind ty = some (.slice e)) (ht : a.get t = nslA es) (h1 : d1 < n) (h2 : d2 < n) (h12 : d2 ≠ d1) (hX : ∀ b, AAct.keep ((d2, .bool b) :: (d1, .any) :: a) l = (d2, .bool b) :: X)
    (k1 : es = [] → AWP P G n N y Q ((d2, .bool true) :: X) σ) (k2 : es ≠ [] → AWP P G n N y Q ((d2, .bool false) :: X) σ) :
    AWP P G n N (.seq (.region id #[⟨some d1, .move (.tmp t), tm, p1, #[], none⟩, ⟨some d2, .binOp .eql ty (.tmp d1) (.const (.slice none 0 0)) ty, tb, p2, edges, none⟩] false) y) Q a σ := by
  refine AWP_seq ?_
  intro hN φ w ca hR hA
  obtain ⟨d, hd, hdk⟩ := hT.under hk
  cases d <;> simp [tkOf] at hdk
  subst hdk
  have hv := hA.rel t
  rw [ht] at hv
  generalize hcv : ca.tmps.getD t undef = cv at hv
  obtain ⟨ad, m, cap, rfl, hnil⟩ := VRel.nsl_shape hv
  have hA1 : ARel φ σ w n ((d2, .bool ad.isNone) :: (d1, .any) :: a) ((ca.put (some d1) (.slice ad m cap)).put (some d2) (.bool ad.isNone)) :=
    (hA.put (d := some d1) (v := .any) (by rintro x ⟨⟩; exact h1) .any).put (d := some d2) (v := .bool ad.isNone) (by rintro x ⟨⟩; exact h2) .bool
  have hA2 := hA1.keep l
  rw [hX] at hA2
  have hw : AWP P G n N y Q ((d2, .bool ad.isNone) :: X) σ := by
    cases ad with
    | none => exact k1 (hnil.1 rfl)
    | some x => exact k2 (fun e => by cases hnil.2 e)
  refine wp_region ?_
  have e1 : (execOp ca.eval ⟨some d1, .move (.tmp t), tm, p1, #[], none⟩).run P w = .ok (.value (.slice ad m cap)) w := by
    simp [execOp, Act.eval, hcv]
  have hput : (ca.put (some d1) (.slice ad m cap)).tmps.getD d1 undef = .slice ad m cap := by
    have hs : d1 < ca.tmps.size := by rw [hA.size]; exact h1
    simp [Act.put, hs]
  have e2 : (execOp (ca.put (some d1) (.slice ad m cap)).eval ⟨some d2, .binOp .eql ty (.tmp d1) (.const (.slice none 0 0)) ty, tb, p2, edges, none⟩).run P w = .ok (.value (.bool ad.isNone)) w := by
    simp only [execOp, Act.eval, hput, Sem.run_bind]
    have := Lib.run_eql_slice_nil (P := P) w ty _ ad m cap 0 0 hd
    simp [eqGuard, this]
  have hr : List.range (#[(⟨some d1, .move (.tmp t), tm, p1, #[], none⟩ : Oper), ⟨some d2, .binOp .eql ty (.tmp d1) (.const (.slice none 0 0)) ty, tb, p2, edges, none⟩] : Array Oper).size = [0, 1] := rfl
  rw [hr]
  have fin : CPost G n (· < N) φ σ w (thenQ (fun a σ => AWP P G n N y Q a σ) Q) .normal ((ca.put (some d1) (.slice ad m cap)).put (some d2) (.bool ad.isNone)) w :=
    ⟨.normal, φ, _, σ, rfl, hw, hR, hA2, Ext.refl _ _ _ _⟩
  simp only [wpOps, List.getElem?_toArray, List.getElem?_cons_zero, List.getElem?_cons_succ, Region.wanted, if_true]
  refine .inl ?_
  unfold Oper.wp
  rw [e1]
  refine .inl ?_
  rw [e2]
  exact fin


theorem Ref.newv {G : Globs} {n N : Nat} {a : AAct} {σ : AHeap} (ty sz : Nat) : Ref G n N a σ a ((σ.bump 1).put σ.next ⟨ty, sz, []⟩) := by
  intro hN φ w ca hR hA
  obtain ⟨h1, h2, h3, h4, h5⟩ := free_next hR
  obtain ⟨φ', g1, g2, g3⟩ := h1.newv (ty := ty) (sz := sz) h5 h3 h4
  have he := h2.trans (g2.le fun o ho => by have : o < σ.next := ho; show o ≠ σ.next; omega)
  exact ⟨_, g1, hA.mono he, he.le fun o ho => Nat.lt_of_lt_of_le ho hN⟩
theorem gNew {G : Globs} {n N0 : Nat} {a : AAct} {B : Nat → Option AObj} {L : OL} {N : Nat} {X : AAct → AHeap → Prop} (hX : ∀ {a σ a1 σ1}, Ref G n N0 a σ a1 σ1 → X a1 σ1 → X a σ) (ty sz : Nat) (L' : OL) (hL : st L N (some ⟨ty, sz, []⟩) = L') (h : X a (hp B L' (N + 1))) : X a (hp B L N) := by
  refine hX (Ref.newv (σ := hp B L N) ty sz) ?_
  rw [hp_bump, hp_put, hp_next, hL]; exact h
/-- handed back, only read: nil stays nil -/
theorem thaw_nslO {α : Type} {f : α → List AV} {σ : AHeap} {o ty sz : Nat} {l : List α} (ho : σ.objs o = some ⟨ty, sz, encL f l⟩) (hf : (encL f l).map (fun e => e.map (thawA (fun _ => true) σ 3)) = encL f l) : ∃ d, thawA (fun _ => true) σ d (nslO o l.length) = nslA (encL f l) := by
  by_cases h : l = []
  · subst h; exact ⟨0, rfl⟩
  · refine ⟨4, ?_⟩
    rw [nslO_ne h, nslA_enc h]
    simp only [thawA, ho]
    rw [if_pos ⟨trivial, by simp⟩]
    simp [hf]
@[simp] theorem optp_ok (o : Nat) (x : Option Int) : (optp o x).ok = some (optp o x) := by cases x <;> rfl
@[simp] theorem optp_good (o : Nat) (x : Option Int) : (optp o x).good = true := by cases x <;> rfl
@[simp] theorem optp_one (o : Nat) (x : Option Int) : (optp o x).one = true := by cases x <;> rfl
@[simp] theorem nslO_ok (o n : Nat) : (nslO o n).ok = some (nslO o n) := by unfold nslO; split <;> rfl
@[simp] theorem nslO_good (o n : Nat) : (nslO o n).good = true := by unfold nslO; split <;> rfl
@[simp] theorem nslO_one (o n : Nat) : (nslO o n).one = true := by unfold nslO; split <;> rfl
@[simp] theorem nslA_ok (es : List (List AV)) : (nslA es).ok = some (nslA es) := by unfold nslA; split <;> rfl
@[simp] theorem nslA_good (es : List (List AV)) : (nslA es).good = true := by unfold nslA; split <;> rfl
@[simp] theorem nslA_one (es : List (List AV)) : (nslA es).one = true := by unfold nslA; split <;> rfl
theorem below_nsl {N : Nat} {es : List (List AV)} (h : ∀ e ∈ es, ∀ x ∈ e, Below N x) : Below N (nslA es) := by
  unfold nslA; split
  · exact .nilsl
  · exact .fsl h
end Go.Abs
