/- The operations that make and write memory: what they give, and that the machine gives the same. -/
import Derived.Test.YtoklfbdcghgmlaaNAbs4
set_option linter.unusedSimpArgs false
set_option linter.unusedVariables false
namespace Go.Abs
open Go Go.RowKit

def allOne (l : List AV) : Bool := l.all AV.one

/-- a new variable: frozen (alt) or owned -/
def newA (ty : TypeId) (alt : Bool) (id : Nat) (cs : List AV) (σ : AHeap) : AV × AHeap :=
  if alt then (.fptr cs 0, σ) else (.ptr id 0 0, σ.put id ⟨ty, cs.length, [cs]⟩)

def boxA (T : Types) (ty : TypeId) (alt : Bool) (id : Nat) (x : AV) (σ : AHeap) : Option (AV × AHeap) :=
  if allOne x.cells && x.cells.length != 0 then some (newA ty alt id x.cells σ) else none

def allocA (T : Types) (ty : TypeId) (alt : Bool) (id : Nat) (σ : AHeap) : Option (AV × AHeap) :=
  match T ty with
  | some ti => if ti.zero.length != 0 then some (newA ty alt id ti.zero σ) else none
  | none => none

theorem mapM_val {φ ow} {w : World} : ∀ (cs : List AV), (∀ x ∈ cs, x.one = true) → ∀ (vs : Array Value), cs.length = vs.size → (∀ (i : Nat) (x : AV) (u : Value), cs[i]? = some x → vs[i]? = some u → VRel φ ow w x u) →
    Rows φ ow w cs.length [cs] vs := by
  intro cs h1 vs hl hv r e hr
  cases r with
  | zero =>
    simp at hr
    subst hr
    refine ⟨rfl, fun i x hx => ⟨h1 x (List.mem_of_getElem? hx), ?_⟩⟩
    have hi : i < cs.length := (List.getElem?_eq_some_iff.1 hx).1
    have e : vs[i]? = some vs[i] := by simp [hl ▸ hi]
    exact ⟨vs[i], by simp, hv i x _ hx e⟩
  | succ r => simp at hr

theorem cells_rel {φ ow} {w : World} {x : AV} {v : Value} (h : VRel φ ow w x v) (hx : allOne x.cells = true) :
    x.cells.length = v.cells.size ∧ ∀ (i : Nat) (y : AV) (u : Value), x.cells[i]? = some y → v.cells[i]? = some u → VRel φ ow w y u := by
  have single : ∀ (a : AV) (b : Value), VRel φ ow w a b → (∀ cs, a ≠ .agg cs) → (∀ cs, b ≠ .agg cs) → a.cells = [a] ∧ b.cells = #[b] := by
    intro a b _ ha hb
    exact ⟨by cases a <;> simp_all [AV.cells], by cases b <;> simp_all [Value.cells]⟩
  cases h with
  | agg hl hv => exact ⟨hl, hv⟩
  | any => simp [AV.cells, allOne, AV.one] at hx
  | tup hl hv => simp [AV.cells, allOne, AV.one] at hx
  | int => exact ⟨rfl, fun i y u hy hu => by cases i <;> simp [AV.cells, Value.cells] at hy hu; subst hy; subst hu; exact .int⟩
  | bool => exact ⟨rfl, fun i y u hy hu => by cases i <;> simp [AV.cells, Value.cells] at hy hu; subst hy; subst hu; exact .bool⟩
  | str => exact ⟨rfl, fun i y u hy hu => by cases i <;> simp [AV.cells, Value.cells] at hy hu; subst hy; subst hu; exact .str⟩
  | nilp => exact ⟨rfl, fun i y u hy hu => by cases i <;> simp [AV.cells, Value.cells] at hy hu; subst hy; subst hu; exact .nilp⟩
  | nilsl => exact ⟨rfl, fun i y u hy hu => by cases i <;> simp [AV.cells, Value.cells] at hy hu; subst hy; subst hu; exact .nilsl⟩
  | esl => exact ⟨rfl, fun i y u hy hu => by cases i <;> simp [AV.cells, Value.cells] at hy hu; subst hy; subst hu; exact .esl⟩
  | any1 h =>
    obtain ⟨e1, e2⟩ := single _ _ (.any1 h) (by intro cs; simp) (by intro cs e; subst e; simp [Value.oneCell'] at h)
    rw [e1, e2]
    exact ⟨rfl, fun i y u hy hu => by cases i <;> simp at hy hu; subst hy; subst hu; exact .any1 h⟩
  | nilf => exact ⟨rfl, fun i y u hy hu => by cases i <;> simp [AV.cells, Value.cells] at hy hu; subst hy; subst hu; exact .nilf⟩
  | ptr h1 => exact ⟨rfl, fun i y u hy hu => by cases i <;> simp [AV.cells, Value.cells] at hy hu; subst hy; subst hu; exact .ptr h1⟩
  | sl h1 h2 h3 h4 h5 h6 => exact ⟨rfl, fun i y u hy hu => by cases i <;> simp [AV.cells, Value.cells] at hy hu; subst hy; subst hu; exact .sl h1 h2 h3 h4 h5 h6⟩
  | sl0 h1 => exact ⟨rfl, fun i y u hy hu => by cases i <;> simp [AV.cells, Value.cells] at hy hu; subst hy; subst hu; exact .sl0 h1⟩
  | sl1 h1 => exact ⟨rfl, fun i y u hy hu => by cases i <;> simp [AV.cells, Value.cells] at hy hu; subst hy; subst hu; exact .sl1 h1⟩
  | fptr a1 a2 a3 a4 a5 a6 => exact ⟨rfl, fun i y u hy hu => by cases i <;> simp [AV.cells, Value.cells] at hy hu; subst hy; subst hu; exact .fptr a1 a2 a3 a4 a5 a6⟩
  | fsl0 => exact ⟨rfl, fun i y u hy hu => by cases i <;> simp [AV.cells, Value.cells] at hy hu; subst hy; subst hu; exact .fsl0⟩
  | fsl a1 a2 a3 a4 a5 a6 a7 a8 a9 a10 a11 => exact ⟨rfl, fun i y u hy hu => by cases i <;> simp [AV.cells, Value.cells] at hy hu; subst hy; subst hu; exact .fsl a1 a2 a3 a4 a5 a6 a7 a8 a9 a10 a11⟩
  | clo a1 a2 a3 a4 => exact ⟨rfl, fun i y u hy hu => by cases i <;> simp [AV.cells, Value.cells] at hy hu; subst hy; subst hu; exact .clo a1 a2 a3 a4⟩

/-- The relation behind a step of the heap, with the value that came. -/
def HPost0 (G : Globs) (id : Nat) (φ : Phi0) (σ : AHeap) (w : World) (v : AV) (σ' : AHeap) (cv : Value) (w' : World) : Prop :=
  ∃ φ', R0 G φ' σ' w' ∧ Ext0 (· ≠ id) φ σ w φ' σ' w' ∧ VRel φ' (own0 φ' σ') w' v cv

theorem R0.fresh {G φ σ w} (hR : R0 G φ σ w) {b : Nat} (h : own0 φ σ b) : b < w.heap.size := by
  obtain ⟨o, ob, sz, h1, h2, h3⟩ := h
  have := hR.obj o ob h1
  rw [h2] at this
  obtain ⟨_, _, _, hw, _⟩ := this.get h3
  exact lt_of_heap hw

/-- A new block that nobody owns. -/
theorem R0.frozen {G φ σ w w'} (hR : R0 G φ σ w) (N : Nat → Prop) (hos : w'.os = w.os) (htape : w'.tape = w.tape) (hout : w'.output = w.output) (hsize : w'.heap.size = w.heap.size + 1)
    (hold : ∀ b, b < w.heap.size → w'.heap[b]? = w.heap[b]?) : R0 G φ σ w' ∧ Ext0 N φ σ w φ σ w' := by
  have he : Ext0 N φ σ w φ σ w' := ⟨fun o _ => ⟨rfl, id⟩, fun o x hx => hx, ⟨hos, htape, hout, by omega, fun b hb _ => hold b hb, fun b arr T h => ⟨arr, by rw [hold b (lt_of_heap h)]; exact h, rfl⟩⟩, fun b hb => .inl hb, Nat.le_refl _⟩
  exact ⟨hR.next he hR.ids hR.inj fun o ob h => .inr ⟨h, rfl, fun b sz hb h0 => hold b (hR.fresh ⟨o, ob, sz, h, hb, h0⟩)⟩, he⟩

theorem newA_sound {G φ σ w ty alt id cs vs} (hR : R0 G φ σ w) (hid : id < σ.next) (ho : σ.objs id = none) (hφ : φ id = none) (hone : ∀ x ∈ cs, x.one = true) (hne : cs.length ≠ 0)
    (hl : cs.length = vs.size) (hv : ∀ (i : Nat) (x : AV) (u : Value), cs[i]? = some x → vs[i]? = some u → VRel φ (own0 φ σ) w x u) :
    HPost0 G id φ σ w (newA ty alt id cs σ).1 (newA ty alt id cs σ).2 (.pointer (some ⟨w.heap.size, 0, none⟩)) (w.alloc (.cells vs ty)) := by
  have hold : ∀ b, b < w.heap.size → (w.alloc (.cells vs ty)).heap[b]? = w.heap[b]? := fun b hb => heap_alloc_old w _ b hb
  have hnew : (w.alloc (.cells vs ty)).heap[w.heap.size]? = some (.cells vs ty (0, 0)) := heap_alloc_new w _
  cases alt with
  | true =>
    obtain ⟨h1, h2⟩ := hR.frozen (w' := w.alloc (.cells vs ty)) (· ≠ id) rfl rfl rfl (by simp) hold
    refine ⟨φ, h1, h2, ?_⟩
    refine VRel.fptr (off := 0) (fun j => vs.getD j undef) hone (by simp) (fun h => by have := hR.fresh h; omega) (fun j x hj => ?_) (fun j x hj => ?_)
    · have hi : j < vs.size := by rw [← hl]; exact (List.getElem?_eq_some_iff.1 hj).1
      rw [cell_of_heap hnew, Nat.zero_add]
      simp [hi]
    · have hi : j < vs.size := by rw [← hl]; exact (List.getElem?_eq_some_iff.1 hj).1
      have e : vs[j]? = some (vs.getD j undef) := by simp [hi]
      exact (hv j x _ hj e).mono h2
  | false =>
    obtain ⟨h1, h2⟩ := hR.new (w' := w.alloc (.cells vs ty)) (ty := ty) (sz := cs.length) (rows := [cs]) (arr := vs) hid ho hφ (by omega) rfl rfl rfl (by simp) hold hnew (by simp; omega) (mapM_val cs hone vs hl hv)
    refine ⟨_, h1, h2, ?_⟩
    have : VRel (setφ φ id (w.heap.size, cs.length)) (own0 (setφ φ id (w.heap.size, cs.length)) (σ.put id ⟨ty, cs.length, [cs]⟩)) (w.alloc (.cells vs ty)) (.ptr id 0 0) (.pointer (some ⟨w.heap.size, 0 * cs.length + 0, none⟩)) := .ptr (by simp [setφ])
    simp only [newA, Bool.false_eq_true, if_false]
    simpa using this

theorem boxA_sound {P T G φ σ w ty alt id x v σ' cx} (hR : R0 G φ σ w) (hid : id < σ.next) (ho : σ.objs id = none) (hφ : φ id = none) (hx : VRel φ (own0 φ σ) w x cx)
    (h : boxA T ty alt id x σ = some (v, σ')) : ∃ cv w', (Instr.box ty cx).run P w = .ok cv w' ∧ HPost0 G id φ σ w v σ' cv w' := by
  unfold boxA at h
  split at h
  · rename_i hc
    simp at hc
    obtain ⟨rfl, rfl⟩ : v = (newA ty alt id x.cells σ).1 ∧ σ' = (newA ty alt id x.cells σ).2 := by rw [Option.some.inj h]; exact ⟨rfl, rfl⟩
    obtain ⟨h1, h2⟩ := cells_rel hx hc.1
    refine ⟨_, _, ?_, newA_sound hR hid ho hφ (fun y hy => by have := hc.1; simp [allOne] at this; exact this y hy) (by simpa using hc.2) h1 h2⟩
    simp [Instr.box, newVar, newRow]
  · cases h

theorem zero_rel {P T φ ow} {w : World} (hT : TOk P T) {t : TypeId} {ti : TI} (ht : T t = some ti) :
    ∃ z, (zeroValue t).run P w = .ok z w ∧ ti.zero.length = z.cells.size ∧ (∀ (i : Nat) (x : AV) (u : Value), ti.zero[i]? = some x → z.cells[i]? = some u → VRel φ ow w x u) ∧ (∀ x ∈ ti.zero, x.one = true) := by
  obtain ⟨x, hx, _, _, z, hz, hc⟩ := hT.info ht
  have hg := (hT t ti ht).2.1
  refine ⟨z, by simp [zeroValue, typeInfo, hx, hz], ?_, fun i y u hy hu => ?_, fun y hy => ?_⟩
  · have := congrArg List.length hc
    simpa using this.symm
  · have h1 : z.cells.toList[i]? = some u := by simpa using hu
    rw [hc, List.getElem?_map, hy] at h1
    simp at h1
    rw [← h1]
    exact gr_rel y (List.all_eq_true.1 hg y (List.mem_of_getElem? hy))
  · have := List.all_eq_true.1 hg y hy
    cases y <;> simp_all [AV.gr, AV.one]

def TI.wz (ti : TI) : List AV := ti.zero.map AV.weak1
theorem wzero_rel {P T φ ow} {w : World} (hT : TOk P T) {t : TypeId} {ti : TI} (ht : T t = some ti) :
    ∃ z, (zeroValue t).run P w = .ok z w ∧ ti.wz.length = z.cells.size ∧ (∀ (i : Nat) (x : AV) (u : Value), ti.wz[i]? = some x → z.cells[i]? = some u → VRel φ ow w x u) ∧ (∀ x ∈ ti.wz, x.one = true) := by
  obtain ⟨z, h1, h2, h3, h4⟩ := zero_rel (P := P) (φ := φ) (ow := ow) (w := w) hT ht
  refine ⟨z, h1, by rw [TI.wz, List.length_map]; exact h2, fun i y u hy hu => ?_, fun y hy => ?_⟩
  · rw [TI.wz, List.getElem?_map] at hy
    cases h' : ti.zero[i]? with
    | none => simp [h'] at hy
    | some q => simp [h'] at hy; subst hy; exact (h3 i q u h' hu).weak1
  · obtain ⟨q, hq, rfl⟩ := List.mem_map.1 hy
    exact AV.weak1_one (h4 q hq)
theorem TI.wz_len (ti : TI) : ti.wz.length = ti.zero.length := by simp [TI.wz]

theorem allocA_sound {P T G φ σ w ty alt id v σ'} (hT : TOk P T) (hR : R0 G φ σ w) (hid : id < σ.next) (ho : σ.objs id = none) (hφ : φ id = none)
    (h : allocA T ty alt id σ = some (v, σ')) : ∃ cv w', (Instr.alloc ty true (.tuple #[])).run P w = .ok cv w' ∧ HPost0 G id φ σ w v σ' cv w' := by
  unfold allocA at h
  split at h
  · rename_i ti ht
    split at h
    · rename_i hne
      obtain ⟨rfl, rfl⟩ : v = (newA ty alt id ti.zero σ).1 ∧ σ' = (newA ty alt id ti.zero σ).2 := by rw [Option.some.inj h]; exact ⟨rfl, rfl⟩
      obtain ⟨z, h1, h2, h3, h4⟩ := zero_rel (P := P) (φ := φ) (ow := own0 φ σ) (w := w) hT ht
      refine ⟨_, _, ?_, newA_sound hR hid ho hφ h4 (by simpa using hne) h2 h3⟩
      simp [Instr.alloc, h1, newVar, newRow]
    · cases h
  · cases h

end Go.Abs
