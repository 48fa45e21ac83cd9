/- The abstract values, the abstract heap and how they stand to the machine's world. -/
import Derived.Laws.AppendOwn
import Derived.Laws.Cells
import Derived.Below
set_option linter.unusedSimpArgs false
set_option linter.unusedVariables false
namespace Go.Abs
open Go Go.RowKit

inductive AV where
  | int (k : IntKind) (n : Int)
  | bool (b : Bool)
  | str (s : ByteArray)
  | nilp
  | nilsl
  | esl
  | nilf
  | ptr (o r i : Nat)
  | sl (o r n : Nat)
  | fptr (cs : List AV) (i : Nat)
  | fsl (es : List (List AV))
  | agg (cs : List AV)
  | tup (vs : List AV)
  | clo (f : FuncId) (first cap : List AV)
  | osl (ty sz : Nat) (es : List (List AV))
  | any1
  | any
  | bad
  deriving Inhabited

def AV.one : AV → Bool
  | .agg _ | .tup _ | .any | .bad => false
  | _ => true

/-- no list that its cell owns -/
def AV.lin1 : AV → Bool
  | .osl _ _ _ => false
  | _ => true
def AV.lin : AV → Bool
  | .agg cs => cs.all AV.lin1
  | x => x.lin1

def AV.cells : AV → List AV
  | .agg cs => cs
  | v => [v]

structure AObj where
  ty : TypeId
  sz : Nat
  rows : List (List AV)

structure AHeap where
  objs : Nat → Option AObj
  next : Nat

abbrev Phi0 := Nat → Option (Nat × Nat)

def own0 (φ : Phi0) (σ : AHeap) (b : Nat) : Prop := ∃ o ob sz, σ.objs o = some ob ∧ φ o = some (b, sz) ∧ 0 < sz

inductive VRel (φ : Phi0) (ow : Nat → Prop) (w : World) : AV → Value → Prop where
  | int {k : IntKind} {n : Int} : VRel φ ow w (.int k n) (.int k n)
  | bool {b : Bool} : VRel φ ow w (.bool b) (.bool b)
  | str {s : ByteArray} : VRel φ ow w (.str s) (.string s)
  | nilp : VRel φ ow w .nilp (.pointer none)
  | nilsl : VRel φ ow w .nilsl (.slice none 0 0)
  | esl {a : Option Addr} : VRel φ ow w .esl (.slice a 0 0)
  | nilf : VRel φ ow w .nilf .nilFunc
  | any {v : Value} : VRel φ ow w .any v
  | any1 {v : Value} (h : v.oneCell' = true) : VRel φ ow w .any1 v
  | ptr {o r i b sz : Nat} (h : φ o = some (b, sz)) : VRel φ ow w (.ptr o r i) (.pointer (some ⟨b, r * sz + i, none⟩))
  | sl {o r n b sz cap : Nat} {T : TypeId} {arr : Array Value} (h : φ o = some (b, sz)) (hsz : 0 < sz) (hn : n ≤ cap) (hc : cap ≤ maxLen)
      (hw : w.heap[b]? = some (.cells arr T (0, 0))) (he : (r + cap) * sz = arr.size) : VRel φ ow w (.sl o r n) (.slice (some ⟨b, r * sz, none⟩) n cap)
  | sl0 {o b sz : Nat} {a : Option Addr} (h : φ o = some (b, sz)) : VRel φ ow w (.sl o 0 0) (.slice a 0 0)
  | sl1 {o r b sz cap : Nat} {a : Option Addr} (h : φ o = some (b, sz)) : VRel φ ow w (.sl o (r + 1) 0) (.slice a 0 cap)
  | fptr {cs : List AV} {i b off : Nat} (vs : Nat → Value) (hone : ∀ x ∈ cs, x.one = true) (hb : b < w.heap.size) (hno : ¬ ow b)
      (hcell : ∀ (j : Nat) (x : AV), cs[j]? = some x → w.cell? ⟨b, off + j, none⟩ = some (vs j))
      (hv : ∀ (j : Nat) (x : AV), cs[j]? = some x → VRel φ ow w x (vs j)) : VRel φ ow w (.fptr cs i) (.pointer (some ⟨b, off + i, none⟩))
  | fsl0 {a : Option Addr} {cap : Nat} : VRel φ ow w (.fsl []) (.slice a 0 cap)
  | fsl {es : List (List AV)} {n b off cap sz : Nat} (vs : Nat → Nat → Value) (hone : ∀ e ∈ es, ∀ x ∈ e, AV.one x = true) (hn : es.length = n) (hb : b < w.heap.size) (hno : ¬ ow b) (hsz : 0 < sz) (hcap : n ≤ cap) (hm : cap ≤ maxLen)
      (hlen : ∀ (j : Nat) (e : List AV), es[j]? = some e → e.length = sz)
      (hcell : ∀ (j : Nat) (e : List AV), es[j]? = some e → ∀ (i : Nat) (x : AV), e[i]? = some x → w.cell? ⟨b, off + (j * sz + i), none⟩ = some (vs j i))
      (hv : ∀ (j : Nat) (e : List AV), es[j]? = some e → ∀ (i : Nat) (x : AV), e[i]? = some x → VRel φ ow w x (vs j i)) : VRel φ ow w (.fsl es) (.slice (some ⟨b, off, none⟩) n cap)
  | agg {cs : List AV} {vs : Array Value} (hl : cs.length = vs.size) (hv : ∀ (i : Nat) (x : AV) (u : Value), cs[i]? = some x → vs[i]? = some u → VRel φ ow w x u) : VRel φ ow w (.agg cs) (.agg vs)
  | tup {cs : List AV} {vs : Array Value} (hl : cs.length = vs.size) (hv : ∀ (i : Nat) (x : AV) (u : Value), cs[i]? = some x → vs[i]? = some u → VRel φ ow w x u) : VRel φ ow w (.tup cs) (.tuple vs)
  | clo {f : FuncId} {fs cs : List AV} {vfs vcs : Array Value} (hl : fs.length = vfs.size) (hv : ∀ (i : Nat) (x : AV) (u : Value), fs[i]? = some x → vfs[i]? = some u → VRel φ ow w x u)
      (hl' : cs.length = vcs.size) (hv' : ∀ (i : Nat) (x : AV) (u : Value), cs[i]? = some x → vcs[i]? = some u → VRel φ ow w x u) : VRel φ ow w (.clo f fs cs) (.func (.func f) vfs vcs)

/-- What an object's block holds. -/
def ORel (φ : Phi0) (ow : Nat → Prop) (w : World) (x : Option (Nat × Nat)) (ob : AObj) : Prop :=
  ∃ b sz, x = some (b, sz) ∧ (sz = 0 → ob.rows = []) ∧ (0 < sz → sz = ob.sz ∧ 0 < sz ∧ ∃ arr, w.heap[b]? = some (.cells arr ob.ty (0, 0)) ∧ ob.rows.length * sz ≤ arr.size ∧
      ∀ (r : Nat) (e : List AV), ob.rows[r]? = some e → e.length = sz ∧ ∀ (i : Nat) (x : AV), e[i]? = some x → x.one = true ∧ ∃ v, arr[r * sz + i]? = some v ∧ VRel φ ow w x v)

theorem ORel.get {φ ow w b sz ob} (h : ORel φ ow w (some (b, sz)) ob) (h0 : 0 < sz) : sz = ob.sz ∧ 0 < sz ∧ ∃ arr, w.heap[b]? = some (.cells arr ob.ty (0, 0)) ∧ ob.rows.length * sz ≤ arr.size ∧
      ∀ (r : Nat) (e : List AV), ob.rows[r]? = some e → e.length = sz ∧ ∀ (i : Nat) (x : AV), e[i]? = some x → x.one = true ∧ ∃ v, arr[r * sz + i]? = some v ∧ VRel φ ow w x v := by
  obtain ⟨b', sz', e, _, h2⟩ := h
  cases e
  exact h2 h0

abbrev Globs := Nat → Option (List AV)

structure R0 (G : Globs) (φ : Phi0) (σ : AHeap) (w : World) : Prop where
  ids : ∀ o, σ.next ≤ o → σ.objs o = none ∧ φ o = none
  obj : ∀ o ob, σ.objs o = some ob → ORel φ (own0 φ σ) w (φ o) ob
  inj : ∀ o o' b s s' ob ob', σ.objs o = some ob → σ.objs o' = some ob' → φ o = some (b, s) → φ o' = some (b, s') → 0 < s → 0 < s' → o = o'
  glob : ∀ g cs, G g = some cs → VRel φ (own0 φ σ) w (.fptr cs 0) (.pointer (some ⟨g, 0, none⟩))

structure Fr (ow : Nat → Prop) (w w' : World) : Prop where
  os : w'.os = w.os
  tape : w'.tape = w.tape
  output : w'.output = w.output
  size : w.heap.size ≤ w'.heap.size
  blk : ∀ b, b < w.heap.size → ¬ ow b → w'.heap[b]? = w.heap[b]?
  shp : ∀ (b : Nat) (arr : Array Value) (T : TypeId), w.heap[b]? = some (.cells arr T (0, 0)) → ∃ arr' : Array Value, w'.heap[b]? = some (.cells arr' T (0, 0)) ∧ arr'.size = arr.size

/-- From one state to a later one; among the names of N no object has come. -/
structure Ext0 (N : Nat → Prop) (φ : Phi0) (σ : AHeap) (w : World) (φ' : Phi0) (σ' : AHeap) (w' : World) : Prop where
  keep : ∀ o, N o → φ' o = φ o ∧ (σ.objs o = none → σ'.objs o = none)
  sub : ∀ o x, φ o = some x → φ' o = some x
  fr : Fr (own0 φ σ) w w'
  new : ∀ b, own0 φ' σ' b → own0 φ σ b ∨ w.heap.size ≤ b
  nx : σ.next ≤ σ'.next

theorem Fr.refl (ow : Nat → Prop) (w : World) : Fr ow w w := ⟨rfl, rfl, rfl, Nat.le_refl _, fun _ _ _ => rfl, fun b arr T h => ⟨arr, h, rfl⟩⟩

theorem Ext0.refl (N : Nat → Prop) (φ : Phi0) (σ : AHeap) (w : World) : Ext0 N φ σ w φ σ w := ⟨fun _ _ => ⟨rfl, id⟩, fun _ _ h => h, Fr.refl _ _, fun _ h => .inl h, Nat.le_refl _⟩

theorem Ext0.le {N M φ σ w φ1 σ1 w1} (h : Ext0 N φ σ w φ1 σ1 w1) (hM : ∀ o, M o → N o) : Ext0 M φ σ w φ1 σ1 w1 :=
  ⟨fun o ho => h.keep o (hM o ho), h.sub, h.fr, h.new, h.nx⟩

theorem Ext0.trans {N φ σ w φ1 σ1 w1 φ2 σ2 w2} (h : Ext0 N φ σ w φ1 σ1 w1) (k : Ext0 N φ1 σ1 w1 φ2 σ2 w2) : Ext0 N φ σ w φ2 σ2 w2 := by
  refine ⟨fun o ho => ⟨(k.keep o ho).1.trans (h.keep o ho).1, fun hn => (k.keep o ho).2 ((h.keep o ho).2 hn)⟩, fun o x hx => k.sub o x (h.sub o x hx), ⟨k.fr.os.trans h.fr.os, k.fr.tape.trans h.fr.tape, k.fr.output.trans h.fr.output, Nat.le_trans h.fr.size k.fr.size, ?_, ?_⟩, ?_, Nat.le_trans h.nx k.nx⟩
  · intro b hb hno
    rw [k.fr.blk b (Nat.lt_of_lt_of_le hb h.fr.size) (fun ho => (h.new b ho).elim hno (fun hle => by omega)), h.fr.blk b hb hno]
  · intro b arr T hw
    obtain ⟨a1, h1, e1⟩ := h.fr.shp b arr T hw
    obtain ⟨a2, h2, e2⟩ := k.fr.shp b a1 T h1
    exact ⟨a2, h2, e2.trans e1⟩
  · intro b hb
    rcases k.new b hb with h1 | h1
    · exact h.new b h1
    · exact .inr (Nat.le_trans h.fr.size h1)

theorem lt_of_heap {w : World} {b : Nat} {x : Obj} (h : w.heap[b]? = some x) : b < w.heap.size := (Array.getElem?_eq_some_iff.1 h).1

theorem VRel.mono' {φ φ' : Phi0} {ow ow' : Nat → Prop} {w w' : World} (hsub : ∀ o x, φ o = some x → φ' o = some x)
    (hblk : ∀ b, b < w.heap.size → ¬ ow b → w'.heap[b]? = w.heap[b]?) (hsz : w.heap.size ≤ w'.heap.size)
    (hshp : ∀ (b : Nat) (arr : Array Value) (T : TypeId), w.heap[b]? = some (.cells arr T (0, 0)) → ∃ arr' : Array Value, w'.heap[b]? = some (.cells arr' T (0, 0)) ∧ arr'.size = arr.size)
    (hnew : ∀ b, b < w.heap.size → ow' b → ow b) {a : AV} {v : Value} (h : VRel φ ow w a v) : VRel φ' ow' w' a v := by
  induction h with
  | int => exact .int
  | bool => exact .bool
  | str => exact .str
  | nilp => exact .nilp
  | nilsl => exact .nilsl
  | esl => exact .esl
  | nilf => exact .nilf
  | any => exact .any
  | any1 h => exact .any1 h
  | ptr h => exact .ptr (hsub _ _ h)
  | sl h h0 hn hc hw he =>
    obtain ⟨arr', h1, h2⟩ := hshp _ _ _ hw
    exact .sl (hsub _ _ h) h0 hn hc h1 (he.trans h2.symm)
  | sl0 h => exact .sl0 (hsub _ _ h)
  | sl1 h => exact .sl1 (hsub _ _ h)
  | fptr vs hone hb hno hcell hv ih =>
    refine .fptr vs hone (Nat.lt_of_lt_of_le hb hsz) (fun ho => hno (hnew _ hb ho)) (fun j x hj => ?_) ih
    rw [World.cell?_of_block (hblk _ hb hno)]
    exact hcell j x hj
  | fsl0 => exact .fsl0
  | fsl vs hone hn hb hno h0 hcap hm hlen hcell hv ih =>
    refine .fsl vs hone hn (Nat.lt_of_lt_of_le hb hsz) (fun ho => hno (hnew _ hb ho)) h0 hcap hm hlen (fun j e hj i x hi => ?_) ih
    rw [World.cell?_of_block (hblk _ hb hno)]
    exact hcell j e hj i x hi
  | agg hl _ ih => exact .agg hl ih
  | tup hl _ ih => exact .tup hl ih
  | clo hl _ hl' _ ih ih' => exact .clo hl ih hl' ih'

theorem VRel.mono {φ φ' : Phi0} {N : Nat → Prop} {σ σ' : AHeap} {w w' : World} (he : Ext0 N φ σ w φ' σ' w') {a : AV} {v : Value} (h : VRel φ (own0 φ σ) w a v) : VRel φ' (own0 φ' σ') w' a v :=
  h.mono' he.sub he.fr.blk he.fr.size he.fr.shp fun b hb ho => (he.new b ho).resolve_right (by omega)

abbrev AAct := List (Nat × AV)
def AAct.get : AAct → Nat → AV
  | [], _ => .any
  | (d, v) :: l, t => if t = d then v else AAct.get l t
def AAct.put (a : AAct) (d : Option Nat) (v : AV) : AAct :=
  match d with
  | some d => (d, v) :: a
  | none => a
/-- what is kept of the slots -/
def AAct.keep (a : AAct) (l : List Nat) : AAct := l.map fun t => (t, a.get t)

structure ARel0 (φ : Phi0) (σ : AHeap) (w : World) (n : Nat) (a : AAct) (ca : Act) : Prop where
  size : ca.tmps.size = n
  defers : ca.defers = []
  rel : ∀ t, VRel φ (own0 φ σ) w (a.get t) (ca.tmps.getD t undef)

theorem ARel0.mono {φ φ' : Phi0} {N : Nat → Prop} {σ σ' : AHeap} {w w' : World} {n a ca} (he : Ext0 N φ σ w φ' σ' w') (h : ARel0 φ σ w n a ca) : ARel0 φ' σ' w' n a ca :=
  ⟨h.size, h.defers, fun t => (h.rel t).mono he⟩

theorem ARel0.put {φ : Phi0} {σ : AHeap} {w : World} {n a ca} (h : ARel0 φ σ w n a ca) {d : Option Nat} (hd : ∀ x, d = some x → x < n) {v : AV} {cv : Value}
    (hv : VRel φ (own0 φ σ) w v cv) : ARel0 φ σ w n (a.put d v) (ca.put d cv) := by
  cases d with
  | none => exact h
  | some d =>
    have hd' := hd d rfl
    refine ⟨by simp [Act.put, h.size], by simp [Act.put, h.defers], fun t => ?_⟩
    simp only [AAct.put, Act.put, AAct.get]
    by_cases ht : t = d
    · subst ht
      rw [if_pos rfl, Array.getD_eq_getD_getElem?, Array.getElem?_setIfInBounds]
      simp [h.size, hd']
      exact hv
    · rw [if_neg ht, Array.getD_eq_getD_getElem?, Array.getElem?_setIfInBounds, if_neg (Ne.symm ht), ← Array.getD_eq_getD_getElem?]
      exact h.rel t

theorem AAct.get_keep (a : AAct) (l : List Nat) (t : Nat) : (a.keep l).get t = a.get t ∨ (a.keep l).get t = .any := by
  induction l with
  | nil => exact .inr rfl
  | cons d l ih =>
    simp only [AAct.keep, List.map_cons, AAct.get]
    by_cases h : t = d
    · subst h; left; simp
    · rw [if_neg h]; exact ih

theorem ARel0.keep {φ : Phi0} {σ : AHeap} {w : World} {n a ca} (h : ARel0 φ σ w n a ca) (l : List Nat) : ARel0 φ σ w n (a.keep l) ca := by
  refine ⟨h.size, h.defers, fun t => ?_⟩
  rcases a.get_keep l t with e | e
  · rw [e]; exact h.rel t
  · rw [e]; exact .any

/-- a nil slice, read as an empty one -/
def AV.weak1 : AV → AV
  | .nilsl => .fsl []
  | .esl => .fsl []
  | x => x
def AV.weak : AV → AV
  | .agg cs => .agg (cs.map AV.weak1)
  | x => x.weak1
theorem VRel.weak1 {φ : Phi0} {ow : Nat → Prop} {w : World} {x : AV} {v : Value} (h : VRel φ ow w x v) : VRel φ ow w x.weak1 v := by
  cases x with
  | nilsl => cases h; exact .fsl0
  | esl => cases h; exact .fsl0
  | _ => exact h
theorem VRel.weak {φ : Phi0} {ow : Nat → Prop} {w : World} {x : AV} {v : Value} (h : VRel φ ow w x v) : VRel φ ow w x.weak v := by
  cases x with
  | agg cs =>
    cases h with
    | agg hl hv =>
      refine .agg (by rw [List.length_map]; exact hl) fun i y u hy hu => ?_
      rw [List.getElem?_map] at hy
      cases h' : cs[i]? with
      | none => simp [h'] at hy
      | some z => simp [h'] at hy; subst hy; exact (hv i z u h' hu).weak1
  | nilsl => exact h.weak1
  | esl => exact h.weak1
  | _ => exact h
theorem AV.weak1_one {x : AV} (h : x.one = true) : x.weak1.one = true := by cases x <;> first | rfl | exact h
theorem VRel.und {φ : Phi0} {ow : Nat → Prop} {w : World} : VRel φ ow w (.tup []) undef := .tup rfl (by intro i x u h; simp at h)
theorem VRel.und_eq {φ : Phi0} {ow : Nat → Prop} {w : World} {v : Value} (h : VRel φ ow w (.tup []) v) : v = undef := by
  cases h with
  | @tup _ vs hl _ =>
    have : vs = #[] := Array.eq_empty_of_size_eq_zero hl.symm
    subst this; rfl

end Go.Abs
