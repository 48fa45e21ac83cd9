/- Types as a table, operands, and the operations that only read: what they give, and that the machine gives the same. -/
import Derived.Test.YtoklfbdcghgmlaaNAbs1
import Derived.Laws.StructEq
set_option linter.unusedSimpArgs false
set_option linter.unusedVariables false
namespace Go.Abs
open Go Go.RowKit

inductive TK where
  | int (k : IntKind) | bool | str | ptr | slice (e : TypeId) | struct (fs : List (Nat × TypeId)) | array (n : Nat) (e : TypeId) | other
  deriving DecidableEq

structure TI where
  sz : Nat
  bytes : Nat
  zero : List AV
  k : TK

def TK.agg : TK → Bool
  | .struct _ | .array _ _ => true
  | _ => false

def tkOf : TypeDesc → TK
  | .int k => .int k
  | .bool => .bool
  | .string => .str
  | .pointer _ => .ptr
  | .slice e => .slice e
  | .struct fs => .struct (fs.toList.map fun f => (f.offset, f.type))
  | .array n e => .array n e
  | _ => .other

def AV.toC : AV → Value
  | .int k n => .int k n
  | .bool b => .bool b
  | .str s => .string s
  | .nilp => .pointer none
  | .nilsl => .slice none 0 0
  | .nilf => .nilFunc
  | _ => undef

def AV.gr : AV → Bool
  | .int _ _ | .bool _ | .str _ | .nilp | .nilsl | .nilf => true
  | _ => false

abbrev Types := TypeId → Option TI

/-- a struct of integers alone -/
def flatT (T : Types) (k : TK) : Bool :=
  match k with
  | .struct fs => fs.all fun p => match (T p.2).map TI.k with
    | some (.int _) => true
    | _ => false
  | _ => false
/-- what a comparison of two structs of a type must not meet -/
def eqBad (P : Program) (t : TypeId) : Bool := P.stoodInHeld t || P.eqGuardType P.depth t || (P.fieldsOf t).toList.any fun f => f.name == "_"

def TOk (P : Program) (T : Types) : Prop := ∀ t i, T t = some i →
  (P.info? t).map (fun x => (x.size, x.bytes, x.zero.map (·.cells.toList))) = some (i.sz, i.bytes, some (i.zero.map AV.toC)) ∧ i.zero.all AV.gr = true ∧
  (P.underlying t).map tkOf = some i.k ∧ i.zero.length = i.sz ∧ (flatT T i.k && eqBad P t) = false

def AV.ofC : Value → AV
  | .int k n => .int k n
  | .bool b => .bool b
  | .string s => .str s
  | .pointer none => .nilp
  | .slice none 0 0 => .nilsl
  | .nilFunc => .nilf
  | _ => .bad

def ev (G : Globs) (a : AAct) : Operand → AV
  | .tmp t => a.get t
  | .const v => .ofC v
  | .global g => match G g with | some cs => .fptr cs 0 | none => .bad
  | .func f => .clo f [] []

theorem ofC_rel {φ ow w} (v : Value) (h : AV.ofC v ≠ .bad) : VRel φ ow w (.ofC v) v := by
  unfold AV.ofC at h ⊢
  split at h <;> first | constructor | exact absurd rfl h

theorem gr_rel {φ ow w} (v : AV) (h : v.gr = true) : VRel φ ow w v v.toC := by
  cases v <;> simp [AV.gr] at h <;> constructor

theorem ev_rel0 {G φ σ w n a ca} (hR : R0 G φ σ w) (hA : ARel0 φ σ w n a ca) (x : Operand) (h : ev G a x ≠ .bad) : VRel φ (own0 φ σ) w (ev G a x) (ca.eval x) := by
  cases x with
  | tmp t => exact hA.rel t
  | const v => exact ofC_rel v h
  | global g =>
    simp only [ev] at h ⊢
    cases hg : G g with
    | none => simp [hg] at h
    | some cs => simpa [Act.eval] using hR.glob g cs hg
  | func f => exact .clo rfl (by simp) rfl (by simp)

/-- a cell or the cells of a part of a row -/
def part (ti : TI) (row : List AV) (i : Nat) : Option AV :=
  if ti.k.agg then (if i + ti.sz ≤ row.length then some (.agg ((row.drop i).take ti.sz)) else none) else row[i]?

def ibin (op : BinOp) (k : IntKind) (a b : Int) : Option AV :=
  match op with
  | .add => some (.int k (k.wrap (a + b)))
  | .sub => some (.int k (k.wrap (a - b)))
  | .mul => some (.int k (k.wrap (a * b)))
  | .quo => if b = 0 then none else some (.int k (k.wrap (a.tdiv b)))
  | .rem => if b = 0 then none else some (.int k (a.tmod b))
  | .and => some (.int k (k.wrap (BitVec.ofInt k.bits a &&& BitVec.ofInt k.bits b).toNat))
  | .or => some (.int k (k.wrap (BitVec.ofInt k.bits a ||| BitVec.ofInt k.bits b).toNat))
  | .xor => some (.int k (k.wrap (BitVec.ofInt k.bits a ^^^ BitVec.ofInt k.bits b).toNat))
  | .andNot => some (.int k (k.wrap (BitVec.ofInt k.bits a &&& ~~~(BitVec.ofInt k.bits b)).toNat))
  | .eql => some (.bool (a == b))
  | .neq => some (.bool (a != b))
  | .lss => some (.bool (a < b))
  | .leq => some (.bool (a ≤ b))
  | .gtr => some (.bool (a > b))
  | .geq => some (.bool (a ≥ b))
  | .shl => if b < 0 then none else some (.int k (k.wrap (a * 2 ^ (min b.toNat k.bits))))
  | .shr => if b < 0 then none else some (.int k (a.fdiv (2 ^ (min b.toNat k.bits))))

abbrev Types.kind (T : Types) (t : TypeId) : Option TK := (T t).map TI.k

/-- are the integers of two structs the same? -/
def eqCells : List (Nat × TypeId) → List AV → List AV → Option Bool
  | [], _, _ => some true
  | p :: ps, xs, ys => match xs[p.1]?, ys[p.1]? with
    | some (.int k a), some (.int k' b) => if k = k' then (eqCells ps xs ys).map fun r => (a == b) && r else none
    | _, _ => none
def eqAgg (T : Types) (t : TypeId) (xs ys : List AV) : Option Bool :=
  match T t with
  | some ti => if flatT T ti.k = true then (match ti.k with
    | .struct fs => eqCells fs xs ys
    | _ => none) else none
  | none => none
/-- whether a pointer is nil -/
def ptrNil : AV → Option Bool
  | .nilp => some true
  | .ptr _ _ _ => some false
  | .fptr _ _ => some false
  | _ => none
def bin (T : Types) (op : BinOp) (t : TypeId) (x y : AV) : Option AV :=
  match x, y with
  | .int k a, .int k' b => if k = k' ∨ op = .shl ∨ op = .shr then ibin op k a b else none
  | .bool a, .bool b => match T.kind t, op with
    | some .bool, .eql => some (.bool (a == b))
    | some .bool, .neq => some (.bool (!(a == b)))
    | _, _ => none
  | .agg xs, .agg ys => match op with
    | .eql => (eqAgg T t xs ys).map fun b => .bool b
    | .neq => (eqAgg T t xs ys).map fun b => .bool !b
    | _ => none
  | x, .nilp => match T.kind t, op with
    | some .ptr, .eql => (ptrNil x).map fun b => .bool b
    | some .ptr, .neq => (ptrNil x).map fun b => .bool !b
    | _, _ => none
  | _, _ => none

def loadA (T : Types) (σ : AHeap) (t : TypeId) (x : AV) : Option AV :=
  match T t, x with
  | some ti, .ptr o r i => (σ.objs o).bind fun ob => (ob.rows[r]?).bind fun row => (part ti row i).bind fun v => if v.lin = true then some v else none
  | some ti, .fptr cs i => part ti cs i
  | _, _ => none

def nilCheckA : AV → Option AV
  | .ptr o r i => some (.ptr o r i)
  | .fptr cs i => some (.fptr cs i)
  | _ => none

def unA (op : UnOp) (x : AV) : Option AV :=
  match op, x with
  | .not, .bool b => some (.bool !b)
  | .neg, .int k n => some (.int k (k.wrap (0 - n)))
  | _, _ => none

def convA (T : Types) (src dst : TypeId) (x : AV) : Option AV :=
  match T.kind src, T.kind dst, x with
  | some _, some (.int k), .int _ n => some (.int k (k.wrap n))
  | _, _, _ => none

/-- the place of a field: its offset, where it has cells at all -/
def fieldOff (T : Types) (s : TypeId) (f : Nat) : Option (Nat × TI) :=
  match T.kind s with
  | some (.struct fs) => (fs[f]?).bind fun p => (T p.2).bind fun ti => if ti.sz = 0 then none else some (p.1, ti)
  | _ => none

def fieldAddrA (T : Types) (s : TypeId) (x : AV) (f : Nat) : Option AV :=
  match fieldOff T s f, x with
  | some (off, _), .ptr o r i => some (.ptr o r (i + off))
  | some (off, _), .fptr cs i => some (.fptr cs (i + off))
  | _, _ => none

def fieldA (T : Types) (s : TypeId) (x : AV) (f : Nat) : Option AV :=
  match fieldOff T s f, x with
  | some (off, ti), .agg cs => part ti cs off
  | _, _ => none

def indexAddrA (T : Types) (σ : AHeap) (t : TypeId) (x ix : AV) : Option AV :=
  match T.kind t, x, ix with
  | some (.slice e), .sl o r n, .int _ i => (σ.objs o).bind fun ob => (T e).bind fun ti => if ob.sz = ti.sz ∧ 0 ≤ i ∧ i < n then some (.ptr o (r + i.toNat) 0) else none
  | some (.slice e), .fsl es, .int _ i => (T e).bind fun ti => (es[i.toNat]?).bind fun row => if row.length = ti.sz ∧ 0 ≤ i then some (.fptr row 0) else none
  | some (.array n e), .ptr o r i0, .int _ i => (T e).bind fun ti => if 0 ≤ i ∧ i < n then some (.ptr o r (i0 + i.toNat * ti.sz)) else none
  | some (.array n e), .fptr cs i0, .int _ i => (T e).bind fun ti => if 0 ≤ i ∧ i < n then some (.fptr ((cs.drop (i0 + i.toNat * ti.sz)).take ti.sz) 0) else none
  | _, _, _ => none

def indexA (T : Types) (t : TypeId) (x ix : AV) : Option AV :=
  match T.kind t, x, ix with
  | some (.array n e), .agg cs, .int _ i => (T e).bind fun ti => if 0 ≤ i ∧ i < n then part ti cs (i.toNat * ti.sz) else none
  | _, _, _ => none

def extractA (x : AV) (i : Nat) : Option AV :=
  match x with
  | .tup vs => vs[i]?
  | _ => none

def lenA (T : Types) (t : TypeId) (x : AV) : Option AV :=
  match T.kind t, x with
  | some (.slice _), .sl _ _ n => some (.int .i64 n)
  | some (.slice _), .fsl es => some (.int .i64 es.length)
  | some (.slice _), .nilsl => some (.int .i64 0)
  | some (.slice _), .esl => some (.int .i64 0)
  | some .str, .str s => some (.int .i64 s.size)
  | _, _ => none

def maxA (x y : AV) : Option AV :=
  match x, y with | .int k p, .int _ q => some (.int k (if q > p then q else p)) | _, _ => none
def minA (x y : AV) : Option AV :=
  match x, y with | .int k p, .int _ q => some (.int k (if q < p then q else p)) | _, _ => none

def AV.ok : AV → Option AV
  | .bad => none
  | v => some v

def stepP (T : Types) (G : Globs) (op : Op) (a : AAct) (σ : AHeap) : Option AV :=
  match op with
  | .move x | .assign x => (ev G a x).ok
  | .pick c x y => match ev G a c with
    | .bool b => (if b then ev G a x else ev G a y).ok
    | _ => none
  | .load t x => loadA T σ t (ev G a x)
  | .nilCheck x => nilCheckA (ev G a x)
  | .binOp op t x y _ => bin T op t (ev G a x) (ev G a y)
  | .unOp op _ x => unA op (ev G a x)
  | .convert src dst x => convA T src dst (ev G a x)
  | .fieldAddr s x f => fieldAddrA T s (ev G a x) f
  | .field s x f => fieldA T s (ev G a x) f
  | .indexAddr t x ix => indexAddrA T σ t (ev G a x) (ev G a ix)
  | .index t x ix => indexA T t (ev G a x) (ev G a ix)
  | .extract x i => extractA (ev G a x) i
  | .makeFunc (.func f) first cap =>
    if (first.toList.map (ev G a)).all AV.one && (cap.toList.map (ev G a)).all AV.one then some (.clo f (first.toList.map (ev G a)) (cap.toList.map (ev G a))) else none
  | .call { callee := .builtin .len, args, argTypes } => match args.toList, argTypes.toList with
    | [x], [t] => lenA T t (ev G a x)
    | _, _ => none
  | .call { callee := .builtin .max, args, .. } => match args.toList with
    | [x, y] => maxA (ev G a x) (ev G a y)
    | _ => none
  | .call { callee := .builtin .min, args, .. } => match args.toList with
    | [x, y] => minA (ev G a x) (ev G a y)
    | _ => none
  | _ => none

theorem TOk.info {P T} (h : TOk P T) {t : TypeId} {i : TI} (hi : T t = some i) :
    ∃ x, P.info? t = some x ∧ x.size = i.sz ∧ x.bytes = i.bytes ∧ ∃ z, x.zero = some z ∧ z.cells.toList = i.zero.map AV.toC := by
  obtain ⟨h1, h2, h3, _⟩ := h t i hi
  cases hx : P.info? t with
  | none => simp [hx] at h1
  | some x =>
    simp [hx] at h1
    obtain ⟨a, b, z, hz, hc⟩ := h1
    exact ⟨x, rfl, a, b, z, hz, hc⟩

theorem TOk.under {P T} (h : TOk P T) {t : TypeId} {k : TK} (hi : T.kind t = some k) : ∃ d, P.underlying t = some d ∧ tkOf d = k := by
  cases hx : T t with
  | none => simp [Types.kind, hx] at hi
  | some i =>
    obtain ⟨h1, h2, h3, _⟩ := h t i hx
    simp [Types.kind, hx] at hi
    subst hi
    cases hu : P.underlying t with
    | none => simp [hu] at h3
    | some d => simp [hu] at h3; exact ⟨d, rfl, h3⟩

theorem TOk.size {P T} (h : TOk P T) {t : TypeId} {i : TI} (hi : T t = some i) (w : World) : (sizeOf t).run P w = .ok i.sz w := by
  obtain ⟨x, hx, hs, _⟩ := h.info hi
  simp [sizeOf, typeInfo, hx, hs]

theorem TOk.isAgg {P T} (h : TOk P T) {t : TypeId} {i : TI} (hi : T t = some i) (w : World) : (isAgg t).run P w = .ok i.k.agg w := by
  obtain ⟨d, hd, hk⟩ := h.under (t := t) (k := i.k) (by simp [Types.kind, hi])
  rw [← hk]
  simp only [_root_.Go.isAgg, Sem.run_bind, run_underlying hd, Result.andThen_ok]
  cases d <;> rfl

/-- the concrete side of 'part': of an array of values that stand to a row from off on -/
theorem part_sound {P T φ ow w} (hT : TOk P T) {t : TypeId} {ti : TI} (ht : T t = some ti) {cs : List AV} {vs : Array Value} (hl : cs.length = vs.size)
    (hv : ∀ (i : Nat) (x : AV) (u : Value), cs[i]? = some x → vs[i]? = some u → VRel φ ow w x u) {i : Nat} {v : AV} (hp : part ti cs i = some v) (w1 : World) :
    ∃ cv, (Go.part t vs i).run P w1 = .ok cv w1 ∧ VRel φ ow w v cv := by
  unfold part at hp
  unfold Go.part
  simp only [Sem.run_bind, hT.isAgg ht, Result.andThen_ok]
  cases hk : ti.k.agg with
  | true =>
    simp only [hk, if_true] at hp ⊢
    split at hp
    · rename_i hle
      cases hp
      simp only [Sem.run_bind, hT.size ht, Result.andThen_ok, Sem.run_pure]
      refine ⟨_, rfl, .agg (by simp; omega) fun j x u hx hu => ?_⟩
      have hx' := hx
      simp only [List.getElem?_take, List.getElem?_drop] at hx
      split at hx
      · refine hv _ x u hx ?_
        rw [Array.getElem?_extract] at hu
        split at hu <;> simp_all
      · cases hx
    · cases hp
  | false =>
    simp only [hk, if_false, Bool.false_eq_true] at hp ⊢
    have hi : i < cs.length := (List.getElem?_eq_some_iff.1 hp).1
    have hi' : i < vs.size := by omega
    have e : vs[i]? = some vs[i] := by simp [hi']
    simp only [e, Sem.run_pure]
    exact ⟨_, rfl, hv i v _ hp e⟩

end Go.Abs
