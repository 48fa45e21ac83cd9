/- A table that a package lays: what its data says, cell by cell. -/
import Derived.Test.YtlcilhmkbmgkeaaGreatDoorNOpens
set_option linter.unusedSimpArgs false
set_option linter.unusedVariables false
namespace Go.Abs
open Go Go.RowKit Go.WideElems

def Lays (P : Program) (H : Type) (t : TypeId) (d : DataW H) (f : List AV) : Prop :=
 ∀ (enc : TypeId × Value → H) (w : World) (sp : Nat → Bool) (held : Bool) (φ : Phi0) (ow : Nat → Prop) (fuel : Nat) (cs : List Value) (ps : List MemPlace),
  DataW.trod enc P w 0 sp held fuel t cs = some (d, ps) → CellsRel φ ow w f cs

theorem lays_int {P : Program} {H : Type} {t : TypeId} {k : IntKind} (n : Int) (ht : P.underlying t = some (.int k)) : Lays P H t (.lit (.int k n)) [.int k n] := by
 intro enc w sp held φ ow fuel cs ps h
 obtain ⟨m, rfl, hx, _⟩ := DataW.trod_int ht h
 simp only [Prod.mk.injEq, DataW.lit.injEq, Lit.int.injEq, true_and] at hx
 obtain ⟨rfl, _⟩ := hx
 refine ⟨rfl, fun i x u hx hu => ?_⟩
 cases i with
 | zero => simp at hx hu; subst hx; subst hu; exact .int
 | succ i => simp at hx
theorem lays_str {P : Program} {H : Type} {t : TypeId} (s : List UInt8) (ht : P.underlying t = some .string) : Lays P H t (.lit (.string s)) [.str ⟨s.toArray⟩] := by
 intro enc w sp held φ ow fuel cs ps h
 obtain ⟨m, rfl, hx, _⟩ := DataW.trod_string ht h
 simp only [Prod.mk.injEq, DataW.lit.injEq, Lit.string.injEq] at hx
 obtain ⟨rfl, _⟩ := hx
 refine ⟨rfl, fun i x u hx hu => ?_⟩
 cases i with
 | zero => simp at hx hu; subst hx; subst hu; exact .str
 | succ i => simp at hx

inductive LaysF (P : Program) (H : Type) : List Field → Nat → List (DataW H) → List AV → Prop
 | nil (off : Nat) : LaysF P H [] off [] []
 | cons {f : Field} {fs : List Field} {off : Nat} {d : DataW H} {ds : List (DataW H)} {a b : List AV} (ho : f.offset = off) (h : Lays P H f.type d a) (k : LaysF P H fs (off + P.cellsOf f.type) ds b) : LaysF P H (f :: fs) off (d :: ds) (a ++ b)

theorem laysF_run {P : Program} {H : Type} {enc : TypeId × Value → H} {w : World} {sp : Nat → Bool} {held : Bool} {φ : Phi0} {ow : Nat → Prop} {cs : List Value} {fuel : Nat} : ∀ {fs : List Field} {off : Nat} {ds : List (DataW H)} {f : List AV}, LaysF P H fs off ds f → ∀ (xs : List (DataW H × List MemPlace)), xs.map (·.1) = ds →
  (∀ (i : Nat) (g : Field), fs[i]? = some g → DataW.trod enc P w 0 sp held fuel g.type ((cs.drop g.offset).take (P.cellsOf g.type)) = xs[i]?) → cs.length = off + (fs.map fun g => P.cellsOf g.type).sum → CellsRel φ ow w f (cs.drop off) := by
 intro fs
 induction fs with
 | nil =>
  intro off ds f h xs _ _ hl
  cases h
  simp at hl
  exact ⟨by simp [hl], fun i x u hx => by simp at hx⟩
 | cons g fs ih =>
  intro off ds f h xs hds ht hl
  cases h with
  | cons ho h k =>
   subst ho
   cases xs with
   | nil => simp at hds
   | cons x xs =>
    simp only [List.map_cons, List.cons.injEq] at hds
    obtain ⟨rfl, hds⟩ := hds
    have h0 := ht 0 g rfl
    obtain ⟨d, ps⟩ := x
    have ha := h enc w sp held φ ow fuel _ ps h0
    have hb := ih k xs hds (fun i g' hg => ht (i + 1) g' hg) (by simp at hl; omega)
    have := ha.append hb
    rw [← List.drop_drop, List.take_append_drop] at this
    exact this

theorem lays_struct {P : Program} {H : Type} {t : TypeId} {fs : Array Field} {ds : List (DataW H)} {f : List AV} (ht : P.underlying t = some (.struct fs)) (hs : P.cellsOf t = (fs.toList.map fun g => P.cellsOf g.type).sum) (h : LaysF P H fs.toList 0 ds f) : Lays P H t (.agg ds) f := by
 intro enc w sp held φ ow fuel cs ps hx
 obtain ⟨xs, n, _, hd, hl, hlen, hel⟩ := DataW.trod_struct ht hx
 simp only [Prod.mk.injEq, DataW.agg.injEq] at hd
 have := laysF_run (φ := φ) (ow := ow) (fuel := n) (cs := cs) h xs hd.1.symm (fun i g hg => hel i g (by simpa using hg)) (by rw [hl, hs]; simp)
 simpa using this

inductive LaysE (P : Program) (H : Type) (e : TypeId) : List (DataW H) → List AV → Prop
 | nil : LaysE P H e [] []
 | cons {d : DataW H} {ds : List (DataW H)} {a b : List AV} (h : Lays P H e d a) (k : LaysE P H e ds b) : LaysE P H e (d :: ds) (a ++ b)

theorem laysE_run {P : Program} {H : Type} {e : TypeId} {enc : TypeId × Value → H} {w : World} {sp : Nat → Bool} {held : Bool} {φ : Phi0} {ow : Nat → Prop} {cs : List Value} {fuel : Nat} : ∀ {ds : List (DataW H)} {f : List AV}, LaysE P H e ds f → ∀ (k : Nat) (xs : List (DataW H × List MemPlace)), xs.map (·.1) = ds →
  (∀ (i : Nat), i < ds.length → DataW.trod enc P w 0 sp held fuel e ((cs.drop ((k + i) * P.cellsOf e)).take (P.cellsOf e)) = xs[i]?) → cs.length = (k + ds.length) * P.cellsOf e → CellsRel φ ow w f (cs.drop (k * P.cellsOf e)) := by
 intro ds f h
 induction h with
 | nil =>
  intro k xs _ _ hl
  simp at hl
  exact ⟨by simp [hl], fun i x u hx => by simp at hx⟩
 | @cons d ds a b h k' ih =>
  intro k xs hds ht hl
  cases xs with
  | nil => simp at hds
  | cons x xs =>
   simp only [List.map_cons, List.cons.injEq] at hds
   obtain ⟨rfl, hds⟩ := hds
   have h0 := ht 0 (by simp)
   obtain ⟨d, ps⟩ := x
   have ha := h enc w sp held φ ow fuel _ ps (by simpa using h0)
   have hb := ih (k + 1) xs hds (fun i hi => by
    have := ht (i + 1) (by simp; omega)
    rw [show k + (i + 1) = k + 1 + i by omega] at this
    simpa using this) (by simp at hl; rw [hl]; congr 1; omega)
   have := ha.append hb
   rw [Nat.add_mul, Nat.one_mul, ← List.drop_drop, List.take_append_drop] at this
   exact this

theorem lays_array {P : Program} {H : Type} {t e : TypeId} {n : Nat} {ds : List (DataW H)} {f : List AV} (ht : P.underlying t = some (.array n e)) (hs : P.cellsOf t = n * P.cellsOf e) (h : LaysE P H e ds f) : Lays P H t (.agg ds) f := by
 intro enc w sp held φ ow fuel cs ps hx
 obtain ⟨xs, m, _, hd, hl, hlen, hel⟩ := DataW.trod_array ht hx
 simp only [Prod.mk.injEq, DataW.agg.injEq] at hd
 have hn : ds.length = n := by rw [hd.1]; simpa using hlen
 have := laysE_run (φ := φ) (ow := ow) (fuel := m) (cs := cs) h 0 xs hd.1.symm (fun i hi => by rw [Nat.zero_add]; exact hel i (by omega)) (by rw [hl, hs, hn, Nat.zero_add])
 simpa using this

theorem lay_rel {P : Program} {H : Type} {enc : TypeId × Value → H} {W : World} {name : String} {g : Nat} {t : TypeId} {cs : Array Value} {sp : Nat → Bool} {held : Bool} {fuel : Nat} {d : DataW H} {f : List AV} {ps : List MemPlace} {φ : Phi0} {ow : Nat → Prop} (how : ∀ b, ¬ ow b)
  (hg : P.globalNamed name = some g) (hv : W.var? P name = some cs) (hd : DataW.trod enc P W 0 sp held fuel t cs.toList = some (d, ps)) (h : Lays P H t d f) (hone : ∀ x ∈ f, x.one = true) : VRel φ ow W (.fptr f 0) (.pointer (some ⟨g, 0, none⟩)) := by
 obtain ⟨h1, h2⟩ := h enc W sp held φ ow fuel _ _ hd
 have hgb : g < W.heap.size := by
  unfold World.var? at hv
  rw [hg] at hv
  simp only [Option.bind_some] at hv
  cases hh : W.heap[g]? with
  | none => rw [hh] at hv; cases hv
  | some o => exact (Array.getElem?_eq_some_iff.1 hh).1
 have key : ∀ (j : Nat) (x : AV), f[j]? = some x → ∃ u, cs[j]? = some u ∧ VRel φ ow W x u := by
  intro j x hx
  have hj : j < cs.toList.length := by rw [← h1]; exact (List.getElem?_eq_some_iff.1 hx).1
  exact ⟨cs.toList[j], by simp, h2 j x _ hx (List.getElem?_eq_getElem hj)⟩
 have := VRel.fptr (φ := φ) (ow := ow) (w := W) (cs := f) (i := 0) (b := g) (off := 0) (fun j => cs.getD j undef) hone hgb (how _) ?_ ?_
 ·exact this
 ·intro j x hx
  obtain ⟨u, hu, _⟩ := key j x hx
  rw [Nat.zero_add, World.var?_cell hg hv j, hu, Array.getD_eq_getD_getElem?, hu]; rfl
 ·intro j x hx
  obtain ⟨u, hu, hr⟩ := key j x hx
  rw [Array.getD_eq_getD_getElem?, hu]; exact hr
end Go.Abs
