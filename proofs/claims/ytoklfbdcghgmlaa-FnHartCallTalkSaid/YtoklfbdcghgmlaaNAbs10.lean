/- Struct literals, make, cuts: the machine's side. -/
import Derived.Test.YtoklfbdcghgmlaaNAbs9
import Derived.Laws.MakeOwn
import Derived.Laws.Slices
set_option linter.unusedSimpArgs false
set_option linter.unusedVariables false
namespace Go.Abs
open Go Go.RowKit

def buildFold (place : Nat → Option (Nat × Nat)) : List AV → List (Nat × AV) → Option (List AV)
  | row, [] => some row
  | row, (i, x) :: rest => match place i with
    | some (off, sz) => if x.cells.length = sz ∧ off + sz ≤ row.length ∧ allOne x.cells = true then buildFold place (splice row off x.cells) rest else none
    | none => none

def placesA (T : Types) : List (Nat × TypeId) → Option (List (Nat × Nat))
  | [] => some []
  | (off, t) :: fs => (T t).bind fun ti => (placesA T fs).map fun r => (off, ti.sz) :: r

def TI.zz (ti : TI) : Bool → List AV
  | true => ti.zero
  | false => ti.wz

theorem zz_rel {P T φ ow} {w : World} (hT : TOk P T) {t : TypeId} {ti : TI} (ht : T t = some ti) (b : Bool) :
    ∃ z, (zeroValue t).run P w = .ok z w ∧ (ti.zz b).length = z.cells.size ∧ (∀ (i : Nat) (x : AV) (u : Value), (ti.zz b)[i]? = some x → z.cells[i]? = some u → VRel φ ow w x u) ∧ (∀ x ∈ ti.zz b, x.one = true) := by
  cases b with
  | false => exact wzero_rel hT ht
  | true => exact zero_rel hT ht

/-- b: the zeros stay what they are (a nil slice is going to be appended to) -/
def buildA (T : Types) (b : Bool) (t : TypeId) (parts : List (Nat × AV)) : Option AV :=
  (T t).bind fun ti => match ti.k with
    | .struct fs => (placesA T fs).bind fun ps => (buildFold (ps[·]?) (ti.zz b) parts).map .agg
    | .array _ e => (T e).bind fun te => (buildFold (fun i => some (i * te.sz, te.sz)) (ti.zz b) parts).map .agg
    | _ => none

theorem fill_row {φ ow} {w : World} (place : Nat → Option (Nat × Nat)) : ∀ (parts : List (Nat × AV)) (cparts : List (Nat × Value)), parts.length = cparts.length →
    (∀ (k : Nat) (p : Nat × AV) (q : Nat × Value), parts[k]? = some p → cparts[k]? = some q → p.1 = q.1 ∧ VRel φ ow w p.2 q.2) →
    ∀ (row : List AV) (arr : Array Value), row.length = arr.size → (∀ (i : Nat) (x : AV) (u : Value), row[i]? = some x → arr[i]? = some u → VRel φ ow w x u) →
    ∀ row', buildFold place row parts = some row' → ∃ arr', Instr.fill place arr cparts = some arr' ∧ row'.length = arr'.size ∧ (∀ (i : Nat) (x : AV) (u : Value), row'[i]? = some x → arr'[i]? = some u → VRel φ ow w x u) := by
  intro parts
  induction parts with
  | nil =>
    intro cparts hl _ row arr h1 h2 row' h
    have : cparts = [] := List.eq_nil_of_length_eq_zero (by simpa using hl.symm)
    subst this
    cases h
    exact ⟨arr, rfl, h1, h2⟩
  | cons p parts ih =>
    intro cparts hl hrel row arr h1 h2 row' h
    cases cparts with
    | nil => simp at hl
    | cons q cparts =>
      obtain ⟨i, v⟩ := q
      obtain ⟨i', x⟩ := p
      obtain ⟨e1, hr⟩ := hrel 0 (i', x) (i, v) rfl rfl
      simp only at e1 hr
      subst e1
      simp only [buildFold] at h
      cases hp : place i' with
      | none => simp [hp] at h
      | some y =>
      obtain ⟨off, sz⟩ := y
      simp only [hp] at h
      split at h
      case isFalse => cases h
      rename_i hc
      obtain ⟨h3, h4⟩ := cells_rel hr hc.2.2
      have hvs : v.cells.size = sz := by omega
      have hfit : off + v.cells.size ≤ arr.size := by omega
      have hlen : (splice row off x.cells).length = (setAll off v.cells arr).size := by
        rw [splice_len _ _ _ (by omega), setAll_eq _ _ _ hfit]; simp; omega
      obtain ⟨arr', g1, g2, g3⟩ := ih cparts (by simpa using hl) (fun k p q hp hq => hrel (k + 1) p q (by simpa using hp) (by simpa using hq)) (splice row off x.cells) (setAll off v.cells arr) hlen
        (fun k y u hy hu => by
          rw [setAll_eq _ _ _ hfit] at hu
          rw [splice, splice_get row x.cells off (by omega)] at hy
          have hu' : (arr.toList.take off ++ v.cells.toList ++ arr.toList.drop (off + v.cells.toList.length))[k]? = some u := by simpa using hu
          rw [splice_get arr.toList v.cells.toList off (by simpa using hfit)] at hu'
          simp only [Array.length_toList] at hu'
          split at hy
          · rename_i hk
            rw [if_pos (by omega)] at hu'
            exact h4 _ y u hy (by simpa using hu')
          · rename_i hk
            rw [if_neg (by omega)] at hu'
            exact h2 k y u hy (by simpa using hu')) row' h
      exact ⟨arr', by rw [fill_cons _ _ _ _ _ off (by rw [hp, hvs]) hfit]; exact g1, g2, g3⟩

theorem placesA_sound {P T} (hT : TOk P T) : ∀ (fields : List Field) (ps : List (Nat × Nat)), placesA T (fields.map fun f => (f.offset, f.type)) = some ps →
    fields.mapM (fun f => (P.info? f.type).map fun i => (f.offset, i.size)) = some ps
  | [], ps, h => by simp [placesA] at h; subst h; rfl
  | f :: fs, ps, h => by
    simp only [List.map_cons, placesA] at h
    cases ht : T f.type with
    | none => simp [ht] at h
    | some ti =>
      cases hr : placesA T (fs.map fun f => (f.offset, f.type)) with
      | none => simp [ht, hr] at h
      | some r =>
        simp [ht, hr] at h
        subst h
        obtain ⟨x, hx, hs, _⟩ := hT.info ht
        simp [List.mapM_cons, hx, hs, placesA_sound hT fs r hr]

theorem buildA_sound {P T φ ow} {w : World} (hT : TOk P T) {b : Bool} {t : TypeId} {parts : List (Nat × AV)} {cparts : Array (Nat × Value)} {v : AV} (hl : parts.length = cparts.size)
    (hp : ∀ (k : Nat) (p : Nat × AV) (q : Nat × Value), parts[k]? = some p → cparts[k]? = some q → p.1 = q.1 ∧ VRel φ ow w p.2 q.2) (h : buildA T b t parts = some v) :
    ∃ cv, (Instr.build t cparts).run P w = .ok cv w ∧ VRel φ ow w v cv := by
  unfold buildA at h
  cases ht : T t with
  | none => simp [ht] at h
  | some ti =>
  simp only [ht, Option.bind_some] at h
  obtain ⟨info, hi, _, _, z, hz, hzc⟩ := hT.info ht
  obtain ⟨z', hz1, hz2, hz3, hz4⟩ := zz_rel (P := P) (φ := φ) (ow := ow) (w := w) hT ht b
  have hzz : z' = z := by simp [zeroValue, typeInfo, hi, hz] at hz1; exact hz1.symm
  subst hzz
  obtain ⟨d, hd, hdk⟩ := hT.under (t := t) (k := ti.k) (by simp [Types.kind, ht])
  split at h
  · rename_i fs hk
    rw [hk] at hdk
    cases d <;> simp [tkOf] at hdk
    rename_i fields
    subst hdk
    cases hps : placesA T (fields.toList.map fun f => (f.offset, f.type)) with
    | none => simp [hps] at h
    | some ps =>
    cases hb : buildFold (ps[·]?) (ti.zz b) parts with
    | none => simp [hps, hb] at h
    | some row' =>
    simp [hps, hb] at h
    subst h
    obtain ⟨arr', g1, g2, g3⟩ := fill_row (ps[·]?) parts cparts.toList (by simpa using hl) (fun k p q h1 h2 => hp k p q h1 (by simpa using h2)) (ti.zz b) z'.cells hz2 hz3 row' hb
    refine ⟨.agg arr', run_build w t cparts arr' ?_, .agg g2 g3⟩
    simp only [Program.built, hi, hd, hz, placesA_sound hT _ _ hps]
    simpa using g1
  · rename_i n e hk
    rw [hk] at hdk
    cases d <;> simp [tkOf] at hdk
    obtain ⟨rfl, rfl⟩ := hdk
    rename_i n e
    cases hte : T e with
    | none => simp [hte] at h
    | some te =>
    cases hb : buildFold (fun i => some (i * te.sz, te.sz)) (ti.zz b) parts with
    | none => simp [hte, hb] at h
    | some row' =>
    simp [hte, hb] at h
    subst h
    obtain ⟨ie, hie, hies, _⟩ := hT.info hte
    obtain ⟨arr', g1, g2, g3⟩ := fill_row (fun i => some (i * te.sz, te.sz)) parts cparts.toList (by simpa using hl) (fun k p q h1 h2 => hp k p q h1 (by simpa using h2)) (ti.zz b) z'.cells hz2 hz3 row' hb
    refine ⟨.agg arr', run_build w t cparts arr' ?_, .agg g2 g3⟩
    simp only [Program.built, hi, hd, hz, hie, hies]
    exact g1
  · cases h

def makeA (T : Types) (t : TypeId) (alt : Bool) (id : Nat) (l c : AV) (σ : AHeap) : Option (AV × AHeap) :=
  match T.kind t, l, c with
  | some (.slice e), .int _ n, .int _ m => (T e).bind fun ti =>
    if 0 < ti.sz ∧ n = m ∧ 0 ≤ n ∧ n ≤ 9223372036854775807 ∧ (ti.bytes : Int) * n ≤ 281474976710656 ∧ n.toNat ≤ maxLen then
      (if alt then some (.fsl (List.replicate n.toNat ti.wz), σ) else some (.sl id 0 n.toNat, σ.put id ⟨e, ti.sz, List.replicate n.toNat ti.zero⟩)) else none
  | _, _, _ => none

theorem makeA_sound {P T G φ σ w t alt id l c cl cc v σ'} (hT : TOk P T) (hR : R0 G φ σ w) (hid : id < σ.next) (ho : σ.objs id = none) (hφ : φ id = none)
    (hl : VRel φ (own0 φ σ) w l cl) (hc : VRel φ (own0 φ σ) w c cc) (h : makeA T t alt id l c σ = some (v, σ')) :
    ∃ cv w', (Instr.makeSlice t cl cc).run P w = .ok cv w' ∧ HPost0 G id φ σ w v σ' cv w' := by
  unfold makeA at h
  split at h
  case h_2 => cases h
  rename_i e k n k' m hk
  obtain ⟨d, hd, hdk⟩ := hT.under hk
  cases d <;> simp [tkOf] at hdk
  subst hdk
  rename_i e
  cases hl; cases hc
  cases he : T e with
  | none => simp [he] at h
  | some ti =>
  simp only [he, Option.bind_some] at h
  split at h
  case isFalse => cases h
  rename_i hcd
  obtain ⟨h0, rfl, hn0, hn63, hb, hm⟩ := hcd
  obtain ⟨info, hi, hisz, hiby, z, hz, hzc⟩ := hT.info he
  obtain ⟨z', hz1, hz2, hz3, hz4⟩ : ∃ z, (zeroValue e).run P w = .ok z w ∧ (if alt then ti.wz else ti.zero).length = z.cells.size ∧ (∀ (i : Nat) (x : AV) (u : Value), (if alt then ti.wz else ti.zero)[i]? = some x → z.cells[i]? = some u → VRel φ (own0 φ σ) w x u) ∧ (∀ x ∈ (if alt then ti.wz else ti.zero), x.one = true) := by
    cases alt
    · exact zero_rel hT he
    · exact wzero_rel hT he
  have hzz : z' = z := by simp [zeroValue, typeInfo, hi, hz] at hz1; exact hz1.symm
  subst hzz
  have hzs : z'.cells.size = ti.sz := hz2.symm.trans (by
    cases alt
    · exact (hT e ti he).2.2.2.1
    · exact ti.wz_len.trans (hT e ti he).2.2.2.1)
  have hr := run_make (P := P) w t e info z' hd hi hz k k' n n hn0 (Int.le_refl _) (by rw [hiby]; exact hb) hn63
  have hrows := Rows.zeros hz2 (by omega) hz3 hz4 n.toNat
  rw [hzs] at hrows
  have hma : madeCells z'.cells (n.toNat * info.size) = zerosArr z'.cells (n.toNat * ti.sz) := by rw [hisz]; rfl
  have hfin := newRow_sound (alt := alt) (e := e) hR hid ho hφ h0 (n := n.toNat) (by simp) hm (arr := zerosArr z'.cells (n.toNat * ti.sz)) (by simp [zerosArr]) hrows
  rw [hma] at hr
  refine ⟨_, _, hr, ?_⟩
  cases alt with
  | true =>
    simp only [if_true] at h hfin
    obtain ⟨rfl, rfl⟩ : v = _ ∧ σ' = σ := by have := Option.some.inj h; exact ⟨(congrArg Prod.fst this).symm, (congrArg Prod.snd this).symm⟩
    exact hfin
  | false =>
    simp only [Bool.false_eq_true, if_false] at h hfin
    obtain ⟨rfl, rfl⟩ : v = _ ∧ σ' = _ := by have := Option.some.inj h; exact ⟨(congrArg Prod.fst this).symm, (congrArg Prod.snd this).symm⟩
    exact hfin

def lowA : Option AV → Option Int
  | none => some 0
  | some (.int _ l) => some l
  | _ => none
def highA (n : Nat) : Option AV → Option Int
  | none => some n
  | some (.int _ h) => some h
  | _ => none

/-- x[lo:hi] of a slice -/
def cutA (T : Types) (σ : AHeap) (t : TypeId) (x : AV) (lo hi : Option AV) : Option AV :=
  match T.kind t, x with
  | some (.slice e), .sl o r n =>
    (lowA lo).bind fun l => (highA n hi).bind fun h => (σ.objs o).bind fun ob => (T e).bind fun ti =>
    if ob.sz = ti.sz ∧ 0 ≤ l ∧ l ≤ h ∧ h ≤ n then some (.sl o (r + l.toNat) (h.toNat - l.toNat)) else none
  | some (.slice e), .fsl es =>
    (lowA lo).bind fun l => (highA es.length hi).bind fun h => (T e).bind fun ti =>
    if es.all (fun e => e.length == ti.sz) ∧ 0 ≤ l ∧ l ≤ h ∧ h ≤ es.length then some (.fsl ((es.take h.toNat).drop l.toNat)) else none
  | _, _ => none

theorem run_cut {P : Program} (w : World) (t e : TypeId) (sz : Nat) (hd : P.underlying t = some (.slice e)) (hs : ∀ w, (sizeOf e).run P w = .ok sz w) (a : Option Addr) (len cap : Nat) (lo hi : Option Value) (l h : Int)
    (hlo : lo = none ∧ l = 0 ∨ ∃ k, lo = some (.int k l)) (hhi : hi = none ∧ h = len ∨ ∃ k, hi = some (.int k h)) (h0 : 0 ≤ l) (h1 : l ≤ h) (h2 : h ≤ cap) :
    (Instr.sliceAt t (.slice a len cap) lo hi none).run P w = .ok (.slice (if cap = l.toNat then a else a.map (·.add (l.toNat * sz))) (h.toNat - l.toNat) (cap - l.toNat)) w := by
  have hb : (Instr.sliceBounds true len cap lo hi none).run P w = .ok (l.toNat, h.toNat, cap) w := by
    have eh : (h.toNat : Int) = h := Int.toNat_of_nonneg (by omega)
    have h3 : 0 ≤ h := by omega
    rcases hlo with ⟨rfl, rfl⟩ | ⟨k, rfl⟩ <;> rcases hhi with ⟨rfl, rfl⟩ | ⟨k', rfl⟩ <;> simp [Instr.sliceBounds, run_sliceBound, *]
  simp only [Instr.sliceAt, Sem.run_bind, run_underlying hd, Result.andThen_ok, Instr.slice, hb, hs, Sem.run_pure]

theorem cutA_sound {P T G φ σ w t x lo hi clo chi cx v} (hT : TOk P T) (hR : R0 G φ σ w) (hx : VRel φ (own0 φ σ) w x cx)
    (hlo : (lo = none ∧ clo = none) ∨ ∃ y cy, lo = some y ∧ clo = some cy ∧ VRel φ (own0 φ σ) w y cy) (hhi : (hi = none ∧ chi = none) ∨ ∃ y cy, hi = some y ∧ chi = some cy ∧ VRel φ (own0 φ σ) w y cy)
    (h : cutA T σ t x lo hi = some v) : ∃ cv, (Instr.sliceAt t cx clo chi none).run P w = .ok cv w ∧ VRel φ (own0 φ σ) w v cv := by
  unfold cutA at h
  have low : ∀ l, lowA lo = some l → clo = none ∧ l = 0 ∨ ∃ k, clo = some (.int k l) := by
    intro l hl
    rcases hlo with ⟨rfl, rfl⟩ | ⟨y, cy, rfl, rfl, hy⟩
    · left; exact ⟨rfl, by simpa [lowA] using hl.symm⟩
    · right
      cases hy <;> simp [lowA] at hl
      subst hl
      exact ⟨_, rfl⟩
  have high : ∀ (n : Nat) h, highA n hi = some h → chi = none ∧ h = n ∨ ∃ k, chi = some (.int k h) := by
    intro n h hh
    rcases hhi with ⟨rfl, rfl⟩ | ⟨y, cy, rfl, rfl, hy⟩
    · left; exact ⟨rfl, by simpa [highA] using hh.symm⟩
    · right
      cases hy <;> simp [highA] at hh
      subst hh
      exact ⟨_, rfl⟩
  split at h
  · rename_i e o r n hk
    cases hl : lowA lo with
    | none => simp [hl] at h
    | some l =>
    obtain ⟨d, hd, hdk⟩ := hT.under hk
    cases d <;> simp [tkOf] at hdk
    subst hdk
    rename_i e
    cases hh : highA n hi with
    | none => simp [hl, hh] at h
    | some hv =>
    cases ho : σ.objs o with
    | none => simp [hl, hh, ho] at h
    | some ob =>
    cases he : T e with
    | none => simp [hl, hh, ho, he] at h
    | some ti =>
    simp only [hl, hh, ho, he, Option.bind_some] at h
    split at h
    case isFalse => cases h
    rename_i hc
    obtain ⟨c1, c2, c3, c4⟩ := hc
    cases h
    have hlo' := low l hl
    have hhi' := high n hv hh
    cases hx with
    | @sl0 _ _ _ a0 hφ0 =>
      have e1 : l = 0 := by omega
      have e2 : hv = 0 := by omega
      subst e1; subst e2
      refine ⟨_, run_cut w t e ti.sz hd (hT.size he) a0 0 0 clo chi 0 0 hlo' (by simpa using hhi') (Int.le_refl _) (Int.le_refl _) (by simp), ?_⟩
      exact .sl0 hφ0
    | @sl1 _ r _ _ cap a0 hφ0 =>
      have e1 : l = 0 := by omega
      have e2 : hv = 0 := by omega
      subst e1; subst e2
      refine ⟨_, run_cut w t e ti.sz hd (hT.size he) a0 0 cap clo chi 0 0 hlo' (by simpa using hhi') (Int.le_refl _) (Int.le_refl _) (by simp), ?_⟩
      exact .sl1 hφ0
    | sl hφ hsz hn hcm hw hle =>
      rename_i b sz cap T' arr
      have hob := hR.obj o ob ho
      rw [hφ] at hob
      obtain ⟨rfl, _⟩ := hob.get hsz
      by_cases c5 : l < n ∨ l = 0
      case neg =>
        have e1 : hv.toNat - l.toNat = 0 := by omega
        obtain ⟨q, hq⟩ : ∃ q, r + l.toNat = q + 1 := ⟨r + l.toNat - 1, by omega⟩
        refine ⟨_, run_cut w t e ti.sz hd (hT.size he) _ n cap clo chi l hv hlo' hhi' c2 c3 (by omega), ?_⟩
        rw [e1, hq]
        exact .sl1 hφ
      refine ⟨_, run_cut w t e ti.sz hd (hT.size he) _ n cap clo chi l hv hlo' hhi' c2 c3 (by omega), ?_⟩
      have hadd : (if cap = l.toNat then some (⟨b, r * ob.sz, none⟩ : Addr) else (some (⟨b, r * ob.sz, none⟩ : Addr)).map (·.add (l.toNat * ti.sz))) = some ⟨b, (r + l.toNat) * ob.sz, none⟩ := by
        by_cases e : cap = l.toNat
        · rw [if_pos e]
          have : l.toNat = 0 := by omega
          rw [this, Nat.add_zero]
        · rw [if_neg e]
          simp only [Option.map_some, Addr.add_lit, ← c1, Nat.add_mul]
      rw [hadd]
      refine .sl hφ hsz (by omega) (by omega) hw ?_
      rw [← hle]
      congr 1
      omega
  · rename_i e es hk
    cases hl : lowA lo with
    | none => simp [hl] at h
    | some l =>
    obtain ⟨d, hd, hdk⟩ := hT.under hk
    cases d <;> simp [tkOf] at hdk
    subst hdk
    rename_i e
    cases hh : highA es.length hi with
    | none => simp [hl, hh] at h
    | some hv =>
    cases he : T e with
    | none => simp [hl, hh, he] at h
    | some ti =>
    simp only [hl, hh, he, Option.bind_some] at h
    split at h
    case isFalse => cases h
    rename_i hc
    obtain ⟨c1, c2, c3, c4⟩ := hc
    cases h
    have hlo' := low l hl
    have hhi' := high es.length hv hh
    simp only [List.all_eq_true, beq_iff_eq] at c1
    cases hx with
    | fsl0 =>
      simp only [List.length_nil] at c4 hhi'
      have e1 : l = 0 := by omega
      have e2 : hv = 0 := by omega
      subst e1; subst e2
      refine ⟨_, run_cut w t e ti.sz hd (hT.size he) _ 0 _ clo chi 0 0 hlo' (by simpa using hhi') (Int.le_refl _) (Int.le_refl _) (by omega), ?_⟩
      simp
      exact .fsl0
    | fsl vs hone hn hb hno hsz hcap hm hlen hcell hv' =>
      rename_i n b off cap sz
      subst hn
      refine ⟨_, run_cut w t e ti.sz hd (hT.size he) _ es.length cap clo chi l hv hlo' hhi' c2 c3 (by omega), ?_⟩
      have hlen2 : ((es.take hv.toNat).drop l.toNat).length = hv.toNat - l.toNat := by simp; omega
      by_cases hemp : hv.toNat - l.toNat = 0
      · have : (es.take hv.toNat).drop l.toNat = [] := List.eq_nil_of_length_eq_zero (by omega)
        rw [this, hemp]
        exact .fsl0
      · have hne : ¬ cap = l.toNat := by omega
        have he0 : es ≠ [] := by rintro rfl; simp at c4; omega
        have hszti : sz = ti.sz := by
          cases es with
          | nil => exact absurd rfl he0
          | cons x xs => exact (hlen 0 x rfl).symm.trans (c1 x (by simp))
        rw [if_neg hne]
        simp only [Option.map_some, Addr.add_lit]
        have get : ∀ (j : Nat) (row : List AV), ((es.take hv.toNat).drop l.toNat)[j]? = some row → es[l.toNat + j]? = some row := by
          intro j row hj
          rw [List.getElem?_drop, List.getElem?_take] at hj
          split at hj
          · exact hj
          · cases hj
        refine VRel.fsl (sz := sz) (fun j i => vs (l.toNat + j) i) (fun row hrow => hone row (List.mem_of_mem_take (List.mem_of_mem_drop hrow))) hlen2 hb hno hsz (by omega) (by omega) (fun j row hj => hlen _ row (get j row hj)) (fun j row hj i x hx => ?_) (fun j row hj i x hx => hv' _ row (get j row hj) i x hx)
        rw [← hcell _ row (get j row hj) i x hx, ← hszti]
        congr 2
        rw [Nat.add_mul]; omega
  · cases h

end Go.Abs
