/- Slice literals, struct literals, make, cuts: the machine's side. -/
import Derived.Test.YtoklfbdcghgmlaaNAbs8
set_option linter.unusedSimpArgs false
set_option linter.unusedVariables false
namespace Go.Abs
open Go Go.RowKit

def zerosArr (z : Array Value) (n : Nat) : Array Value := (Array.range n).map (z[· % z.size]!)

theorem Rows.zeros {φ ow} {w : World} {zs : List AV} {z : Array Value} (hl : zs.length = z.size) (h0 : 0 < z.size) (hv : ∀ (i : Nat) (x : AV) (u : Value), zs[i]? = some x → z[i]? = some u → VRel φ ow w x u) (h1 : ∀ x ∈ zs, x.one = true) (n : Nat) :
    Rows φ ow w z.size (List.replicate n zs) (zerosArr z (n * z.size)) := by
  intro r e hr
  have hrl : r < n := by have := (List.getElem?_eq_some_iff.1 hr).1; simpa using this
  have he : e = zs := by have := List.mem_of_getElem? hr; exact (List.mem_replicate.1 this).2
  subst he
  refine ⟨hl, fun i x hx => ⟨h1 x (List.mem_of_getElem? hx), ?_⟩⟩
  have hi : i < z.size := by rw [← hl]; exact (List.getElem?_eq_some_iff.1 hx).1
  have hlt : r * z.size + i < n * z.size := idx_lt (j := 0) hrl hi
  have hmod : (r * z.size + i) % z.size = i := by rw [Nat.add_comm, Nat.add_mul_mod_self_right, Nat.mod_eq_of_lt hi]
  have e1 : z[i]? = some z[i] := by simp [hi]
  refine ⟨z[i], ?_, hv i x _ hx e1⟩
  simp [zerosArr, hlt, hmod, hi]

theorem setAll_get (vs : List Value) : ∀ (k off : Nat) (arr : Array Value), off + k + vs.length ≤ arr.size →
    ((vs.zipIdx k).foldl (fun (cs : Array Value) p => cs.setIfInBounds (off + p.2) p.1) arr).toList = arr.toList.take (off + k) ++ vs ++ arr.toList.drop (off + k + vs.length) := by
  induction vs with
  | nil => intro k off arr h; simp
  | cons v vs ih =>
    intro k off arr h
    simp only [List.length_cons] at h
    simp only [List.zipIdx_cons, List.foldl_cons]
    rw [ih (k + 1) off _ (by simp; omega)]
    apply List.ext_getElem?
    intro j
    have h2 : off + (k + 1) + vs.length ≤ (arr.setIfInBounds (off + k) v).toList.length := by simp; omega
    rw [splice_get _ vs (off + (k + 1)) h2 j]
    have h3 : off + k + (v :: vs).length ≤ arr.toList.length := by simp; omega
    rw [splice_get arr.toList (v :: vs) (off + k) h3 j]
    simp only [List.length_cons, Array.toList_setIfInBounds]
    by_cases h4 : off + (k + 1) ≤ j ∧ j < off + (k + 1) + vs.length
    · rw [if_pos h4, if_pos (by omega), show j - (off + k) = (j - (off + (k + 1))) + 1 by omega, List.getElem?_cons_succ]
    · rw [if_neg h4]
      by_cases h5 : j = off + k
      · subst h5
        rw [if_pos (by omega), List.getElem?_set_self (by simp; omega)]
        simp
      · rw [if_neg (by omega), List.getElem?_set_ne (by omega)]

def setAll (off : Nat) (vs : Array Value) (arr : Array Value) : Array Value := vs.zipIdx.foldl (fun cs (p : Value × Nat) => cs.setIfInBounds (off + p.2) p.1) arr

theorem setAll_eq (off : Nat) (vs arr : Array Value) (h : off + vs.size ≤ arr.size) : setAll off vs arr = (arr.toList.take off ++ vs.toList ++ arr.toList.drop (off + vs.size)).toArray := by
  have := setAll_get vs.toList 0 off arr (by simpa using h)
  simp only [Nat.add_zero, Array.length_toList] at this
  apply Array.ext'
  rw [← this]
  unfold setAll
  rw [← Array.foldl_toList, Array.toList_zipIdx]

theorem fill_cons (place : Nat → Option (Nat × Nat)) (cells : Array Value) (i : Nat) (v : Value) (rest : List (Nat × Value)) (off : Nat) (hp : place i = some (off, v.cells.size)) (h : off + v.cells.size ≤ cells.size) :
    Instr.fill place cells ((i, v) :: rest) = Instr.fill place (setAll off v.cells cells) rest := by
  simp only [Instr.fill, hp]
  rw [if_neg]
  · rfl
  · simp; omega

/-- the rows of a slice literal -/
def buildRows (rows : List (List AV)) (parts : List (Nat × List AV)) : List (List AV) := parts.foldl (fun rows p => rows.set p.1 p.2) rows

theorem fill_rows {φ ow} {w : World} {sz : Nat} : ∀ (parts : List (Nat × AV)) (cparts : List (Nat × Value)), parts.length = cparts.length →
    (∀ (k : Nat) (p : Nat × AV) (q : Nat × Value), parts[k]? = some p → cparts[k]? = some q → p.1 = q.1 ∧ VRel φ ow w p.2 q.2) →
    ∀ (rows : List (List AV)) (arr : Array Value), Rows φ ow w sz rows arr → rows.length * sz = arr.size → (∀ p ∈ parts, p.1 < rows.length ∧ p.2.cells.length = sz ∧ allOne p.2.cells = true) →
    ∃ arr', Instr.fill (fun i => some (i * sz, sz)) arr cparts = some arr' ∧ arr'.size = arr.size ∧ Rows φ ow w sz (buildRows rows (parts.map fun p => (p.1, p.2.cells))) arr' := by
  intro parts
  induction parts with
  | nil =>
    intro cparts hl _ rows arr h hs _
    have : cparts = [] := List.eq_nil_of_length_eq_zero (by simpa using hl.symm)
    subst this
    exact ⟨arr, rfl, rfl, h⟩
  | cons p parts ih =>
    intro cparts hl hrel rows arr h hs hok
    cases cparts with
    | nil => simp at hl
    | cons q cparts =>
      obtain ⟨i, v⟩ := q
      obtain ⟨i', x⟩ := p
      obtain ⟨h1, h2⟩ := hrel 0 (i', x) (i, v) rfl rfl
      simp only at h1 h2
      subst h1
      obtain ⟨h3, h4, h5⟩ := hok (i', x) (by simp)
      simp only at h3 h4 h5
      obtain ⟨h6, h7⟩ := cells_rel h2 h5
      have hrow : rows[i']? = some rows[i'] := by simp [h3]
      have hrl := (h i' _ hrow).1
      obtain ⟨g1, g2⟩ := Rows.store (vs := v.cells.toList) (i := 0) h (by omega) hrow (by simpa using h6) (fun j y u hy hu => h7 j y u hy (by simpa using hu)) (by simpa [allOne] using h5) (by omega)
      have hsp : splice rows[i'] 0 x.cells = x.cells := by
        simp only [splice, List.take_zero, List.nil_append, Nat.zero_add]
        rw [List.drop_eq_nil_of_le (by omega), List.append_nil]
      rw [hsp] at g1
      simp only [Nat.add_zero, Array.length_toList] at g1 g2
      have hsz : v.cells.size = sz := by omega
      rw [← setAll_eq (i' * sz) v.cells arr g2] at g1
      have hss : (setAll (i' * sz) v.cells arr).size = arr.size := by rw [setAll_eq _ _ _ g2]; simp; omega
      obtain ⟨arr', g3, g4, g5⟩ := ih cparts (by simpa using hl) (fun k p q hp hq => hrel (k + 1) p q (by simpa using hp) (by simpa using hq)) _ _ g1 (by simp; omega) (fun p hp => by simpa using hok p (by simp [hp]))
      exact ⟨arr', by rw [fill_cons _ _ _ _ _ (i' * sz) (by rw [hsz]) g2]; exact g3, by omega, g5⟩

def buildSliceA (T : Types) (t : TypeId) (alt : Bool) (id len : Nat) (parts : List (Nat × AV)) (σ : AHeap) : Option (AV × AHeap) :=
  match T.kind t with
  | some (.slice e) => (T e).bind fun ti =>
    if 0 < ti.sz ∧ len * ti.sz ≤ 16777216 ∧ parts.all (fun p => decide (p.1 < len) && (p.2.cells.length == ti.sz) && allOne p.2.cells) = true then
      (if alt then some (if len = 0 then .esl else .fsl (buildRows (List.replicate len ti.wz) (parts.map fun p => (p.1, p.2.cells))), σ)
       else some (.sl id 0 len, σ.put id ⟨e, ti.sz, buildRows (List.replicate len ti.wz) (parts.map fun p => (p.1, p.2.cells))⟩)) else none
  | _ => none

theorem buildRows_len (rows : List (List AV)) (parts : List (Nat × List AV)) : (buildRows rows parts).length = rows.length := by
  unfold buildRows
  induction parts generalizing rows with
  | nil => rfl
  | cons p parts ih => simp only [List.foldl_cons]; rw [ih]; simp

/-- a new row of a slice, frozen or owned -/
theorem newRow_sound {G φ σ w alt id e sz n arr rows} (hR : R0 G φ σ w) (hid : id < σ.next) (ho : σ.objs id = none) (hφ : φ id = none) (h0 : 0 < sz) (hn : rows.length = n) (hm : n ≤ maxLen) (hs : arr.size = n * sz)
    (hrows : Rows φ (own0 φ σ) w sz rows arr) :
    HPost0 G id φ σ w (if alt = true then AV.fsl rows else .sl id 0 n) (if alt = true then σ else σ.put id ⟨e, sz, rows⟩) (.slice (some ⟨w.heap.size, 0, none⟩) n n) (w.alloc (.cells arr e)) := by
  have hold : ∀ b, b < w.heap.size → (w.alloc (.cells arr e)).heap[b]? = w.heap[b]? := fun b hb => heap_alloc_old w _ b hb
  have hnew : (w.alloc (.cells arr e)).heap[w.heap.size]? = some (.cells arr e (0, 0)) := heap_alloc_new w _
  cases alt with
  | true =>
    simp only [if_true]
    obtain ⟨h1, h2⟩ := hR.frozen (w' := w.alloc (.cells arr e)) (· ≠ id) rfl rfl rfl (by simp) hold
    refine ⟨φ, h1, h2, ?_⟩
    have hr' := Rows.mono h2 hrows
    refine VRel.fsl (off := 0) (sz := sz) (fun j i => arr.getD (j * sz + i) undef) (fun row hrow x hx => ?_) hn (by simp) (fun h => by have := hR.fresh h; omega) h0 (Nat.le_refl _) hm (fun j row hj => (hr' j row hj).1) (fun j row hj i x hx => ?_) (fun j row hj i x hx => ?_)
    · obtain ⟨j, hj, rfl⟩ := List.getElem_of_mem hrow
      obtain ⟨i, hi, rfl⟩ := List.getElem_of_mem hx
      exact ((hr' j rows[j] (List.getElem?_eq_getElem hj)).2 i rows[j][i] (List.getElem?_eq_getElem hi)).1
    · obtain ⟨_, v, h3, _⟩ := (hr' j row hj).2 i x hx
      rw [cell_of_heap hnew, Nat.zero_add, h3, Array.getD_eq_getD_getElem?, h3]; rfl
    · obtain ⟨_, v, h3, h4⟩ := (hr' j row hj).2 i x hx
      rw [Array.getD_eq_getD_getElem?, h3]; exact h4
  | false =>
    simp only [Bool.false_eq_true, if_false]
    obtain ⟨h1, h2⟩ := hR.new (w' := w.alloc (.cells arr e)) (ty := e) (sz := sz) (rows := rows) (arr := arr) hid ho hφ h0 rfl rfl rfl (by simp) hold hnew (by rw [hn, hs]; exact Nat.le_refl _) hrows
    refine ⟨_, h1, h2, ?_⟩
    have := VRel.sl (φ := setφ φ id (w.heap.size, sz)) (ow := own0 (setφ φ id (w.heap.size, sz)) (σ.put id ⟨e, sz, rows⟩)) (o := id) (r := 0) (n := n) (b := w.heap.size) (sz := sz) (by simp [setφ]) h0 (Nat.le_refl _) hm hnew (by rw [hs, Nat.zero_add])
    simpa using this

theorem buildSliceA_sound {P T G φ σ w t alt id len parts cparts v σ'} (hT : TOk P T) (hR : R0 G φ σ w) (hid : id < σ.next) (ho : σ.objs id = none) (hφ : φ id = none) (hl : parts.length = cparts.size)
    (hp : ∀ (k : Nat) (p : Nat × AV) (q : Nat × Value), parts[k]? = some p → cparts[k]? = some q → p.1 = q.1 ∧ VRel φ (own0 φ σ) w p.2 q.2)
    (h : buildSliceA T t alt id len parts σ = some (v, σ')) : ∃ cv w', (Instr.buildSlice t len cparts).run P w = .ok cv w' ∧ HPost0 G id φ σ w v σ' cv w' := by
  unfold buildSliceA at h
  split at h
  case h_2 => cases h
  rename_i e hk
  obtain ⟨d, hd, hdk⟩ := hT.under hk
  cases d <;> simp [tkOf] at hdk
  subst hdk
  rename_i e
  cases he : T e with
  | none => simp [he] at h
  | some ti =>
  simp only [he, Option.bind_some] at h
  split at h
  case isFalse => cases h
  rename_i hc
  obtain ⟨h0, hbig, hall⟩ := hc
  obtain ⟨z, hz1, hz2, hz3, hz4⟩ := wzero_rel (P := P) (φ := φ) (ow := own0 φ σ) (w := w) hT he
  have hzl : ti.wz.length = ti.sz := ti.wz_len.trans (hT e ti he).2.2.2.1
  have hzs : z.cells.size = ti.sz := hz2.symm.trans hzl
  simp only [List.all_eq_true, Bool.and_eq_true, decide_eq_true_eq, beq_iff_eq] at hall
  have hrows0 : Rows φ (own0 φ σ) w ti.sz (List.replicate len ti.wz) (zerosArr z.cells (len * ti.sz)) := by
    have := Rows.zeros hz2 (by omega) hz3 hz4 len
    rwa [hzs] at this
  obtain ⟨arr', g1, g2, g3⟩ := fill_rows parts cparts.toList (by simpa using hl) (fun k p q hp' hq => hp k p q hp' (by simpa using hq)) _ _ hrows0 (by simp [zerosArr]) (fun p hp' => by
    obtain ⟨⟨h1, h2⟩, h3⟩ := hall p hp'
    exact ⟨by simpa using h1, h2, h3⟩)
  have hsize : arr'.size = len * ti.sz := by rw [g2]; simp [zerosArr]
  have hrun : (Instr.buildSlice t len cparts).run P w = .ok (.slice (some ⟨w.heap.size, 0, none⟩) len len) (w.alloc (.cells arr' e)) := by
    by_cases hlen : len * ti.sz = 0
    · have hz0 : (Array.range (len * ti.sz)).map (fun x => (#[] : Array Value)[x % 0]!) = zerosArr z.cells (len * ti.sz) := by
        rw [hlen]; simp [zerosArr, Array.range_zero']
      have hz0' : (Array.range (len * ti.sz)).map (fun x => (#[] : Array Value)[x % (#[] : Array Value).size]!) = zerosArr z.cells (len * ti.sz) := hz0
      simp only [Instr.buildSlice, Sem.run_bind, run_underlying hd, Result.andThen_ok, hT.size he]
      rw [if_neg (by omega), if_pos hlen]
      simp only [Sem.run_bind, Sem.run_pure, Result.andThen_ok, hz0', g1, newRow]
      simp
    · simp only [Instr.buildSlice, Sem.run_bind, run_underlying hd, Result.andThen_ok, hT.size he]
      rw [if_neg (by omega), if_neg hlen]
      have hz0 : (Array.range (len * ti.sz)).map (fun x => z.cells[x % z.cells.size]!) = zerosArr z.cells (len * ti.sz) := rfl
      simp only [Sem.run_bind, Sem.run_pure, Result.andThen_ok, hz1, hz0, g1, newRow]
      simp
  have hfin := newRow_sound (alt := alt) (e := e) (rows := buildRows (List.replicate len ti.wz) (parts.map fun p => (p.1, p.2.cells))) hR hid ho hφ h0 (by rw [buildRows_len]; simp) (n := len) (by simp only [maxLen]; have : len * 1 ≤ len * ti.sz := Nat.mul_le_mul_left _ h0; omega) hsize g3
  refine ⟨_, _, hrun, ?_⟩
  cases alt with
  | true =>
    simp only [if_true] at h hfin
    obtain ⟨rfl, rfl⟩ : v = (if len = 0 then .esl else .fsl (buildRows (List.replicate len ti.wz) (parts.map fun p => (p.1, p.2.cells)))) ∧ σ' = σ := by
      have := Option.some.inj h; exact ⟨(congrArg Prod.fst this).symm, (congrArg Prod.snd this).symm⟩
    split
    · rename_i hl0
      subst hl0
      obtain ⟨φ', q1, q2, _⟩ := hfin
      exact ⟨φ', q1, q2, .esl⟩
    · exact hfin
  | false =>
    simp only [Bool.false_eq_true, if_false] at h hfin
    obtain ⟨rfl, rfl⟩ : v = _ ∧ σ' = _ := by have := Option.some.inj h; exact ⟨(congrArg Prod.fst this).symm, (congrArg Prod.snd this).symm⟩
    exact hfin

end Go.Abs
