/- Stores, slice literals, cuts and append. -/
import Derived.Test.YtoklfbdcghgmlaaNAbs5
set_option linter.unusedSimpArgs false
set_option linter.unusedVariables false
namespace Go.Abs
open Go Go.RowKit

theorem splice_get {α : Type} (l vs : List α) (o : Nat) (h : o + vs.length ≤ l.length) (j : Nat) :
    (l.take o ++ vs ++ l.drop (o + vs.length))[j]? = if o ≤ j ∧ j < o + vs.length then vs[j - o]? else l[j]? := by
  have hmin : min o l.length = o := by omega
  by_cases h1 : j < o
  · rw [if_neg (by omega), List.append_assoc, List.getElem?_append_left (by simp; omega), List.getElem?_take, if_pos h1]
  · by_cases h2 : j < o + vs.length
    · rw [if_pos ⟨by omega, h2⟩, List.append_assoc, List.getElem?_append_right (by simp; omega), List.length_take, hmin, List.getElem?_append_left (by omega)]
    · rw [if_neg (by omega), List.getElem?_append_right (by simp; omega), List.length_append, List.length_take, hmin, List.getElem?_drop]
      congr 1
      omega

def splice (row : List AV) (i : Nat) (cs : List AV) : List AV := row.take i ++ cs ++ row.drop (i + cs.length)

theorem splice_len (row : List AV) (i : Nat) (cs : List AV) (h : i + cs.length ≤ row.length) : (splice row i cs).length = row.length := by
  simp [splice]; omega

theorem idx_lt {r r' sz i j : Nat} (h : r < r') (hi : i < sz) : r * sz + i < r' * sz + j := by
  have : (r + 1) * sz ≤ r' * sz := Nat.mul_le_mul_right _ h
  rw [Nat.add_mul] at this
  omega

theorem oneCell_of {φ ow} {w : World} {x : AV} {v : Value} (h : VRel φ ow w x v) (h1 : x.one = true) : v.oneCell' = true := by
  cases h <;> first | rfl | assumption | (simp [AV.one] at h1)

/-- Rows behind a store into one of them. -/
theorem Rows.store {φ ow} {w : World} {sz : Nat} {rows : List (List AV)} {arr : Array Value} (h : Rows φ ow w sz rows arr) (hlen : rows.length * sz ≤ arr.size) {r : Nat} {row : List AV} (hr : rows[r]? = some row)
    {i : Nat} {cs : List AV} {vs : List Value} (hl : cs.length = vs.length) (hv : ∀ (j : Nat) (x : AV) (u : Value), cs[j]? = some x → vs[j]? = some u → VRel φ ow w x u) (h1 : ∀ x ∈ cs, x.one = true)
    (hi : i + cs.length ≤ row.length) :
    Rows φ ow w sz (rows.set r (splice row i cs)) (arr.toList.take (r * sz + i) ++ vs ++ arr.toList.drop (r * sz + i + vs.length)).toArray ∧ r * sz + i + vs.length ≤ arr.size := by
  have hrl : r < rows.length := (List.getElem?_eq_some_iff.1 hr).1
  have hrow := (h r row hr).1
  have hle : (r + 1) * sz ≤ rows.length * sz := Nat.mul_le_mul_right _ hrl
  rw [Nat.add_mul] at hle
  have hfit : r * sz + i + vs.length ≤ arr.size := by omega
  refine ⟨fun r' e he => ?_, hfit⟩
  have get : ∀ k, (arr.toList.take (r * sz + i) ++ vs ++ arr.toList.drop (r * sz + i + vs.length)).toArray[k]? = if r * sz + i ≤ k ∧ k < r * sz + i + vs.length then vs[k - (r * sz + i)]? else arr[k]? := by
    intro k
    have := splice_get arr.toList vs (r * sz + i) (by simpa using hfit) k
    simpa using this
  rw [List.getElem?_set] at he
  split at he
  · rename_i e1
    subst e1
    cases he
    refine ⟨by rw [splice_len _ _ _ hi]; exact hrow, fun j x hx => ?_⟩
    rw [splice, splice_get row cs i hi] at hx
    rw [get]
    split at hx
    · rename_i hj
      rw [if_pos (by omega), show r * sz + j - (r * sz + i) = j - i by omega]
      have hjl : j - i < vs.length := by omega
      refine ⟨h1 x (List.mem_of_getElem? hx), vs[j - i], by simp [hjl], hv (j - i) x _ hx (by simp [hjl])⟩
    · rename_i hj
      rw [if_neg (by omega)]
      exact (h r row hr).2 j x hx
  · rename_i hne
    obtain ⟨h2, h3⟩ := h r' e he
    refine ⟨h2, fun j x hx => ?_⟩
    have hj : j < sz := by rw [← h2]; exact (List.getElem?_eq_some_iff.1 hx).1
    rw [get, if_neg]
    · exact h3 j x hx
    · rcases Nat.lt_or_gt_of_ne hne with hlt | hgt
      · have := idx_lt (j := j) hlt (show i + cs.length - 1 < sz + 1 by omega)
        have h4 : (r + 1) * sz ≤ r' * sz := Nat.mul_le_mul_right _ hlt
        rw [Nat.add_mul] at h4
        omega
      · have := idx_lt (j := i) hgt hj
        omega

def storeA (T : Types) (t : TypeId) (x v : AV) (σ : AHeap) : Option AHeap :=
  match T t, x with
  | some ti, .ptr o r i => (σ.objs o).bind fun ob => (ob.rows[r]?).bind fun row =>
      if v.cells.length = ti.sz ∧ allOne v.cells = true ∧ i + v.cells.length ≤ row.length then some (σ.put o ⟨ob.ty, ob.sz, ob.rows.set r (splice row i v.cells)⟩) else none
  | _, _ => none

theorem storeA_sound {P T G φ σ w t x v σ' cx cv} (N : Nat → Prop) (hT : TOk P T) (hR : R0 G φ σ w) (hx : VRel φ (own0 φ σ) w x cx) (hv : VRel φ (own0 φ σ) w v cv) (h : storeA T t x v σ = some σ') :
    ∃ w', (Instr.storeAt t cx cv).run P w = .ok () w' ∧ R0 G φ σ' w' ∧ Ext0 N φ σ w φ σ' w' := by
  unfold storeA at h
  split at h
  · rename_i ti o r i ht
    cases ho : σ.objs o with
    | none => simp [ho] at h
    | some ob =>
    cases hr : ob.rows[r]? with
    | none => simp [ho, hr] at h
    | some row =>
    simp only [ho, hr, Option.bind_some] at h
    split at h
    · rename_i hc
      cases h
      obtain ⟨h1, h2⟩ := cells_rel hv hc.2.1
      cases hx with
      | ptr hφ =>
        rename_i b sz
        have hob := hR.obj o ob ho
        rw [hφ] at hob
        have h0 : 0 < sz := by
          rcases Nat.eq_zero_or_pos sz with e | e
          · obtain ⟨b', sz', e1, h2', _⟩ := hob
            cases e1
            rw [h2' e] at hr
            simp at hr
          · exact e
        obtain ⟨rfl, h0, arr, hw, hle, hrows⟩ := hob.get h0
        have hone : ∀ y ∈ v.cells, y.one = true := by have := hc.2.1; simpa [allOne] using this
        obtain ⟨h3, h4⟩ := Rows.store (vs := cv.cells.toList) hrows hle hr (by simpa using h1) (fun j y u hy hu => h2 j y u hy (by simpa using hu)) hone hc.2.2
        have hone' : ∀ u ∈ cv.cells.toList, u.oneCell' = true := by
          intro u hu
          obtain ⟨j, hj, rfl⟩ := List.getElem_of_mem hu
          have hj' : j < v.cells.length := by rw [h1]; simpa using hj
          have e : v.cells[j]? = some v.cells[j] := by simp [hj']
          exact oneCell_of (h2 j _ _ e (by simp [show j < cv.cells.size by simpa using hj])) (hone _ (List.getElem_mem hj'))
        have hst := run_storeCells_at P b (r * ob.sz + i) ob.ty cv.cells.toList 0 arr w hw (by simpa using h4) hone'
        simp only [Nat.add_zero] at hst
        have hsz : cv.cells.size = ti.sz := by rw [← h1]; exact hc.1
        have hm := hR.write (w' := w.setRow b (arr.toList.take (r * ob.sz + i) ++ cv.cells.toList ++ arr.toList.drop (r * ob.sz + i + cv.cells.toList.length)).toArray) (arr := _) (rows := ob.rows.set r (splice row i v.cells))
          N ho hφ h0 rfl rfl rfl (by simp [World.setRow]) (fun k hk => setRow_other w b k _ hk) (setRow_heap w b arr _ ob.ty _ hw)
          (fun old T' fz hold => by rw [hw] at hold; cases hold; simp; simp at h4; omega) (by simp; simp at h4; omega) h3
        refine ⟨_, ?_, hm.1, hm.2⟩
        simp only [Instr.storeAt, Instr.sureAddr, Sem.run_bind, Sem.run_pure, Result.andThen_ok, storeVar, hT.size ht, hsz, ne_eq, not_true, if_false, hst]
    · cases h
  · cases h

theorem ORel.monoW {N φ σ w φ' σ' x ob} (h : ORel φ (own0 φ σ) w x ob) (he : Ext0 N φ σ w φ' σ' w) : ORel φ' (own0 φ' σ') w x ob := by
  obtain ⟨b, sz, h1, h2, h3⟩ := h
  refine ⟨b, sz, h1, h2, fun h0 => ?_⟩
  obtain ⟨c1, c2, arr, c3, c4, c5⟩ := h3 h0
  exact ⟨c1, c2, arr, c3, c4, Rows.mono he c5⟩

/-- what an object's name is, is given over to another -/
theorem R0.rename {G φ σ w o id ob} (hR : R0 G φ σ w) (ho : σ.objs o = some ob) (hid : id < σ.next) (hn : σ.objs id = none) (hφ : φ id = none) :
    R0 G (fun k => if k = id then φ o else φ k) ((σ.kill o).put id ob) w ∧ Ext0 (· ≠ id) φ σ w (fun k => if k = id then φ o else φ k) ((σ.kill o).put id ob) w := by
  have hne : o ≠ id := by rintro rfl; rw [hn] at ho; cases ho
  have hob : ∀ k x, ((σ.kill o).put id ob).objs k = some x → (k = id ∧ x = ob) ∨ (k ≠ id ∧ k ≠ o ∧ σ.objs k = some x) := by
    intro k x h
    simp only [AHeap.put, AHeap.kill] at h
    split at h
    · left; rename_i e; exact ⟨e, (Option.some.inj h).symm⟩
    · split at h
      · cases h
      · right; exact ⟨by assumption, by assumption, h⟩
  have he : Ext0 (· ≠ id) φ σ w (fun k => if k = id then φ o else φ k) ((σ.kill o).put id ob) w := by
    refine ⟨fun k hk => ⟨by have hk' : k ≠ id := hk; simp [hk'], fun h => ?_⟩, fun k x hx => ?_, Fr.refl _ _, fun b hb => ?_, Nat.le_refl _⟩
    · simp only [AHeap.put, AHeap.kill]
      rw [if_neg hk]
      split <;> simp_all
    · have : k ≠ id := by rintro rfl; rw [hφ] at hx; cases hx
      simp [this, hx]
    · obtain ⟨k, x, s, h1, h2, h6⟩ := hb
      left
      rcases hob k x h1 with ⟨rfl, rfl⟩ | ⟨h3, h4, h5⟩
      · exact ⟨o, x, s, ho, by simpa using h2, h6⟩
      · exact ⟨k, x, s, h5, by simpa [h3] using h2, h6⟩
  refine ⟨hR.next he (fun k hk => ?_) (fun k k' b s s' x x' h1 h2 h3 h4 p1 p2 => ?_) (fun k x h => ?_), he⟩
  · have hk' : σ.next ≤ k := hk
    have : k ≠ id := by omega
    have h := hR.ids k hk'
    refine ⟨?_, by simp [this, h.2]⟩
    simp only [AHeap.put, AHeap.kill]
    rw [if_neg this]
    split <;> simp_all
  · rcases hob k x h1 with ⟨rfl, rfl⟩ | ⟨a1, a2, a3⟩ <;> rcases hob k' x' h2 with ⟨rfl, rfl⟩ | ⟨b1, b2, b3⟩
    · rfl
    · exact absurd (hR.inj o k' b s s' _ _ ho b3 (by simpa using h3) (by simpa [b1] using h4) p1 p2).symm b2
    · exact absurd (hR.inj k o b s s' _ _ a3 ho (by simpa [a1] using h3) (by simpa using h4) p1 p2) a2
    · exact hR.inj k k' b s s' _ _ a3 b3 (by simpa [a1] using h3) (by simpa [b1] using h4) p1 p2
  · rcases hob k x h with ⟨rfl, rfl⟩ | ⟨a1, a2, a3⟩
    · left
      have := hR.obj o x ho
      simp only [if_true]
      exact this.monoW he
    · right
      exact ⟨a3, by simp [a1], fun _ _ _ _ => rfl⟩

end Go.Abs
