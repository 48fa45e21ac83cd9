/- laws.FnQuadInstrsColors' mirror: true for each code. -/
import Derived.Test.YtoklfbdcghgmlaaDoorLaw5
set_option linter.unusedSimpArgs false
set_option linter.unusedVariables false
set_option maxHeartbeats 8000000
namespace Go.Abs
open Go

theorem w1_le (x : Int) {c d : Int} (h : c ≤ d) : w1 x d ≤ w1 x c := by
  unfold w1
  by_cases h1 : ilt x c = true
  · have h2 : ilt x d = true := by rw [ilt_iff] at *; omega
    rw [if_pos h1, if_pos h2]; exact Nat.le_refl _
  · rw [if_neg h1]; split <;> omega
theorem qlen_le (q : gQuad) {c d : Int} (h : c ≤ d) : qlen q d ≤ qlen q c := by
  have a := w1_le q.Dst h
  have b := w1_le q.A h
  have e := w1_le q.B h
  unfold qlen
  split <;> (try omega)
  split <;> (try omega)
  split <;> (try omega)
  split <;> (try omega)
  split <;> (try omega)
  split <;> (try omega)
  split <;> (try omega)
  split <;> (try omega)

theorem colors_loop (l : List gInstr) (b : Bool) (q : gQuad) (hm : (ilt q.Dst 8 && ilt q.A 8 && ilt q.B 8) = true → noMem l = true) (hl : l.length ≤ 1000000) :
    loopM (l_FnQuadInstrsColors_L1 (l, b)) (0, q) = some (.inl ()) := by
  obtain ⟨e, he, hd⟩ := loopM_rule (step := l_FnQuadInstrsColors_L1 (l, b)) (s := (0, q)) (fun s => ∃ k : Nat, k ≤ l.length ∧ s = ((k : Int), q)) (fun s => l.length - s.1.toNat) (fun e => e = .inl ()) ⟨0, by omega, rfl⟩ (by
    rintro s ⟨k, hk, rfl⟩
    unfold l_FnQuadInstrsColors_L1
    by_cases h : k < l.length
    · left
      dsimp only
      rw [if_pos (by rw [ilt_iff]; simp [ilen]; exact h)]
      have hx : l[k]? = some l[k] := List.getElem?_eq_getElem h
      have hi : idx l (k : Int) = some l[k] := by rw [idx_nat, hx]
      simp only [hi, bind_some', if_and, if_or, bind_id]
      have hf : ((ilt q.Dst 8 && ilt q.A 8 && ilt q.B 8) && (ieq l[k].Op 14 || ieq l[k].Op 16)) = false := by
        cases hq : (ilt q.Dst 8 && ilt q.A 8 && ilt q.B 8)
        · rfl
        · have := hm hq
          unfold noMem at this
          rw [List.all_eq_true] at this
          have := this _ (List.getElem_mem h)
          simp [ieq] at this ⊢
          omega
      have hg : ∀ x : Bool, (if (ilt q.Dst 8 && ilt q.A 8 && ilt q.B 8) = true then some (ieq l[k].Op 14 || ieq l[k].Op 16) else some false) = some ((ilt q.Dst 8 && ilt q.A 8 && ilt q.B 8) && (ieq l[k].Op 14 || ieq l[k].Op 16)) := fun _ => if_and _ _
      try rw [hg true]
      simp only [bind_some', hf, Bool.false_eq_true, if_false]
      refine ⟨_, rfl, ⟨k + 1, by omega, ?_⟩, ?_⟩
      · rw [iadd_eq _ _ (by omega)]; rfl
      · simp only; rw [iadd_eq _ _ (by omega)]; omega
    · right
      dsimp only
      rw [if_neg (by rw [ilt_iff]; simp [ilen]; omega)]
      exact ⟨_, rfl, rfl⟩)
  rw [he, hd]

theorem fnQuadInstrsColors_true (l : List Int) (hb : Bytes l) : l_FnQuadInstrsColors l = some true := by
  unfold l_FnQuadInstrsColors
  split
  · rfl
  rename_i h
  rw [igt_iff] at h
  obtain ⟨r1, h1, _⟩ := drawQuadInstrs_ok hb (by unfold ilen at h; omega)
  rw [h1, bind_some']
  rcases quadInstrs_eq r1.1 r1.2.1 r1.2.2 with ⟨x, hg, hc, k1, k2, g2, g3, g6, g7, g8, g9⟩ | ⟨k1, k2⟩
  · rw [k1, k2]
    have hl : x.length ≤ 1000000 := by omega
    have hs := sameInstrs_refl x hl
    have hm : 1 ≤ imin (iadd .i64 r1.2.1 1) 8 ∧ imin (iadd .i64 r1.2.1 1) 8 ≤ 8 ∧ r1.2.1 ≤ imin (iadd .i64 r1.2.1 1) 8 := by
      rw [iadd_eq _ _ (by omega)]; unfold imin; split <;> omega
    obtain ⟨y, ky, _, _, _, _, _, ly, _⟩ := quadInstrs_good hg (c := imin (iadd .i64 r1.2.1 1) 8) ⟨hm.1, hm.2.1⟩
    obtain ⟨z, kz, _, _, _, _, lz5, _, nz⟩ := quadInstrs_good hg (c := 8) (by omega)
    have hq := colors_loop z true r1.1 nz (by omega)
    have hle : y.length ≤ x.length := by rw [ly, g8]; exact qlen_le _ hm.2.2
    simp only [bind_some', hs, bneb, beqb, bnot, beq_self_eq_true, Bool.not_true, Bool.false_eq_true, if_false, if_true, ky, kz, hq]
    have : ile (ilen y) (ilen x) = true := by rw [ile_iff]; unfold ilen; omega
    rw [this]
  · rw [k1, k2]
    have := sameInstrs_refl [] (by simp)
    simp [bneb, beqb, bnot, this]
end Go.Abs
