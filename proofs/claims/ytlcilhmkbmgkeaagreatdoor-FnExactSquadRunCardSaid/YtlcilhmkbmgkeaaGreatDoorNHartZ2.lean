/- HartCall: the program's and the reference's answer alike, joined. -/
import Derived.Test.YtlcilhmkbmgkeaaGreatDoorNHartZ
set_option linter.unusedSimpArgs false
set_option linter.unusedVariables false
set_option maxHeartbeats 8000000
namespace Go.Abs
open Go

inductive CallCase (m : gMachine) (l : List gBox) : Int → gMachine → List gBox → List Int → Prop
 | full {v11 : Int} {b : gBox} (h17 : idx m.Regs 17 = some 1) (h11 : idx m.Regs 11 = some v11) (hb : idx l v11 = some b) (h : ¬ (b.Items.length : Int) < b.Room) : CallCase m l 3 m l []
 | put {v11 v10 v1 : Int} {b b' : gBox} (h17 : idx m.Regs 17 = some 1) (h11 : idx m.Regs 11 = some v11) (h10 : idx m.Regs 10 = some v10) (h1 : idx m.Regs 1 = some v1) (hb : idx l v11 = some b) (h : (b.Items.length : Int) < b.Room) (hb' : b' = ⟨b.Room, b.Items ++ [v10]⟩) : CallCase m l 1 ⟨m.Regs, v1, m.Mem⟩ (l.set v11.toNat b') []
 | none {v11 : Int} {b : gBox} (h17 : idx m.Regs 17 = some 2) (h11 : idx m.Regs 11 = some v11) (hb : idx l v11 = some b) (h : b.Items = []) : CallCase m l 3 m l []
 | take {v11 v1 v : Int} {b b' : gBox} {t : List Int} (h17 : idx m.Regs 17 = some 2) (h11 : idx m.Regs 11 = some v11) (h1 : idx m.Regs 1 = some v1) (hb : idx l v11 = some b) (h : b.Items = v :: t) (hb' : b' = ⟨b.Room, t⟩) : CallCase m l 1 ⟨m.Regs.set (Int.toNat 10) v, v1, m.Mem⟩ (l.set v11.toNat b') []
 | yield {v1 : Int} (h17 : idx m.Regs 17 = some 3) (h1 : idx m.Regs 1 = some v1) : CallCase m l 2 ⟨m.Regs, v1, m.Mem⟩ l []
 | print {v10 v1 : Int} (h17 : idx m.Regs 17 = some 4) (h10 : idx m.Regs 10 = some v10) (h1 : idx m.Regs 1 = some v1) : CallCase m l 1 ⟨m.Regs, v1, m.Mem⟩ l [v10]
 | end' (h17 : idx m.Regs 17 = some 5) : CallCase m l 4 m l []

structure CallRes (m : gMachine) (l : List gBox) (code : Int) (m' : gMachine) (l' : List gBox) (p : List Int) : Prop where
 regs : m'.Regs.length = 32
 mem : m'.Mem = m.Mem
 len : l'.length = l.length
 items : ∀ b ∈ l', b.Items.length ≤ 10
 pl : p.length ≤ 1
 how : CallCase m l code m' l' p

theorem call_eq (m : gMachine) (l : List gBox) (o : List Int) (ho : o.length ≤ 4000000) (hM : isMach m = true) (hB : isBoxes l = true) :
  ∃ fits, s_l45Fits m (ilen l) = some fits ∧
   ((fits = false ∧ ∃ x, i_Machine_call_moo m l o = some (0, x)) ∨
   (fits = true ∧ ∃ code m' l' p, ¬ code = 0 ∧ i_Machine_call_moo m l o = some (code, m', l', o ++ p) ∧ s_l45Call_moo m l = some (p, code, m', l') ∧ CallRes m l code m' l' p)) := by
 obtain ⟨v17, i17, w17, g17⟩ := reg_at m hM 17 (by decide)
 obtain ⟨v11, i11, w11, g11⟩ := reg_at m hM 11 (by decide)
 obtain ⟨v10, i10, w10, g10⟩ := reg_at m hM 10 (by decide)
 obtain ⟨v1, i1, w1, g1⟩ := reg_at m hM 1 (by decide)
 replace i17 : idx m.Regs 17 = some v17 := i17
 replace i11 : idx m.Regs 11 = some v11 := i11
 replace i10 : idx m.Regs 10 = some v10 := i10
 replace i1 : idx m.Regs 1 = some v1 := i1
 have hlen : m.Regs.length = 32 := by simp [isMach] at hM; exact hM.1.1.1.1.1
 have hlb : l.length ≤ 3 := by simp [isBoxes] at hB; exact hB.2
 have hall : ∀ b ∈ l, isBox b = true := by simp only [isBoxes, Bool.and_eq_true, List.all_eq_true] at hB; exact hB.1
 have hit : ∀ b ∈ l, b.Items.length ≤ 4 := fun b hb => by have := (isBox_iff b).1 (hall b hb); omega
 have hlen1 : isub .i64 (ilen l) 1 = (l.length : Int) - 1 := by rw [isub_eq _ _ (by unfold ilen; omega)]; rfl
 unfold s_l45Fits i_Machine_call_moo s_l45Call_moo s_l6In
 simp only [i17, i11, i10, i1, bind_some', if_and, if_or, bind_id, hlen1]
 by_cases hp : m.Pc = 0
 case neg =>
  have e : ine m.Pc 0 = true := by rw [ine_iff]; exact hp
  simp only [e, Bool.true_or, if_true]
  exact ⟨_, rfl, .inl ⟨rfl, _, rfl⟩⟩
 have e : ine m.Pc 0 = false := by rw [hp]; rfl
 have hset : ∀ (k : Nat) (b b' : gBox), l[k]? = some b → b'.Items.length ≤ 10 → ∀ x ∈ l.set k b', x.Items.length ≤ 10 := by
  intro k b b' hk hb' x hx
  rcases List.mem_or_eq_of_mem_set hx with h | h
  ·have := hit x h; omega
  ·subst h; exact hb'
 simp only [e, Bool.false_or]
 by_cases h1 : v17 = 1
 ·subst h1
  simp only [show ige 1 1 = true from rfl, show ile 1 5 = true from rfl, show ieq 1 1 = true from rfl, show ine 1 1 = false from rfl, Bool.and_true, bnot, Bool.not_true, Bool.false_eq_true, if_false, if_true, Bool.true_or, Bool.false_and, Bool.false_or, Bool.true_and, bind_some']
  by_cases hb : 0 ≤ v11 ∧ v11 < l.length
  ·have e1 : (ige v11 0 && ile v11 ((l.length : Int) - 1)) = true := by rw [Bool.and_eq_true, ige_iff, ile_iff]; omega
   have e2 : (ilt v11 0 || ige v11 (ilen l)) = false := by rw [Bool.eq_false_iff, ne_eq, Bool.or_eq_true, ilt_iff, ige_iff]; unfold ilen; omega
   simp only [e1, e2, Bool.false_eq_true, if_false]
   obtain ⟨b, hb1, hb2⟩ := idx_ok l v11 hb.1 hb.2
   obtain ⟨ok, b', k1, k2, k3, k4, b2, k5, k6, k7⟩ := put_eq b v10 (hall b hb2) w10
   refine ⟨_, rfl, .inr ⟨rfl, ?_⟩⟩
   unfold s_l45Talk_moo
   simp only [i17, i11, i10, i1, bind_some', hb1, k1, k5, show ieq 1 1 = true from rfl, if_true]
   have hk := (idx_lt3 hb1).2.2
   cases ok with
   | false =>
    rw [k2 rfl, setx_same hb1]
    exact ⟨3, m, l, [], by decide, by first | (rw [List.append_nil]; done) | (rw [List.append_nil]; rfl), rfl, hlen, rfl, rfl, fun b hb => by have := hit b hb; omega, by simp, CallCase.full i17 i11 hb1 fun h => absurd (k4.2 h) (by decide)⟩
   | true =>
    rw [k6 rfl, setx_ok b' hb1]
    simp only [bnot, Bool.not_true, Bool.false_eq_true, if_false, bind_some', i1]
    exact ⟨1, _, _, [], by decide, by first | (rw [List.append_nil]; done) | (rw [List.append_nil]; rfl), rfl, hlen, rfl, by simp, hset _ _ _ hk (by rw [k3 rfl]; have := hit b hb2; simp; omega), by simp, CallCase.put i17 i11 i10 i1 hb1 (k4.1 rfl) (k3 rfl)⟩
  ·have e1 : (ige v11 0 && ile v11 ((l.length : Int) - 1)) = false := by rw [Bool.eq_false_iff, ne_eq, Bool.and_eq_true, ige_iff, ile_iff]; omega
   have e2 : (ilt v11 0 || ige v11 (ilen l)) = true := by rw [Bool.or_eq_true, ilt_iff, ige_iff]; unfold ilen; omega
   simp only [e1, e2, if_true]
   exact ⟨_, rfl, .inl ⟨rfl, _, rfl⟩⟩
 by_cases h2 : v17 = 2
 ·subst h2
  simp only [show ige 2 1 = true from rfl, show ile 2 5 = true from rfl, show ieq 2 1 = false from rfl, show ieq 2 2 = true from rfl, show ine 2 1 = true from rfl, show ine 2 2 = false from rfl, Bool.and_true, bnot, Bool.not_true, Bool.false_eq_true, if_false, if_true, Bool.true_or, Bool.false_and, Bool.false_or, Bool.true_and, bind_some', Bool.and_false]
  by_cases hb : 0 ≤ v11 ∧ v11 < l.length
  ·have e1 : (ige v11 0 && ile v11 ((l.length : Int) - 1)) = true := by rw [Bool.and_eq_true, ige_iff, ile_iff]; omega
   have e2 : (ilt v11 0 || ige v11 (ilen l)) = false := by rw [Bool.eq_false_iff, ne_eq, Bool.or_eq_true, ilt_iff, ige_iff]; unfold ilen; omega
   simp only [e1, e2, Bool.false_eq_true, if_false]
   obtain ⟨b, hb1, hb2⟩ := idx_ok l v11 hb.1 hb.2
   obtain ⟨v, ok, b', k1, k2, k3, k4, b2, v2, k5, k6⟩ := take_eq b (hall b hb2)
   refine ⟨_, rfl, .inr ⟨rfl, ?_⟩⟩
   unfold s_l45Talk_moo
   simp only [i17, i11, i10, i1, bind_some', hb1, k1, k5, show ieq 2 1 = false from rfl, Bool.false_eq_true, if_false]
   have hk := (idx_lt3 hb1).2.2
   cases ok with
   | false =>
    rw [k2 rfl, setx_same hb1]
    exact ⟨3, m, l, [], by decide, by first | (rw [List.append_nil]; done) | (rw [List.append_nil]; rfl), rfl, hlen, rfl, rfl, fun b hb => by have := hit b hb; omega, by simp, CallCase.none i17 i11 hb1 (Classical.byContradiction fun h => absurd (k3.2 h) (by decide))⟩
   | true =>
    obtain ⟨rfl, rfl⟩ := k6 rfl
    obtain ⟨t, ht1, ht2⟩ := k4 rfl
    rw [setx_ok b2 hb1]
    simp only [bnot, Bool.not_true, Bool.false_eq_true, if_false, bind_some', i10, setx_ok v2 i10]
    have hr1 : idx (m.Regs.set (Int.toNat 10) v2) 1 = some v1 := by
     refine idx_at (k := 1) ?_
     rw [List.getElem?_set]
     exact g1
    simp only [hr1, bind_some']
    exact ⟨1, _, _, [], by decide, by first | (rw [List.append_nil]; done) | (rw [List.append_nil]; rfl), rfl, by simp [hlen], rfl, by simp, hset _ _ _ hk (by rw [ht2]; have := hit b hb2; rw [ht1] at this; simp at this ⊢; omega), by simp, CallCase.take i17 i11 i1 hb1 ht1 ht2⟩
  ·have e1 : (ige v11 0 && ile v11 ((l.length : Int) - 1)) = false := by rw [Bool.eq_false_iff, ne_eq, Bool.and_eq_true, ige_iff, ile_iff]; omega
   have e2 : (ilt v11 0 || ige v11 (ilen l)) = true := by rw [Bool.or_eq_true, ilt_iff, ige_iff]; unfold ilen; omega
   simp only [e1, e2, if_true]
   exact ⟨_, rfl, .inl ⟨rfl, _, rfl⟩⟩
 have n1 : ieq v17 1 = false := by rw [Bool.eq_false_iff, ne_eq, ieq_iff]; exact h1
 have n2 : ieq v17 2 = false := by rw [Bool.eq_false_iff, ne_eq, ieq_iff]; exact h2
 have p1 : ine v17 1 = true := by rw [ine_iff]; exact h1
 have p2 : ine v17 2 = true := by rw [ine_iff]; exact h2
 simp only [n1, n2, p1, p2, Bool.false_eq_true, if_false, if_true, Bool.or_self, Bool.and_self, Bool.true_or]
 by_cases h3 : v17 = 3
 ·subst h3
  simp only [show ieq 3 3 = true from rfl, show ieq 3 4 = false from rfl, show ieq 3 5 = false from rfl, Bool.false_and, Bool.false_eq_true, if_false, if_true, bind_some', i1]
  refine ⟨_, rfl, .inr ⟨rfl, 2, _, _, [], by decide, by first | (rw [List.append_nil]; done) | (rw [List.append_nil]; rfl), rfl, hlen, rfl, rfl, fun b hb => by have := hit b hb; omega, by simp, CallCase.yield i17 i1⟩⟩
 by_cases h4 : v17 = 4
 ·subst h4
  have ha : appx 8 o [v10] = some (o ++ [v10]) := appx_ok 8 _ _ (by unfold maxLen; simp; omega)
  simp only [show ieq 4 3 = false from rfl, show ieq 4 4 = true from rfl, show ieq 4 5 = false from rfl, Bool.false_eq_true, if_false, if_true, ha, bind_some', i1]
  refine ⟨_, rfl, .inr ⟨rfl, 1, _, _, [v10], by decide, rfl, rfl, hlen, rfl, rfl, fun b hb => by have := hit b hb; omega, by simp, CallCase.print i17 i10 i1⟩⟩
 by_cases h5 : v17 = 5
 ·subst h5
  refine ⟨_, rfl, .inr ⟨rfl, 4, _, _, [], by decide, by first | (rw [List.append_nil]; done) | (rw [List.append_nil]; rfl), rfl, hlen, rfl, rfl, fun b hb => by have := hit b hb; omega, by simp, CallCase.end' i17⟩⟩
 have n3 : ieq v17 3 = false := by rw [Bool.eq_false_iff, ne_eq, ieq_iff]; exact h3
 have n4 : ieq v17 4 = false := by rw [Bool.eq_false_iff, ne_eq, ieq_iff]; exact h4
 have n5 : ieq v17 5 = false := by rw [Bool.eq_false_iff, ne_eq, ieq_iff]; exact h5
 have ef : (ige v17 1 && ile v17 5) = false := by rw [Bool.eq_false_iff, ne_eq, Bool.and_eq_true, ige_iff, ile_iff]; omega
 simp only [n3, n4, n5, ef, bnot, Bool.not_false, Bool.false_eq_true, if_false, if_true]
 exact ⟨_, rfl, .inl ⟨rfl, _, rfl⟩⟩

end Go.Abs
