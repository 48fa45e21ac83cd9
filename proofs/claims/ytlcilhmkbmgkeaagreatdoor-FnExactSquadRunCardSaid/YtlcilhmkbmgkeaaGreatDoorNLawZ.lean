/- laws.FnExactSquadRun's mirror: true for each squad and number. -/
import Derived.Test.YtlcilhmkbmgkeaaGreatDoorNRunZ
import Derived.Test.YtlcilhmkbmgkeaaGreatDoorNMarkZ
set_option linter.unusedSimpArgs false
set_option linter.unusedVariables false
set_option maxHeartbeats 8000000
namespace Go.Abs
open Go

theorem szMs_bound (q : List gMachine) (h : ∀ m ∈ q, m.Regs.length ≤ 32 ∧ m.Mem.length ≤ 10000) : szMs q ≤ 10033 * q.length := by
 induction q with
 | nil => simp [szMs]
 | cons b q ih =>
  have h1 := ih fun x hx => h x (by simp [hx])
  have h2 := h b (by simp)
  simp only [szMs, List.map_cons, List.sum_cons, List.length_cons] at h1 ⊢
  omega
theorem szB_bound (q : List gBox) (h : ∀ m ∈ q, m.Items.length ≤ 4) : szB q ≤ 5 * q.length := by
 induction q with
 | nil => simp [szB]
 | cons b q ih =>
  have h1 := ih fun x hx => h x (by simp [hx])
  have h2 := h b (by simp)
  simp only [szB, List.map_cons, List.sum_cons, List.length_cons] at h1 ⊢
  omega

theorem fnExactSquadRun_true (q : gSquad) (n : Int) (h1 : q.Harts.length ≤ maxLen) (h2 : ∀ m ∈ q.Harts, m.Regs.length ≤ maxLen ∧ m.Mem.length ≤ maxLen) (h3 : q.Boxes.length ≤ maxLen) (h4 : ∀ b ∈ q.Boxes, b.Items.length ≤ maxLen) (h5 : q.Out.length ≤ maxLen) : l_FnExactSquadRun q n = some true := by
 unfold l_FnExactSquadRun l_szSquad
 obtain ⟨r1, a1, a2, a3⟩ := szMachineS_val q.Harts 1048576 h1 h2 (by omega)
 rw [a1, bind_some']
 by_cases c1 : r1 < 0
 ·rw [if_pos (by rw [ilt_iff]; exact c1), bind_some', if_pos (by rfl)]
 rw [if_neg (by rw [ilt_iff]; exact c1)]
 obtain ⟨a4, a5, a6⟩ := a3 (by omega)
 obtain ⟨r2, b1, b2, b3⟩ := szBoxS_val q.Boxes r1 h3 h4 (by omega)
 rw [b1, bind_some']
 by_cases c2 : r2 < 0
 ·rw [if_pos (by rw [ilt_iff]; exact c2), bind_some', if_pos (by rfl)]
 rw [if_neg (by rw [ilt_iff]; exact c2), szIntS_val _ _ h5 (by omega), bind_some']
 obtain ⟨b4, b5, b6⟩ := b3 (by omega)
 by_cases c3 : r2 < q.Out.length
 ·rw [if_pos c3, if_pos (by rfl), bind_some', if_pos (by rfl)]
 rw [if_neg c3, if_neg (by rw [ilt_iff]; omega), bind_some', if_neg (by rw [ilt_iff]; omega)]
 have hq : SmallSq q := ⟨by omega, fun m hm => by have := a6 m hm; omega, by omega, fun b hb => by have := b6 b hb; omega, by omega⟩
 obtain ⟨o, o1, o2, p1, p2, p3, p4, p5⟩ := squadRun_eq q n hq (by omega)
 have o3 : i_SquadRun_o6 q n = some o := (show i_SquadRun_o6 q n = i_SquadRun q n from rfl).trans o1
 have t3 : l_toSquad_o6 q = some q := (show l_toSquad_o6 q = l_toSquad q from rfl).trans (toSquad_id q hq)
 have hi2 : ∀ m ∈ o.1.Harts, m.Regs.length ≤ 4000000 ∧ m.Mem.length ≤ 4000000 := fun m hm => by have := p2 m hm; omega
 have bi2 : ∀ b ∈ o.1.Boxes, b.Items.length ≤ 4000000 := fun b hb => by have := p4 b hb; omega
 have ro : l_eqSquad o.1 o.1 = some true := eqSquad_refl o.1 ⟨by omega, hi2, by omega, bi2, by omega⟩
 have szm := szMs_bound _ p2
 have szb := szB_bound _ p4
 obtain ⟨n1, l1, m1, m1'⟩ := markMachineS_ex q.Harts 1 hq.1 hq.2.1 (by omega) (by omega)
 have m2 := markBoxS_val q.Boxes n1 hq.2.2.1 hq.2.2.2.1 (by omega)
 have m3 := markIntS_val q.Out (n1 + szB q.Boxes) hq.2.2.2.2 (by omega)
 have m4 : l_markSquad q 1 = some (n1 + szB q.Boxes + q.Out.length, ⟨l1, markB n1 q.Boxes, q.Turn, q.Idle, mkN (n1 + szB q.Boxes) q.Out.length⟩) := by
  unfold l_markSquad
  simp only [m1, m2, m3, bind_some']
 have k4 : l_markSquad o.1 1 = some ((1 : Int) + szMs o.1.Harts + szB o.1.Boxes + o.1.Out.length, ⟨markMs 1 o.1.Harts, markB ((1 : Int) + szMs o.1.Harts) o.1.Boxes, o.1.Turn, o.1.Idle, mkN ((1 : Int) + szMs o.1.Harts + szB o.1.Boxes) o.1.Out.length⟩) := by
  unfold l_markSquad
  simp only [bind_some', markMachineS_val _ 1 (show o.1.Harts.length ≤ 4000000 by omega) hi2 (by omega), markBoxS_val _ (1 + (szMs o.1.Harts : Int)) (show o.1.Boxes.length ≤ 4000000 by omega) bi2 (by omega), markIntS_val _ (1 + (szMs o.1.Harts : Int) + szB o.1.Boxes) (show o.1.Out.length ≤ 4000000 by omega) (by omega)]
 have d4 : l_heldSquad ⟨markMs 1 o.1.Harts, markB ((1 : Int) + szMs o.1.Harts) o.1.Boxes, o.1.Turn, o.1.Idle, mkN ((1 : Int) + szMs o.1.Harts + szB o.1.Boxes) o.1.Out.length⟩ 1 = some ((1 : Int) + szMs o.1.Harts + szB o.1.Boxes + o.1.Out.length) := by
  unfold l_heldSquad
  have z1 : ilt (1 + (szMs o.1.Harts : Int)) 0 = false := by rw [Bool.eq_false_iff, ne_eq, ilt_iff]; omega
  have z2 : ilt (1 + (szMs o.1.Harts : Int) + szB o.1.Boxes) 0 = false := by rw [Bool.eq_false_iff, ne_eq, ilt_iff]; omega
  have z3 : ilt (1 + (szMs o.1.Harts : Int) + szB o.1.Boxes + o.1.Out.length) 0 = false := by rw [Bool.eq_false_iff, ne_eq, ilt_iff]; omega
  simp only [bind_some', heldMachineS_val _ 1 (show o.1.Harts.length ≤ 4000000 by omega) hi2 (by omega), heldBoxS_val _ (1 + (szMs o.1.Harts : Int)) (show o.1.Boxes.length ≤ 4000000 by omega) bi2 (by omega), heldIntS_val _ (1 + (szMs o.1.Harts : Int) + szB o.1.Boxes) (show o.1.Out.length ≤ 4000000 by omega) (by omega), z1, z2, z3, Bool.false_eq_true, if_false]
 have e3 : ilt (1 + (szMs o.1.Harts : Int) + szB o.1.Boxes + o.1.Out.length) 0 = false := by rw [Bool.eq_false_iff, ne_eq, ilt_iff]; omega
 have e4 : ilt (n1 + (szB q.Boxes : Int) + q.Out.length) 0 = false := by rw [Bool.eq_false_iff, ne_eq, ilt_iff]; omega
 have z : ∀ a : Int, ine a a = false := by intro a; simp [ine]
 have zb : ∀ a : Bool, bneb a a = false := by intro a; simp [bneb]
 simp only [bind_some', toSquad_id q hq, t3, o1, o2, o3, ro, eqSquad_refl q hq, m4, k4, d4, e3, e4, z, zb, show bnot true = false from rfl, Bool.false_eq_true, if_false]
end Go.Abs
