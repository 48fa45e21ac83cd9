/- laws.FnExactHartCall's mirror: true for each machine and mailboxes. -/
import Derived.Test.YtoklfbdcghgmlaaNHartEq2
import Derived.Test.YtoklfbdcghgmlaaNBoxI
set_option linter.unusedSimpArgs false
set_option linter.unusedVariables false
set_option maxHeartbeats 8000000
namespace Go.Abs
open Go

theorem fnExactHartCall_true (m : gMachine) (l : List gBox) (hr : m.Regs.length ≤ maxLen) (hm : m.Mem.length ≤ maxLen) (hl : l.length ≤ maxLen) (hi : ∀ b ∈ l, b.Items.length ≤ maxLen) : l_FnExactHartCall m l = some true := by
  unfold l_FnExactHartCall
  obtain ⟨r1, a1, a2, a3⟩ := szMachine_val m 1048576 hr hm (by omega)
  rw [a1, bind_some']
  by_cases c1 : r1 < 0
  · rw [if_pos (by rw [ilt_iff]; exact c1)]
  rw [if_neg (by rw [ilt_iff]; exact c1)]
  replace a3 := a3 (by omega)
  obtain ⟨r2, b1, b2, b3⟩ := szBoxS_val l r1 hl hi (by omega)
  rw [b1, bind_some']
  by_cases c2 : r2 < 0
  · rw [if_pos (by rw [ilt_iff]; exact c2)]
  rw [if_neg (by rw [ilt_iff]; exact c2)]
  obtain ⟨b4, b5, b6⟩ := b3 (by omega)
  have hr' : m.Regs.length ≤ 2000000 := by omega
  have hm' : m.Mem.length ≤ 2000000 := by omega
  have hl' : l.length ≤ 2000000 := by omega
  have hi' : ∀ b ∈ l, b.Items.length ≤ 2000000 := fun b hb => by have := b6 b hb; omega
  obtain ⟨r, k1, k2, k3⟩ := hartCall_eq m l hr' hm' hl' hi'
  have t2 : l_toMachine_o2 m = some m := (show l_toMachine_o2 m = l_toMachine m from rfl).trans (toMachine_id m hr' hm')
  have t3 : l_toBoxS_o2 l = some l := (show l_toBoxS_o2 l = l_toBoxS l from rfl).trans (toBoxS_id l hl' hi')
  have k4 : i_HartCall_o5 m l = some r := (show i_HartCall_o5 m l = i_HartCall m l from rfl).trans k1
  -- what comes back is small
  have hq : r.1.Regs.length ≤ 2000000 ∧ r.1.Mem.length ≤ 2000000 ∧ r.2.1.length ≤ 2000000 ∧ (∀ b ∈ r.2.1, b.Items.length ≤ 2000000) ∧ r.2.2.1.length ≤ 2000000 := by
    rcases k3 with ⟨rfl, _⟩ | ⟨_, _, _, _, hc⟩
    · simp
    · exact ⟨by rw [hc.regs]; omega, by rw [hc.mem]; exact hm', by rw [hc.len]; exact hl', fun b hb => by have := hc.items b hb; omega, by have := hc.pl; omega⟩
  have hz : (szB r.2.1 : Int) ≤ 100000000 := by
    rcases k3 with ⟨rfl, _⟩ | ⟨_, hB, _, _, hc⟩
    · simp [szB]
    · have hlb : l.length ≤ 3 := by simp [isBoxes] at hB; exact hB.2
      have h1 : ∀ (q : List gBox), (∀ b ∈ q, b.Items.length ≤ 10) → szB q ≤ 11 * q.length := by
        intro q
        induction q with
        | nil => intro _; simp [szB]
        | cons b q ih =>
          intro h
          have h1 := ih fun x hx => h x (by simp [hx])
          have h2 := h b (by simp)
          simp only [szB, List.map_cons, List.sum_cons, List.length_cons] at h1 ⊢
          omega
      have := h1 _ hc.items
      have := hc.len
      omega
  obtain ⟨q1, q2, q3, q4, q5⟩ := hq
  have m1 := markMachine_val m 1 hr' hm' (by omega)
  have m2 := markBoxS_val l (1 + m.Regs.length + m.Mem.length) hl' hi' (by omega)
  have m3 := markMachine_val r.1 1 q1 q2 (by omega)
  have m4 := markBoxS_val r.2.1 (1 + r.1.Regs.length + r.1.Mem.length) q3 q4 (by omega)
  have m5 := markIntS_val r.2.2.1 (1 + r.1.Regs.length + r.1.Mem.length + szB r.2.1) q5 (by omega)
  have d1 := heldMachine_val r.1.Regs.length r.1.Mem.length r.1.Pc 1 q1 q2 (by omega)
  have d2 := heldBoxS_val r.2.1 (1 + r.1.Regs.length + r.1.Mem.length) q3 q4 (by omega)
  have d3 := heldIntS_val r.2.2.1.length (1 + r.1.Regs.length + r.1.Mem.length + szB r.2.1) q5 (by omega)
  have n1 : ilt (1 + (m.Regs.length : Int) + m.Mem.length + szB l) 0 = false := by rw [Bool.eq_false_iff, ne_eq, ilt_iff]; omega
  have n2 : ilt (1 + (r.1.Regs.length : Int) + r.1.Mem.length) 0 = false := by rw [Bool.eq_false_iff, ne_eq, ilt_iff]; omega
  have n3 : ilt (1 + (r.1.Regs.length : Int) + r.1.Mem.length + szB r.2.1) 0 = false := by rw [Bool.eq_false_iff, ne_eq, ilt_iff]; omega
  have n4 : ilt (1 + (r.1.Regs.length : Int) + r.1.Mem.length + szB r.2.1 + r.2.2.1.length) 0 = false := by rw [Bool.eq_false_iff, ne_eq, ilt_iff]; omega
  have z : ∀ a : Int, ine a a = false := by intro a; simp [ine]
  simp only [bind_some', toMachine_id m hr' hm', toBoxS_id l hl' hi', k1, k2, t2, t3, k4, eqMachine_refl r.1 q1 q2, eqBoxS_refl r.2.1 q3 q4, eqIntS_refl r.2.2.1 q5, eqMachine_refl m hr' hm', eqBoxS_refl l hl' hi',
    m1, m2, m3, m4, m5, d1, d2, d3, n1, n2, n3, n4, z, show bnot true = false from rfl, Bool.false_eq_true, if_false]
end Go.Abs
