/- laws.FnExactHartNew's mirror: true for each code. -/
import Derived.Test.YtoklfbdcghgmlaaDoorNIns
set_option linter.unusedSimpArgs false
set_option linter.unusedVariables false
set_option maxHeartbeats 8000000
namespace Go.Abs
open Go

theorem fnExactHartNew_true (l : List gInstr) (hl : l.length ≤ maxLen) : l_FnExactHartNew l = some true := by
  unfold l_FnExactHartNew
  rw [szInstrS_val l 1048576 hl (by omega), bind_some']
  by_cases h : (1048576 : Int) < l.length
  · rw [if_pos h, if_pos (by rfl)]
  rw [if_neg h, if_neg (by rw [ilt_iff]; omega)]
  obtain ⟨r, h1, h2, h3, h4⟩ := hartNew_eq l (by omega)
  obtain ⟨q, m1, _⟩ := markInstrS_ex l 1 (by omega) (by omega)
  have m3 := markMachine_val r.1 1 (by omega) (by omega) (by omega)
  have d1 := heldMachine_val r.1.Regs.length r.1.Mem.length r.1.Pc 1 (by omega) (by omega) (by omega)
  have n1 : ilt (1 + 5 * (l.length : Int)) 0 = false := by rw [Bool.eq_false_iff, ne_eq, ilt_iff]; omega
  have n2 : ilt (1 + (r.1.Regs.length : Int) + r.1.Mem.length) 0 = false := by rw [Bool.eq_false_iff, ne_eq, ilt_iff]; omega
  have z : ∀ a : Int, ine a a = false := by intro a; simp [ine]
  have zb : ∀ a : Bool, bneb a a = false := by intro a; simp [bneb]
  simp only [bind_some', toInstrS_o_eq, hartNew_o2_eq, toInstrS_id l (by omega), h1, h2, eqMachine_refl r.1 (by omega) (by omega), eqInstrS_refl l (by omega), m1, m3, d1, n1, n2, z, zb, show bnot true = false from rfl, Bool.false_eq_true, if_false]
end Go.Abs
