/- laws.FnExactQuadInstrs' mirror: true for each quad. -/
import Derived.Test.YtoklfbdcghgmlaaDoorNLaw5
import Derived.Test.YtoklfbdcghgmlaaDoorNUp
set_option linter.unusedSimpArgs false
set_option linter.unusedVariables false
set_option maxHeartbeats 8000000
namespace Go.Abs
open Go

theorem i_quadInstrs_o_eq : i_quadInstrs_o = i_quadInstrs := rfl
theorem i_QuadInstrs_o_eq : i_QuadInstrs_o = i_QuadInstrs := rfl

theorem eqInstr_refl (x : gInstr) : l_eqInstr x x = some true := by
  unfold l_eqInstr; simp [ine]
theorem eqInstrS_refl (l : List gInstr) (hl : l.length ≤ 1000000) : l_eqInstrS l l = some true := by
  unfold l_eqInstrS
  rw [if_neg (by simp [ine])]
  have := up_loop (step := l_eqInstrS_L1 l l) (s0 := (0 : Int)) l.length (fun k => (k : Int)) (.inl ()) rfl (fun k hk => ?_) ?_
  · rw [this]; rfl
  · unfold l_eqInstrS_L1
    dsimp only
    rw [if_pos (by rw [ilt_iff]; unfold ilen; omega), idx_at (List.getElem?_eq_getElem hk)]
    simp only [bind_some', eqInstr_refl]
    rw [show bnot true = false from rfl, if_neg (by decide), iadd_eq _ _ (by omega)]
    rfl
  · unfold l_eqInstrS_L1
    dsimp only
    rw [if_neg (by rw [ilt_iff]; unfold ilen; omega)]

def mkI (k : Nat) : gInstr := ⟨1 + 5 * k, 2 + 5 * k, 3 + 5 * k, 4 + 5 * k, 5 + 5 * k⟩
def mkIs (n : Nat) : List gInstr := (List.range n).map mkI
theorem mkIs_succ (n : Nat) : mkIs (n + 1) = mkIs n ++ [mkI n] := by simp [mkIs, List.range_succ]
theorem mkIs_len (n : Nat) : (mkIs n).length = n := by simp [mkIs]
theorem markInstrS_val (l : List gInstr) (hl : l.length ≤ 1000000) : l_markInstrS l 1 = some (1 + 5 * (l.length : Int), mkIs l.length) := by
  unfold l_markInstrS
  have := up_loop (step := l_markInstrS_L1) (s0 := ((1 : Int), (0 : Int), l)) l.length (fun k => ((1 + 5 * k : Int), (k : Int), mkIs k ++ l.drop k)) (1 + 5 * (l.length : Int), mkIs l.length) (by simp [mkIs]) (fun k hk => ?_) ?_
  · rw [this]; rfl
  · unfold l_markInstrS_L1
    dsimp only
    have hc : l.drop k = l[k] :: l.drop (k + 1) := List.drop_eq_getElem_cons hk
    have hlen : (mkIs k ++ l.drop k).length = l.length := by simp [mkIs_len]; omega
    rw [if_pos (by rw [ilt_iff]; unfold ilen; rw [hlen]; omega), hc]
    have e1 : iadd .i64 (1 + 5 * (k : Int)) 1 = 2 + 5 * k := by rw [iadd_eq _ _ (by omega)]; omega
    have e2 : iadd .i64 (2 + 5 * (k : Int)) 1 = 3 + 5 * k := by rw [iadd_eq _ _ (by omega)]; omega
    have e3 : iadd .i64 (3 + 5 * (k : Int)) 1 = 4 + 5 * k := by rw [iadd_eq _ _ (by omega)]; omega
    have e4 : iadd .i64 (4 + 5 * (k : Int)) 1 = 5 + 5 * k := by rw [iadd_eq _ _ (by omega)]; omega
    have e5 : iadd .i64 (5 + 5 * (k : Int)) 1 = 6 + 5 * k := by rw [iadd_eq _ _ (by omega)]; omega
    have e6 : iadd .i64 (k : Int) 1 = ((k + 1 : Nat) : Int) := by rw [iadd_eq _ _ (by omega)]; rfl
    simp only [idx_cat _ _ _ k (mkIs_len k), setx_cat _ _ _ _ k (mkIs_len k), bind_some', e1, e2, e3, e4, e5, e6]
    rw [mkIs_succ, List.append_assoc]
    simp only [mkI, List.singleton_append, Option.some.injEq, Flow.next.injEq, Prod.mk.injEq, and_true]
    omega
  · unfold l_markInstrS_L1
    dsimp only
    rw [List.drop_length, List.append_nil, if_neg (by rw [ilt_iff]; unfold ilen; rw [mkIs_len]; omega)]
theorem heldInstrS_val (n : Nat) (hn : n ≤ 1000000) : l_heldInstrS (mkIs n) 1 = some (1 + 5 * (n : Int)) := by
  unfold l_heldInstrS
  have := up_loop (step := l_heldInstrS_L1 (mkIs n)) (s0 := ((1 : Int), (0 : Int))) n (fun k => ((1 + 5 * k : Int), (k : Int))) (.inl (1 + 5 * (n : Int))) rfl (fun k hk => ?_) ?_
  · rw [this]; rfl
  · unfold l_heldInstrS_L1
    dsimp only
    have hx : idx (mkIs n) (k : Int) = some (mkI k) := idx_at (by simp [mkIs, hk])
    rw [if_pos (by rw [ilt_iff]; unfold ilen; rw [mkIs_len]; omega), hx]
    have e1 : iadd .i64 (1 + 5 * (k : Int)) 1 = 2 + 5 * k := by rw [iadd_eq _ _ (by omega)]; omega
    have e2 : iadd .i64 (2 + 5 * (k : Int)) 1 = 3 + 5 * k := by rw [iadd_eq _ _ (by omega)]; omega
    have e3 : iadd .i64 (3 + 5 * (k : Int)) 1 = 4 + 5 * k := by rw [iadd_eq _ _ (by omega)]; omega
    have e4 : iadd .i64 (4 + 5 * (k : Int)) 1 = 5 + 5 * k := by rw [iadd_eq _ _ (by omega)]; omega
    have e5 : iadd .i64 (5 + 5 * (k : Int)) 1 = 6 + 5 * k := by rw [iadd_eq _ _ (by omega)]; omega
    have e6 : iadd .i64 (k : Int) 1 = ((k + 1 : Nat) : Int) := by rw [iadd_eq _ _ (by omega)]; rfl
    simp only [bind_some', e1, e2, e3, e4, e5, e6, mkI, ine, bne_self_eq_false, Bool.false_eq_true, if_false]
    simp only [Option.some.injEq, Flow.next.injEq, Prod.mk.injEq, and_true]
    omega
  · unfold l_heldInstrS_L1
    dsimp only
    rw [if_neg (by rw [ilt_iff]; unfold ilen; rw [mkIs_len]; omega)]

theorem fnExactQuadInstrs_true (q : gQuad) (c off : Int) : l_FnExactQuadInstrs q c off = some true := by
  unfold l_FnExactQuadInstrs l_toQuad
  simp only [bind_some', i_QuadInstrs_o_eq]
  obtain ⟨l, b, hl, h1, h2⟩ : ∃ (l : List gInstr) (b : Bool), l.length ≤ 5 ∧ i_QuadInstrs q c off = some (l, b) ∧ s_QuadInstrs q c off = some (l, b) := by
    rcases quadInstrs_eq q c off with ⟨x, hg, hc, k1, k2, g2, g3, g6, g7, g8, g9⟩ | ⟨k1, k2⟩
    · exact ⟨x, true, g7, k1, k2⟩
    · exact ⟨[], false, by simp, k1, k2⟩
  have hm := markInstrS_val l (by omega)
  have hh := heldInstrS_val l.length (by omega)
  simp only [h1, h2, bind_some', eqInstrS_refl l (by omega), hm, hh, bnot, Bool.not_true, Bool.false_eq_true, if_false, bneb, beq_self_eq_true]
  rw [if_neg (by rw [ilt_iff]; omega), if_neg (by simp [ine])]
  rw [if_neg (by rw [ilt_iff]; omega), if_neg (by simp [ine])]
end Go.Abs
