/- The contracts of functions of the program, part 0: each computes what its mirror computes. No conditions. -/
import Derived.Test.YtoklfbdcghgmlaaDoorNDH
import Derived.Test.YtoklfbdcghgmlaaDoorNDM
set_option linter.unusedSimpArgs false
set_option linter.unusedVariables false
set_option maxRecDepth 20000
set_option maxHeartbeats 4000000
namespace Go.Proofs.YtoklfbdcghgmlaaDoor
open Go Go.Abs Go.RowKit

theorem c65 {p0 : Int} {p1 : Int} {p2 : Int} {r : Bool} (H : s_l6In p0 p1 p2 = some r) : APure Tryd.prog G 65 [.int .i64 p0, .int .i64 p1, .int .i64 p2] (.bool r) := by
 refine APure_fn (fun N0 => ?_) (by simp)
 refine ACalls_fn tok Tryd.func65 (by kernel_rfl) rfl Tryd.ntmps65 Tryd.results65 rfl ?_
 simp only [argsA, Nat.reduceAdd, hp_next]
 unfold s_l6In at H
 refine AWP_sr tok [] [0, 1, 2] (fun a σ => a = [(0, .int .i64 p0), (1, .int .i64 p1), (2, .int .i64 p2)] ∧ σ = hp E0 [] (N0 + 1)) (fun K hK => ?_) ?_
 ·
  skip
  simp -dsimp -implicitDefEqProofs (maxDischargeDepth := 6)
  exact hK _ _ ⟨rfl, rfl⟩
 rintro a σ ⟨rfl, rfl⟩
 obtain ⟨g1, hg1, H⟩ := bindE H
 refine AWP_sr tok [] [6] (fun a σ => a = [(6, .bool g1)] ∧ σ = hp E0 [] (N0 + 10)) (fun K hK => ?_) ?_
 ·
  skip
  simp -dsimp -implicitDefEqProofs (maxDischargeDepth := 6)
  cases hbg1 : ige p0 p1
  ·
   replace hg1 := ifF hbg1 hg1
   replace hg1 := Option.some.inj hg1; subst hg1
   try simp -dsimp -implicitDefEqProofs (maxDischargeDepth := 6) [hbg1]
   exact hK _ _ ⟨rfl, rfl⟩
  ·
   replace hg1 := ifT hbg1 hg1
   replace hg1 := Option.some.inj hg1; subst hg1
   try simp -dsimp -implicitDefEqProofs (maxDischargeDepth := 6) [hbg1]
   exact hK _ _ ⟨rfl, rfl⟩
 rintro a σ ⟨rfl, rfl⟩
 replace H := Option.some.inj H; subst H
 refine AWP_kp [6] [(6, .bool g1)] rfl ?_
 refine AWP_ret ?_
 exact ⟨[.bool g1], by simp, 4, by simp [encL_nil]⟩
theorem c147 {p0 : Int} {r : Int} (H : s_l1Power p0 = some r) : APure Tryd.prog G 147 [.int .i64 p0] (.int .i64 r) := by
 refine APure_fn (fun N0 => ?_) (by simp)
 refine ACalls_fn tok Tryd.func147 (by kernel_rfl) rfl Tryd.ntmps147 Tryd.results147 rfl ?_
 simp only [argsA, Nat.reduceAdd, hp_next]
 unfold s_l1Power at H
 refine AWP_sr tok [] [0] (fun a σ => a = [(0, .int .i64 p0)] ∧ σ = hp E0 [] (N0 + 1)) (fun K hK => ?_) ?_
 ·
  skip
  simp -dsimp -implicitDefEqProofs (maxDischargeDepth := 6)
  exact hK _ _ ⟨rfl, rfl⟩
 rintro a σ ⟨rfl, rfl⟩
 refine AWP_sr tok [] [0, 3] (fun a σ => a = [(0, .int .i64 p0), (3, .int .i64 1)] ∧ σ = hp E0 [] (N0 + 2)) (fun K hK => ?_) ?_
 ·
  skip
  simp -dsimp -implicitDefEqProofs (maxDischargeDepth := 6)
  exact hK _ _ ⟨rfl, rfl⟩
 rintro a σ ⟨rfl, rfl⟩
 refine AWP_sq [3] fun K1 hK1 => ?_
 refine AWP_sr tok [] [0, 3, 4] (fun a σ => a = [(0, .int .i64 p0), (3, .int .i64 1), (4, .int .i64 0)] ∧ σ = hp E0 [] (N0 + 3)) (fun K hK => ?_) ?_
 ·
  skip
  simp -dsimp -implicitDefEqProofs (maxDischargeDepth := 6)
  exact hK _ _ ⟨rfl, rfl⟩
 rintro a σ ⟨rfl, rfl⟩
 refine AWP_block (AWP_thenB ?_)
 obtain ⟨e1, hse1, H⟩ := bindE H
 refine AWP_lp [0, 3, 4] (fun s a σ => ∃ M1 : Nat, N0 ≤ M1 ∧ a = [(0, .int .i64 p0), (3, .int .i64 s.1), (4, .int .i64 s.2)] ∧ σ = hp E0 [] M1) (fun s x a σ => x = .exit 0 ∧ Rc G 13 N0 (fun a σ => ∃ M2 : Nat, N0 ≤ M2 ∧ a = [(3, .int .i64 s)] ∧ σ = hp E0 [] M2) (AAct.keep a [3]) σ) hse1 ?_ ?_ ?_
 ·
  refine Rc.kp [0, 3, 4] [(0, .int .i64 p0), (3, .int .i64 1), (4, .int .i64 0)] rfl ?_
  exact Rc.fin (AHeap.Sub.refl _) ⟨N0 + 3, (by omega), rfl, rfl⟩
 ·
  clear H hse1
  rintro ⟨s1, s2⟩ fl a σ H ⟨M1, fM1_0, rfl, rfl⟩ K2 O2 hK2 hO2
  unfold s_l1Power_L1 at H; dsimp only at H
  refine AWP_sq [0, 3, 4] fun K3 hK3 => ?_
  refine AWP_sr tok [] [0, 3, 4, 7] (fun a σ => a = [(0, .int .i64 p0), (3, .int .i64 s1), (4, .int .i64 s2), (7, .bool (ilt s2 p0))] ∧ σ = hp E0 [] (M1 + 3)) (fun K hK => ?_) ?_
  ·
   skip
   simp -dsimp -implicitDefEqProofs (maxDischargeDepth := 6)
   exact hK _ _ ⟨rfl, rfl⟩
  rintro a σ ⟨rfl, rfl⟩
  refine AWP_cond (ilt s2 p0) rfl (fun C1 => ?_) (fun C1 => ?_)
  ·
   replace H := ifT C1 H
   refine AWP_skip ?_
   show K3 _ _
   refine keepE (l := [0, 3, 4]) (x := [(0, .int .i64 p0), (3, .int .i64 s1), (4, .int .i64 s2)]) rfl fun a' ha => ?_
   refine hK3 _ _ ?_; rw [ha]
   refine Rc.mk ?_
   refine AWP_sq [0, 3, 4] fun K4 hK4 => ?_
   refine AWP_block (AWP_thenB ?_)
   refine AWP_rt tok [] [0, 3, 4] (fun a σ => a = [(0, .int .i64 p0), (3, .int .i64 (imul .i64 s1 2)), (4, .int .i64 s2)] ∧ σ = hp E0 [] (M1 + 6)) (fun K hK => ?_) ?_
   ·
    skip
    simp -dsimp -implicitDefEqProofs (maxDischargeDepth := 6)
    exact hK _ _ ⟨rfl, rfl⟩
   rintro a σ ⟨ha, rfl⟩
   refine hK4 _ _ ?_; rw [ha]
   refine Rc.mk ?_
   refine AWP_rt tok [] [0, 3, 4] (fun a σ => a = [(0, .int .i64 p0), (3, .int .i64 (imul .i64 s1 2)), (4, .int .i64 (iadd .i64 s2 1))] ∧ σ = hp E0 [] (M1 + 9)) (fun K hK => ?_) ?_
   ·
    skip
    simp -dsimp -implicitDefEqProofs (maxDischargeDepth := 6)
    exact hK _ _ ⟨rfl, rfl⟩
   rintro a σ ⟨ha, rfl⟩
   replace H := Option.some.inj H; subst H
   refine hK2 _ _ _ rfl ?_; rw [ha]
   exact Rc.fin (AHeap.Sub.refl _) ⟨M1 + 9, (by omega), rfl, rfl⟩
  ·
   replace H := ifF C1 H
   replace H := Option.some.inj H; subst H
   refine AWP_exit (hO2 _ _ _ _ rfl ⟨rfl, ?_⟩)
   refine Rc.rw (l := [3]) (X := [(3, .int .i64 s1)]) rfl ?_
   exact Rc.fin (AHeap.Sub.refl _) ⟨M1 + 3, (by omega), rfl, rfl⟩
 ·
  intro x a σ hx
  obtain ⟨y3, rfl⟩ : ∃ x, x = e1 := ⟨_, rfl⟩
  obtain ⟨rfl, b, τ, hr, M2, fM2_0, rfl, rfl⟩ := hx
  dsimp only at H
  show K1 _ _
  refine hK1 _ _ (Rc_ref hr ?_)
  refine Rc.mk ?_
  refine AWP_sr tok [] [2] (fun a σ => a = [(2, .int .i64 y3)] ∧ σ = hp E0 [] (M2 + 2)) (fun K hK => ?_) ?_
  ·
   skip
   simp -dsimp -implicitDefEqProofs (maxDischargeDepth := 6)
   exact hK _ _ ⟨rfl, rfl⟩
  rintro a σ ⟨rfl, rfl⟩
  replace H := Option.some.inj H; subst H
  refine AWP_kp [2] [(2, .int .i64 y3)] rfl ?_
  refine AWP_ret ?_
  exact ⟨[.int .i64 y3], by simp, 4, by simp [encL_nil]⟩
theorem c130 {p0 : Int} {p1 : Int} {p2 : Int} {r : Int} (H : s_Bits p0 p1 p2 = some r) : APure Tryd.prog G 130 [.int .i64 p0, .int .i64 p1, .int .i64 p2] (.int .i64 r) := by
 refine APure_fn (fun N0 => ?_) (by simp)
 refine ACalls_fn tok Tryd.func130 (by kernel_rfl) rfl Tryd.ntmps130 Tryd.results130 rfl ?_
 simp only [argsA, Nat.reduceAdd, hp_next]
 unfold s_Bits at H
 refine AWP_sr tok [] [0, 1, 2] (fun a σ => a = [(0, .int .i64 p0), (1, .int .i64 p1), (2, .int .i64 p2)] ∧ σ = hp E0 [] (N0 + 1)) (fun K hK => ?_) ?_
 ·
  skip
  simp -dsimp -implicitDefEqProofs (maxDischargeDepth := 6)
  exact hK _ _ ⟨rfl, rfl⟩
 rintro a σ ⟨rfl, rfl⟩
 refine AWP_sq [0, 1, 2] fun K1 hK1 => ?_
 obtain ⟨r1, hr1, H⟩ := bindE H
 obtain ⟨g3, hg3, H⟩ := bindE H
 obtain ⟨g5, hg5, H⟩ := bindE H
 refine AWP_sr tok [] [0, 1, 2, 21] (fun a σ => a = [(0, .int .i64 p0), (1, .int .i64 p1), (2, .int .i64 p2), (21, .bool g5)] ∧ σ = hp E0 [] (N0 + 16)) (fun K hK => ?_) ?_
 ·
  skip
  simp -dsimp -implicitDefEqProofs (maxDischargeDepth := 6)
  refine (c65 hr1).app ?_; try simp -dsimp -implicitDefEqProofs (maxDischargeDepth := 6)
  cases hbg3 : bnot r1
  ·
   replace hg3 := ifF hbg3 hg3
   obtain ⟨r2, hr2, hg3⟩ := bindE hg3
   replace hg3 := Option.some.inj hg3; subst hg3
   try simp -dsimp -implicitDefEqProofs (maxDischargeDepth := 6) [hbg3]
   refine (c65 hr2).app ?_; try simp -dsimp -implicitDefEqProofs (maxDischargeDepth := 6) [hbg3]
   cases hbg5 : (bnot r2)
   ·
    replace hg5 := ifF hbg5 hg5
    obtain ⟨r4, hr4, hg5⟩ := bindE hg5
    replace hg5 := Option.some.inj hg5; subst hg5
    try simp -dsimp -implicitDefEqProofs (maxDischargeDepth := 6) [hbg3, hbg5]
    refine (c65 hr4).app ?_; try simp -dsimp -implicitDefEqProofs (maxDischargeDepth := 6) [hbg3, hbg5]
    exact hK _ _ ⟨rfl, rfl⟩
   ·
    replace hg5 := ifT hbg5 hg5
    replace hg5 := Option.some.inj hg5; subst hg5
    try simp -dsimp -implicitDefEqProofs (maxDischargeDepth := 6) [hbg3, hbg5]
    exact hK _ _ ⟨rfl, rfl⟩
  ·
   replace hg3 := ifT hbg3 hg3
   replace hg3 := Option.some.inj hg3; subst hg3
   try simp -dsimp -implicitDefEqProofs (maxDischargeDepth := 6) [hbg3]
   replace hg5 := ifT rfl hg5
   replace hg5 := Option.some.inj hg5; subst hg5
   try simp -dsimp -implicitDefEqProofs (maxDischargeDepth := 6) [hbg3]
   exact hK _ _ ⟨rfl, rfl⟩
 rintro a σ ⟨rfl, rfl⟩
 refine AWP_cond g5 rfl (fun C1 => ?_) (fun C1 => ?_)
 ·
  replace H := ifT C1 H
  refine AWP_sr tok [] [6] (fun a σ => a = [(6, .int .i64 0)] ∧ σ = hp E0 [] (N0 + 17)) (fun K hK => ?_) ?_
  ·
   skip
   simp -dsimp -implicitDefEqProofs (maxDischargeDepth := 6)
   exact hK _ _ ⟨rfl, rfl⟩
  rintro a σ ⟨rfl, rfl⟩
  replace H := Option.some.inj H; subst H
  refine AWP_kp [6] [(6, .int .i64 0)] rfl ?_
  refine AWP_ret ?_
  exact ⟨[.int .i64 0], by simp, 4, by simp [encL_nil]⟩
 ·
  replace H := ifF C1 H
  refine AWP_skip ?_
  show K1 _ _
  refine keepE (l := [0, 1, 2]) (x := [(0, .int .i64 p0), (1, .int .i64 p1), (2, .int .i64 p2)]) rfl fun a' ha => ?_
  refine hK1 _ _ ?_; rw [ha]
  refine Rc.mk ?_
  obtain ⟨r6, hr6, H⟩ := bindE H
  obtain ⟨v7, hv7, H⟩ := bindE H
  obtain ⟨r8, hr8, H⟩ := bindE H
  obtain ⟨v9, hv9, H⟩ := bindE H
  refine AWP_sd tok tokM [] [] [0, 1, 2, 3, 4, 5, 6, 7] [6] (fun a σ => a = [(6, .int .i64 v9)] ∧ σ = hp E0 [] (N0 + 24)) (by decide) (fun K hK => ?_) ?_
  ·
   simp only [pickL, nthO_succ, nthO_zero]
   simp -dsimp -implicitDefEqProofs (maxDischargeDepth := 6) [hv7, hv9]
   refine Pc.mk (c147 hr6) ?_; try simp -dsimp -implicitDefEqProofs (maxDischargeDepth := 6) [hv7, hv9]
   refine Pc.mk (c147 hr8) ?_; try simp -dsimp -implicitDefEqProofs (maxDischargeDepth := 6) [hv7, hv9]
   exact hK _ _ ⟨rfl, rfl⟩
  rintro a σ ⟨rfl, rfl⟩
  replace H := Option.some.inj H; subst H
  refine AWP_kp [6] [(6, .int .i64 v9)] rfl ?_
  refine AWP_ret ?_
  exact ⟨[.int .i64 v9], by simp, 4, by simp [encL_nil]⟩
theorem c102 {p0 : Int} {r : Int} (H : s_Wrap p0 = some r) : APure Tryd.prog G 102 [.int .i64 p0] (.int .i64 r) := by
 refine APure_fn (fun N0 => ?_) (by simp)
 refine ACalls_fn tok Tryd.func102 (by kernel_rfl) rfl Tryd.ntmps102 Tryd.results102 rfl ?_
 simp only [argsA, Nat.reduceAdd, hp_next]
 unfold s_Wrap at H
 refine AWP_sr tok [] [0] (fun a σ => a = [(0, .int .i64 p0)] ∧ σ = hp E0 [] (N0 + 1)) (fun K hK => ?_) ?_
 ·
  skip
  simp -dsimp -implicitDefEqProofs (maxDischargeDepth := 6)
  exact hK _ _ ⟨rfl, rfl⟩
 rintro a σ ⟨rfl, rfl⟩
 obtain ⟨v1, hv1, H⟩ := bindE H
 refine AWP_sr tok [] [3] (fun a σ => a = [(3, .int .i64 v1)] ∧ σ = hp E0 [] (N0 + 4)) (fun K hK => ?_) ?_
 ·
  skip
  simp -dsimp -implicitDefEqProofs (maxDischargeDepth := 6) [hv1]
  exact hK _ _ ⟨rfl, rfl⟩
 rintro a σ ⟨rfl, rfl⟩
 refine AWP_sq [3] fun K1 hK1 => ?_
 refine AWP_sr tok [] [3, 7] (fun a σ => a = [(3, .int .i64 v1), (7, .bool (igt v1 2147483647))] ∧ σ = hp E0 [] (N0 + 6)) (fun K hK => ?_) ?_
 ·
  skip
  simp -dsimp -implicitDefEqProofs (maxDischargeDepth := 6)
  exact hK _ _ ⟨rfl, rfl⟩
 rintro a σ ⟨rfl, rfl⟩
 refine AWP_cond (igt v1 2147483647) rfl (fun C1 => ?_) (fun C1 => ?_)
 ·
  replace H := ifT C1 H
  refine AWP_sr tok [] [2] (fun a σ => a = [(2, .int .i64 (isub .i64 v1 4294967296))] ∧ σ = hp E0 [] (N0 + 9)) (fun K hK => ?_) ?_
  ·
   skip
   simp -dsimp -implicitDefEqProofs (maxDischargeDepth := 6)
   exact hK _ _ ⟨rfl, rfl⟩
  rintro a σ ⟨rfl, rfl⟩
  replace H := Option.some.inj H; subst H
  refine AWP_kp [2] [(2, .int .i64 (isub .i64 v1 4294967296))] rfl ?_
  refine AWP_ret ?_
  exact ⟨[.int .i64 (isub .i64 v1 4294967296)], by simp, 4, by simp [encL_nil]⟩
 ·
  replace H := ifF C1 H
  refine AWP_skip ?_
  show K1 _ _
  refine keepE (l := [3]) (x := [(3, .int .i64 v1)]) rfl fun a' ha => ?_
  refine hK1 _ _ ?_; rw [ha]
  refine Rc.mk ?_
  refine AWP_sq [3] fun K2 hK2 => ?_
  refine AWP_sr tok [] [3, 11] (fun a σ => a = [(3, .int .i64 v1), (11, .bool (ilt v1 (-2147483648)))] ∧ σ = hp E0 [] (N0 + 8)) (fun K hK => ?_) ?_
  ·
   skip
   simp -dsimp -implicitDefEqProofs (maxDischargeDepth := 6)
   exact hK _ _ ⟨rfl, rfl⟩
  rintro a σ ⟨rfl, rfl⟩
  refine AWP_cond (ilt v1 (-2147483648)) rfl (fun C2 => ?_) (fun C2 => ?_)
  ·
   replace H := ifT C2 H
   refine AWP_sr tok [] [2] (fun a σ => a = [(2, .int .i64 (iadd .i64 v1 4294967296))] ∧ σ = hp E0 [] (N0 + 11)) (fun K hK => ?_) ?_
   ·
    skip
    simp -dsimp -implicitDefEqProofs (maxDischargeDepth := 6)
    exact hK _ _ ⟨rfl, rfl⟩
   rintro a σ ⟨rfl, rfl⟩
   replace H := Option.some.inj H; subst H
   refine AWP_kp [2] [(2, .int .i64 (iadd .i64 v1 4294967296))] rfl ?_
   refine AWP_ret ?_
   exact ⟨[.int .i64 (iadd .i64 v1 4294967296)], by simp, 4, by simp [encL_nil]⟩
  ·
   replace H := ifF C2 H
   refine AWP_skip ?_
   show K2 _ _
   refine keepE (l := [3]) (x := [(3, .int .i64 v1)]) rfl fun a' ha => ?_
   refine hK2 _ _ ?_; rw [ha]
   refine Rc.mk ?_
   refine AWP_sr tok [] [2] (fun a σ => a = [(2, .int .i64 v1)] ∧ σ = hp E0 [] (N0 + 10)) (fun K hK => ?_) ?_
   ·
    skip
    simp -dsimp -implicitDefEqProofs (maxDischargeDepth := 6)
    exact hK _ _ ⟨rfl, rfl⟩
   rintro a σ ⟨rfl, rfl⟩
   replace H := Option.some.inj H; subst H
   refine AWP_kp [2] [(2, .int .i64 v1)] rfl ?_
   refine AWP_ret ?_
   exact ⟨[.int .i64 v1], by simp, 4, by simp [encL_nil]⟩
theorem c85 {p0 : Int} {r : Bool} (H : i_isMachineReg p0 = some r) : APure Tryd.prog G 85 [.int .i64 p0] (.bool r) := by
 refine APure_fn (fun N0 => ?_) (by simp)
 refine ACalls_fn tok Tryd.func85 (by kernel_rfl) rfl Tryd.ntmps85 Tryd.results85 rfl ?_
 simp only [argsA, Nat.reduceAdd, hp_next]
 unfold i_isMachineReg at H
 refine AWP_sr tok [] [0] (fun a σ => a = [(0, .int .i64 p0)] ∧ σ = hp E0 [] (N0 + 1)) (fun K hK => ?_) ?_
 ·
  skip
  simp -dsimp -implicitDefEqProofs (maxDischargeDepth := 6)
  exact hK _ _ ⟨rfl, rfl⟩
 rintro a σ ⟨rfl, rfl⟩
 obtain ⟨g1, hg1, H⟩ := bindE H
 refine AWP_sr tok [] [2] (fun a σ => a = [(2, .bool g1)] ∧ σ = hp E0 [] (N0 + 8)) (fun K hK => ?_) ?_
 ·
  skip
  simp -dsimp -implicitDefEqProofs (maxDischargeDepth := 6)
  cases hbg1 : ige p0 0
  ·
   replace hg1 := ifF hbg1 hg1
   replace hg1 := Option.some.inj hg1; subst hg1
   try simp -dsimp -implicitDefEqProofs (maxDischargeDepth := 6) [hbg1]
   exact hK _ _ ⟨rfl, rfl⟩
  ·
   replace hg1 := ifT hbg1 hg1
   replace hg1 := Option.some.inj hg1; subst hg1
   try simp -dsimp -implicitDefEqProofs (maxDischargeDepth := 6) [hbg1]
   exact hK _ _ ⟨rfl, rfl⟩
 rintro a σ ⟨rfl, rfl⟩
 replace H := Option.some.inj H; subst H
 refine AWP_kp [2] [(2, .bool g1)] rfl ?_
 refine AWP_ret ?_
 exact ⟨[.bool g1], by simp, 4, by simp [encL_nil]⟩
theorem c86 {p0 : Int} {r : Int} (H : i_formatOf p0 = some r) : APure Tryd.prog G 86 [.int .i64 p0] (.int .u8 r) := by
 refine APure_fn (fun N0 => ?_) (by simp)
 refine ACalls_fn tok Tryd.func86 (by kernel_rfl) rfl Tryd.ntmps86 Tryd.results86 rfl ?_
 simp only [argsA, Nat.reduceAdd, hp_next]
 unfold i_formatOf at H
 refine AWP_sr tok [] [0] (fun a σ => a = [(0, .int .i64 p0)] ∧ σ = hp E0 [] (N0 + 1)) (fun K hK => ?_) ?_
 ·
  skip
  simp -dsimp -implicitDefEqProofs (maxDischargeDepth := 6)
  exact hK _ _ ⟨rfl, rfl⟩
 rintro a σ ⟨rfl, rfl⟩
 refine AWP_sq [] fun K1 hK1 => ?_
 refine AWP_block (AWP_thenB ?_)
 obtain ⟨g1, hg1, H⟩ := bindE H
 refine AWP_sr tok [] [0, 3] (fun a σ => a = [(0, .int .i64 p0), (3, .bool g1)] ∧ σ = hp E0 [] (N0 + 8)) (fun K hK => ?_) ?_
 ·
  skip
  simp -dsimp -implicitDefEqProofs (maxDischargeDepth := 6)
  cases hbg1 : ige p0 1
  ·
   replace hg1 := ifF hbg1 hg1
   replace hg1 := Option.some.inj hg1; subst hg1
   try simp -dsimp -implicitDefEqProofs (maxDischargeDepth := 6) [hbg1]
   exact hK _ _ ⟨rfl, rfl⟩
  ·
   replace hg1 := ifT hbg1 hg1
   replace hg1 := Option.some.inj hg1; subst hg1
   try simp -dsimp -implicitDefEqProofs (maxDischargeDepth := 6) [hbg1]
   exact hK _ _ ⟨rfl, rfl⟩
 rintro a σ ⟨rfl, rfl⟩
 refine AWP_cond g1 rfl (fun C1 => ?_) (fun C1 => ?_)
 ·
  replace H := ifT C1 H
  refine AWP_sr tok [] [2] (fun a σ => a = [(2, .int .u8 82)] ∧ σ = hp E0 [] (N0 + 9)) (fun K hK => ?_) ?_
  ·
   skip
   simp -dsimp -implicitDefEqProofs (maxDischargeDepth := 6)
   exact hK _ _ ⟨rfl, rfl⟩
  rintro a σ ⟨rfl, rfl⟩
  replace H := Option.some.inj H; subst H
  refine AWP_kp [2] [(2, .int .u8 82)] rfl ?_
  refine AWP_ret ?_
  exact ⟨[.int .u8 82], by simp, 4, by simp [encL_nil]⟩
 ·
  replace H := ifF C1 H
  obtain ⟨g2, hg2, H⟩ := bindE H
  refine AWP_sr tok [] [0, 10] (fun a σ => a = [(0, .int .i64 p0), (10, .bool g2)] ∧ σ = hp E0 [] (N0 + 15)) (fun K hK => ?_) ?_
  ·
   skip
   simp -dsimp -implicitDefEqProofs (maxDischargeDepth := 6)
   cases hbg2 : ige p0 12
   ·
    replace hg2 := ifF hbg2 hg2
    replace hg2 := Option.some.inj hg2; subst hg2
    try simp -dsimp -implicitDefEqProofs (maxDischargeDepth := 6) [hbg2]
    exact hK _ _ ⟨rfl, rfl⟩
   ·
    replace hg2 := ifT hbg2 hg2
    replace hg2 := Option.some.inj hg2; subst hg2
    try simp -dsimp -implicitDefEqProofs (maxDischargeDepth := 6) [hbg2]
    exact hK _ _ ⟨rfl, rfl⟩
  rintro a σ ⟨rfl, rfl⟩
  refine AWP_cond g2 rfl (fun C2 => ?_) (fun C2 => ?_)
  ·
   replace H := ifT C2 H
   refine AWP_sr tok [] [2] (fun a σ => a = [(2, .int .u8 73)] ∧ σ = hp E0 [] (N0 + 16)) (fun K hK => ?_) ?_
   ·
    skip
    simp -dsimp -implicitDefEqProofs (maxDischargeDepth := 6)
    exact hK _ _ ⟨rfl, rfl⟩
   rintro a σ ⟨rfl, rfl⟩
   replace H := Option.some.inj H; subst H
   refine AWP_kp [2] [(2, .int .u8 73)] rfl ?_
   refine AWP_ret ?_
   exact ⟨[.int .u8 73], by simp, 4, by simp [encL_nil]⟩
  ·
   replace H := ifF C2 H
   refine AWP_sr tok [] [0, 17] (fun a σ => a = [(0, .int .i64 p0), (17, .bool (ieq p0 16))] ∧ σ = hp E0 [] (N0 + 18)) (fun K hK => ?_) ?_
   ·
    skip
    simp -dsimp -implicitDefEqProofs (maxDischargeDepth := 6)
    exact hK _ _ ⟨rfl, rfl⟩
   rintro a σ ⟨rfl, rfl⟩
   refine AWP_cond (ieq p0 16) rfl (fun C3 => ?_) (fun C3 => ?_)
   ·
    replace H := ifT C3 H
    refine AWP_sr tok [] [2] (fun a σ => a = [(2, .int .u8 83)] ∧ σ = hp E0 [] (N0 + 19)) (fun K hK => ?_) ?_
    ·
     skip
     simp -dsimp -implicitDefEqProofs (maxDischargeDepth := 6)
     exact hK _ _ ⟨rfl, rfl⟩
    rintro a σ ⟨rfl, rfl⟩
    replace H := Option.some.inj H; subst H
    refine AWP_kp [2] [(2, .int .u8 83)] rfl ?_
    refine AWP_ret ?_
    exact ⟨[.int .u8 83], by simp, 4, by simp [encL_nil]⟩
   ·
    replace H := ifF C3 H
    obtain ⟨g3, hg3, H⟩ := bindE H
    refine AWP_sr tok [] [0, 20] (fun a σ => a = [(0, .int .i64 p0), (20, .bool g3)] ∧ σ = hp E0 [] (N0 + 25)) (fun K hK => ?_) ?_
    ·
     skip
     simp -dsimp -implicitDefEqProofs (maxDischargeDepth := 6)
     cases hbg3 : ieq p0 17
     ·
      replace hg3 := ifF hbg3 hg3
      replace hg3 := Option.some.inj hg3; subst hg3
      try simp -dsimp -implicitDefEqProofs (maxDischargeDepth := 6) [hbg3]
      exact hK _ _ ⟨rfl, rfl⟩
     ·
      replace hg3 := ifT hbg3 hg3
      replace hg3 := Option.some.inj hg3; subst hg3
      try simp -dsimp -implicitDefEqProofs (maxDischargeDepth := 6) [hbg3]
      exact hK _ _ ⟨rfl, rfl⟩
    rintro a σ ⟨rfl, rfl⟩
    refine AWP_cond g3 rfl (fun C4 => ?_) (fun C4 => ?_)
    ·
     replace H := ifT C4 H
     refine AWP_sr tok [] [2] (fun a σ => a = [(2, .int .u8 66)] ∧ σ = hp E0 [] (N0 + 26)) (fun K hK => ?_) ?_
     ·
      skip
      simp -dsimp -implicitDefEqProofs (maxDischargeDepth := 6)
      exact hK _ _ ⟨rfl, rfl⟩
     rintro a σ ⟨rfl, rfl⟩
     replace H := Option.some.inj H; subst H
     refine AWP_kp [2] [(2, .int .u8 66)] rfl ?_
     refine AWP_ret ?_
     exact ⟨[.int .u8 66], by simp, 4, by simp [encL_nil]⟩
    ·
     replace H := ifF C4 H
     refine AWP_sr tok [] [0, 27] (fun a σ => a = [(0, .int .i64 p0), (27, .bool (ieq p0 19))] ∧ σ = hp E0 [] (N0 + 28)) (fun K hK => ?_) ?_
     ·
      skip
      simp -dsimp -implicitDefEqProofs (maxDischargeDepth := 6)
      exact hK _ _ ⟨rfl, rfl⟩
     rintro a σ ⟨rfl, rfl⟩
     refine AWP_cond (ieq p0 19) rfl (fun C5 => ?_) (fun C5 => ?_)
     ·
      replace H := ifT C5 H
      refine AWP_sr tok [] [2] (fun a σ => a = [(2, .int .u8 85)] ∧ σ = hp E0 [] (N0 + 29)) (fun K hK => ?_) ?_
      ·
       skip
       simp -dsimp -implicitDefEqProofs (maxDischargeDepth := 6)
       exact hK _ _ ⟨rfl, rfl⟩
      rintro a σ ⟨rfl, rfl⟩
      replace H := Option.some.inj H; subst H
      refine AWP_kp [2] [(2, .int .u8 85)] rfl ?_
      refine AWP_ret ?_
      exact ⟨[.int .u8 85], by simp, 4, by simp [encL_nil]⟩
     ·
      replace H := ifF C5 H
      refine AWP_sr tok [] [0, 30] (fun a σ => a = [(0, .int .i64 p0), (30, .bool (ieq p0 20))] ∧ σ = hp E0 [] (N0 + 31)) (fun K hK => ?_) ?_
      ·
       skip
       simp -dsimp -implicitDefEqProofs (maxDischargeDepth := 6)
       exact hK _ _ ⟨rfl, rfl⟩
      rintro a σ ⟨rfl, rfl⟩
      refine AWP_cond (ieq p0 20) rfl (fun C6 => ?_) (fun C6 => ?_)
      ·
       replace H := ifT C6 H
       refine AWP_sr tok [] [2] (fun a σ => a = [(2, .int .u8 74)] ∧ σ = hp E0 [] (N0 + 32)) (fun K hK => ?_) ?_
       ·
        skip
        simp -dsimp -implicitDefEqProofs (maxDischargeDepth := 6)
        exact hK _ _ ⟨rfl, rfl⟩
       rintro a σ ⟨rfl, rfl⟩
       replace H := Option.some.inj H; subst H
       refine AWP_kp [2] [(2, .int .u8 74)] rfl ?_
       refine AWP_ret ?_
       exact ⟨[.int .u8 74], by simp, 4, by simp [encL_nil]⟩
      ·
       replace H := ifF C6 H
       refine AWP_sr tok [] [33] (fun a σ => a = [(33, .bool (ieq p0 21))] ∧ σ = hp E0 [] (N0 + 34)) (fun K hK => ?_) ?_
       ·
        skip
        simp -dsimp -implicitDefEqProofs (maxDischargeDepth := 6)
        exact hK _ _ ⟨rfl, rfl⟩
       rintro a σ ⟨rfl, rfl⟩
       refine AWP_cond (ieq p0 21) rfl (fun C7 => ?_) (fun C7 => ?_)
       ·
        replace H := ifT C7 H
        refine AWP_sr tok [] [2] (fun a σ => a = [(2, .int .u8 69)] ∧ σ = hp E0 [] (N0 + 35)) (fun K hK => ?_) ?_
        ·
         skip
         simp -dsimp -implicitDefEqProofs (maxDischargeDepth := 6)
         exact hK _ _ ⟨rfl, rfl⟩
        rintro a σ ⟨rfl, rfl⟩
        replace H := Option.some.inj H; subst H
        refine AWP_kp [2] [(2, .int .u8 69)] rfl ?_
        refine AWP_ret ?_
        exact ⟨[.int .u8 69], by simp, 4, by simp [encL_nil]⟩
       ·
        replace H := ifF C7 H
        refine AWP_skip ?_
        show K1 _ _
        refine keepE (l := []) (x := []) rfl fun a' ha => ?_
        refine hK1 _ _ ?_; rw [ha]
        refine Rc.mk ?_
        refine AWP_sr tok [] [2] (fun a σ => a = [(2, .int .u8 32)] ∧ σ = hp E0 [] (N0 + 35)) (fun K hK => ?_) ?_
        ·
         skip
         simp -dsimp -implicitDefEqProofs (maxDischargeDepth := 6)
         exact hK _ _ ⟨rfl, rfl⟩
        rintro a σ ⟨rfl, rfl⟩
        replace H := Option.some.inj H; subst H
        refine AWP_kp [2] [(2, .int .u8 32)] rfl ?_
        refine AWP_ret ?_
        exact ⟨[.int .u8 32], by simp, 4, by simp [encL_nil]⟩
theorem c44 {p0 : gInstr} {r : Bool} (H : i_InstrValid p0 = some r) : APure Tryd.prog G 44 [.agg [.int .i64 p0.Op, .int .i64 p0.Rd, .int .i64 p0.Rs, .int .i64 p0.Rt, .int .i64 p0.Imm]] (.bool r) := by
 refine APure_fn (fun N0 => ?_) (by simp)
 refine ACalls_fn tok Tryd.func44 (by kernel_rfl) rfl Tryd.ntmps44 Tryd.results44 rfl ?_
 simp only [argsA, Nat.reduceAdd, hp_next]
 unfold i_InstrValid at H
 refine AWP_sr tok [0] [1] (fun a σ => a = [(1, .fptr [.int .i64 p0.Op, .int .i64 p0.Rd, .int .i64 p0.Rs, .int .i64 p0.Rt, .int .i64 p0.Imm] 0)] ∧ σ = hp E0 [] (N0 + 2)) (fun K hK => ?_) ?_
 ·
  skip
  simp -dsimp -implicitDefEqProofs (maxDischargeDepth := 6)
  exact hK _ _ ⟨rfl, rfl⟩
 rintro a σ ⟨rfl, rfl⟩
 obtain ⟨r1, hr1, H⟩ := bindE H
 obtain ⟨r2, hr2, H⟩ := bindE H
 obtain ⟨r3, hr3, H⟩ := bindE H
 refine AWP_sd tok tokM [] [] [0, 1, 2, 3, 4, 5, 6, 7, 8, 9, 10, 11] [1, 3, 4, 5] (fun a σ => a = [(1, .fptr [.int .i64 p0.Op, .int .i64 p0.Rd, .int .i64 p0.Rs, .int .i64 p0.Rt, .int .i64 p0.Imm] 0), (3, .bool r1), (4, .bool r2), (5, .bool r3)] ∧ σ = hp E0 [] (N0 + 14)) (by decide) (fun K hK => ?_) ?_
 ·
  simp only [pickL, nthO_succ, nthO_zero]
  simp -dsimp -implicitDefEqProofs (maxDischargeDepth := 6)
  refine Pc.mk (c85 hr1) ?_; try simp -dsimp -implicitDefEqProofs (maxDischargeDepth := 6)
  refine Pc.mk (c85 hr2) ?_; try simp -dsimp -implicitDefEqProofs (maxDischargeDepth := 6)
  refine Pc.mk (c85 hr3) ?_; try simp -dsimp -implicitDefEqProofs (maxDischargeDepth := 6)
  exact hK _ _ ⟨rfl, rfl⟩
 rintro a σ ⟨rfl, rfl⟩
 obtain ⟨g4, hg4, H⟩ := bindE H
 refine AWP_sr tok [] [1, 3, 4, 5, 6] (fun a σ => a = [(1, .fptr [.int .i64 p0.Op, .int .i64 p0.Rd, .int .i64 p0.Rs, .int .i64 p0.Rt, .int .i64 p0.Imm] 0), (3, .bool r1), (4, .bool r2), (5, .bool r3), (6, .bool g4)] ∧ σ = hp E0 [] (N0 + 23)) (fun K hK => ?_) ?_
 ·
  skip
  simp -dsimp -implicitDefEqProofs (maxDischargeDepth := 6)
  cases hbg4 : ige p0.Imm (-2048)
  ·
   replace hg4 := ifF hbg4 hg4
   replace hg4 := Option.some.inj hg4; subst hg4
   try simp -dsimp -implicitDefEqProofs (maxDischargeDepth := 6) [hbg4]
   exact hK _ _ ⟨rfl, rfl⟩
  ·
   replace hg4 := ifT hbg4 hg4
   replace hg4 := Option.some.inj hg4; subst hg4
   try simp -dsimp -implicitDefEqProofs (maxDischargeDepth := 6) [hbg4]
   exact hK _ _ ⟨rfl, rfl⟩
 rintro a σ ⟨rfl, rfl⟩
 refine AWP_sq [] fun K1 hK1 => ?_
 obtain ⟨r5, hr5, H⟩ := bindE H
 refine AWP_sr tok [] [1, 3, 4, 5, 6, 26] (fun a σ => a = [(1, .fptr [.int .i64 p0.Op, .int .i64 p0.Rd, .int .i64 p0.Rs, .int .i64 p0.Rt, .int .i64 p0.Imm] 0), (3, .bool r1), (4, .bool r2), (5, .bool r3), (6, .bool g4), (26, .int .u8 r5)] ∧ σ = hp E0 [] (N0 + 26)) (fun K hK => ?_) ?_
 ·
  skip
  simp -dsimp -implicitDefEqProofs (maxDischargeDepth := 6)
  refine (c86 hr5).app ?_; try simp -dsimp -implicitDefEqProofs (maxDischargeDepth := 6)
  exact hK _ _ ⟨rfl, rfl⟩
 rintro a σ ⟨rfl, rfl⟩
 refine AWP_block (AWP_thenB ?_)
 refine AWP_sr tok [] [1, 3, 4, 5, 6, 26, 27] (fun a σ => a = [(1, .fptr [.int .i64 p0.Op, .int .i64 p0.Rd, .int .i64 p0.Rs, .int .i64 p0.Rt, .int .i64 p0.Imm] 0), (3, .bool r1), (4, .bool r2), (5, .bool r3), (6, .bool g4), (26, .int .u8 r5), (27, .bool (ieq r5 82))] ∧ σ = hp E0 [] (N0 + 28)) (fun K hK => ?_) ?_
 ·
  skip
  simp -dsimp -implicitDefEqProofs (maxDischargeDepth := 6)
  exact hK _ _ ⟨rfl, rfl⟩
 rintro a σ ⟨rfl, rfl⟩
 refine AWP_cond (ieq r5 82) rfl (fun C1 => ?_) (fun C1 => ?_)
 ·
  replace H := ifT C1 H
  obtain ⟨g6, hg6, H⟩ := bindE H
  obtain ⟨g7, hg7, H⟩ := bindE H
  obtain ⟨g8, hg8, H⟩ := bindE H
  refine AWP_sr tok [] [2] (fun a σ => a = [(2, .bool g8)] ∧ σ = hp E0 [] (N0 + 41)) (fun K hK => ?_) ?_
  ·
   skip
   simp -dsimp -implicitDefEqProofs (maxDischargeDepth := 6)
   cases hbg6 : r1
   ·
    replace hg6 := ifF hbg6 hg6
    replace hg6 := Option.some.inj hg6; subst hg6
    try simp -dsimp -implicitDefEqProofs (maxDischargeDepth := 6) [hbg6]
    replace hg7 := ifF rfl hg7
    replace hg7 := Option.some.inj hg7; subst hg7
    try simp -dsimp -implicitDefEqProofs (maxDischargeDepth := 6) [hbg6]
    replace hg8 := ifF rfl hg8
    replace hg8 := Option.some.inj hg8; subst hg8
    try simp -dsimp -implicitDefEqProofs (maxDischargeDepth := 6) [hbg6]
    exact hK _ _ ⟨rfl, rfl⟩
   ·
    replace hg6 := ifT hbg6 hg6
    replace hg6 := Option.some.inj hg6; subst hg6
    try simp -dsimp -implicitDefEqProofs (maxDischargeDepth := 6) [hbg6]
    cases hbg7 : r2
    ·
     replace hg7 := ifF hbg7 hg7
     replace hg7 := Option.some.inj hg7; subst hg7
     try simp -dsimp -implicitDefEqProofs (maxDischargeDepth := 6) [hbg6, hbg7]
     replace hg8 := ifF rfl hg8
     replace hg8 := Option.some.inj hg8; subst hg8
     try simp -dsimp -implicitDefEqProofs (maxDischargeDepth := 6) [hbg6, hbg7]
     exact hK _ _ ⟨rfl, rfl⟩
    ·
     replace hg7 := ifT hbg7 hg7
     replace hg7 := Option.some.inj hg7; subst hg7
     try simp -dsimp -implicitDefEqProofs (maxDischargeDepth := 6) [hbg6, hbg7]
     cases hbg8 : r3
     ·
      replace hg8 := ifF hbg8 hg8
      replace hg8 := Option.some.inj hg8; subst hg8
      try simp -dsimp -implicitDefEqProofs (maxDischargeDepth := 6) [hbg6, hbg7, hbg8]
      exact hK _ _ ⟨rfl, rfl⟩
     ·
      replace hg8 := ifT hbg8 hg8
      replace hg8 := Option.some.inj hg8; subst hg8
      try simp -dsimp -implicitDefEqProofs (maxDischargeDepth := 6) [hbg6, hbg7, hbg8]
      exact hK _ _ ⟨rfl, rfl⟩
  rintro a σ ⟨rfl, rfl⟩
  replace H := Option.some.inj H; subst H
  refine AWP_kp [2] [(2, .bool g8)] rfl ?_
  refine AWP_ret ?_
  exact ⟨[.bool g8], by simp, 4, by simp [encL_nil]⟩
 ·
  replace H := ifF C1 H
  refine AWP_sr tok [] [1, 3, 4, 5, 6, 26, 41] (fun a σ => a = [(1, .fptr [.int .i64 p0.Op, .int .i64 p0.Rd, .int .i64 p0.Rs, .int .i64 p0.Rt, .int .i64 p0.Imm] 0), (3, .bool r1), (4, .bool r2), (5, .bool r3), (6, .bool g4), (26, .int .u8 r5), (41, .bool (ieq r5 73))] ∧ σ = hp E0 [] (N0 + 30)) (fun K hK => ?_) ?_
  ·
   skip
   simp -dsimp -implicitDefEqProofs (maxDischargeDepth := 6)
   exact hK _ _ ⟨rfl, rfl⟩
  rintro a σ ⟨rfl, rfl⟩
  refine AWP_cond (ieq r5 73) rfl (fun C2 => ?_) (fun C2 => ?_)
  ·
   replace H := ifT C2 H
   obtain ⟨g9, hg9, H⟩ := bindE H
   obtain ⟨g10, hg10, H⟩ := bindE H
   obtain ⟨g11, hg11, H⟩ := bindE H
   refine AWP_sr tok [] [2] (fun a σ => a = [(2, .bool g11)] ∧ σ = hp E0 [] (N0 + 43)) (fun K hK => ?_) ?_
   ·
    skip
    simp -dsimp -implicitDefEqProofs (maxDischargeDepth := 6)
    cases hbg9 : r1
    ·
     replace hg9 := ifF hbg9 hg9
     replace hg9 := Option.some.inj hg9; subst hg9
     try simp -dsimp -implicitDefEqProofs (maxDischargeDepth := 6) [hbg9]
     replace hg10 := ifF rfl hg10
     replace hg10 := Option.some.inj hg10; subst hg10
     try simp -dsimp -implicitDefEqProofs (maxDischargeDepth := 6) [hbg9]
     replace hg11 := ifF rfl hg11
     replace hg11 := Option.some.inj hg11; subst hg11
     try simp -dsimp -implicitDefEqProofs (maxDischargeDepth := 6) [hbg9]
     exact hK _ _ ⟨rfl, rfl⟩
    ·
     replace hg9 := ifT hbg9 hg9
     replace hg9 := Option.some.inj hg9; subst hg9
     try simp -dsimp -implicitDefEqProofs (maxDischargeDepth := 6) [hbg9]
     cases hbg10 : r2
     ·
      replace hg10 := ifF hbg10 hg10
      replace hg10 := Option.some.inj hg10; subst hg10
      try simp -dsimp -implicitDefEqProofs (maxDischargeDepth := 6) [hbg9, hbg10]
      replace hg11 := ifF rfl hg11
      replace hg11 := Option.some.inj hg11; subst hg11
      try simp -dsimp -implicitDefEqProofs (maxDischargeDepth := 6) [hbg9, hbg10]
      exact hK _ _ ⟨rfl, rfl⟩
     ·
      replace hg10 := ifT hbg10 hg10
      replace hg10 := Option.some.inj hg10; subst hg10
      try simp -dsimp -implicitDefEqProofs (maxDischargeDepth := 6) [hbg9, hbg10]
      cases hbg11 : (ieq p0.Rt 0)
      ·
       replace hg11 := ifF hbg11 hg11
       replace hg11 := Option.some.inj hg11; subst hg11
       try simp -dsimp -implicitDefEqProofs (maxDischargeDepth := 6) [hbg9, hbg10, hbg11]
       exact hK _ _ ⟨rfl, rfl⟩
      ·
       replace hg11 := ifT hbg11 hg11
       replace hg11 := Option.some.inj hg11; subst hg11
       try simp -dsimp -implicitDefEqProofs (maxDischargeDepth := 6) [hbg9, hbg10, hbg11]
       exact hK _ _ ⟨rfl, rfl⟩
   rintro a σ ⟨rfl, rfl⟩
   replace H := Option.some.inj H; subst H
   refine AWP_kp [2] [(2, .bool g11)] rfl ?_
   refine AWP_ret ?_
   exact ⟨[.bool g11], by simp, 4, by simp [encL_nil]⟩
  ·
   replace H := ifF C2 H
   refine AWP_sr tok [] [1, 3, 4, 5, 6, 26, 55] (fun a σ => a = [(1, .fptr [.int .i64 p0.Op, .int .i64 p0.Rd, .int .i64 p0.Rs, .int .i64 p0.Rt, .int .i64 p0.Imm] 0), (3, .bool r1), (4, .bool r2), (5, .bool r3), (6, .bool g4), (26, .int .u8 r5), (55, .bool (ieq r5 83))] ∧ σ = hp E0 [] (N0 + 32)) (fun K hK => ?_) ?_
   ·
    skip
    simp -dsimp -implicitDefEqProofs (maxDischargeDepth := 6)
    exact hK _ _ ⟨rfl, rfl⟩
   rintro a σ ⟨rfl, rfl⟩
   refine AWP_cond (ieq r5 83) rfl (fun C3 => ?_) (fun C3 => ?_)
   ·
    replace H := ifT C3 H
    obtain ⟨g12, hg12, H⟩ := bindE H
    obtain ⟨g13, hg13, H⟩ := bindE H
    obtain ⟨g14, hg14, H⟩ := bindE H
    refine AWP_sr tok [] [2] (fun a σ => a = [(2, .bool g14)] ∧ σ = hp E0 [] (N0 + 45)) (fun K hK => ?_) ?_
    ·
     skip
     simp -dsimp -implicitDefEqProofs (maxDischargeDepth := 6)
     cases hbg12 : ieq p0.Rd 0
     ·
      replace hg12 := ifF hbg12 hg12
      replace hg12 := Option.some.inj hg12; subst hg12
      try simp -dsimp -implicitDefEqProofs (maxDischargeDepth := 6) [hbg12]
      replace hg13 := ifF rfl hg13
      replace hg13 := Option.some.inj hg13; subst hg13
      try simp -dsimp -implicitDefEqProofs (maxDischargeDepth := 6) [hbg12]
      replace hg14 := ifF rfl hg14
      replace hg14 := Option.some.inj hg14; subst hg14
      try simp -dsimp -implicitDefEqProofs (maxDischargeDepth := 6) [hbg12]
      exact hK _ _ ⟨rfl, rfl⟩
     ·
      replace hg12 := ifT hbg12 hg12
      replace hg12 := Option.some.inj hg12; subst hg12
      try simp -dsimp -implicitDefEqProofs (maxDischargeDepth := 6) [hbg12]
      cases hbg13 : r2
      ·
       replace hg13 := ifF hbg13 hg13
       replace hg13 := Option.some.inj hg13; subst hg13
       try simp -dsimp -implicitDefEqProofs (maxDischargeDepth := 6) [hbg12, hbg13]
       replace hg14 := ifF rfl hg14
       replace hg14 := Option.some.inj hg14; subst hg14
       try simp -dsimp -implicitDefEqProofs (maxDischargeDepth := 6) [hbg12, hbg13]
       exact hK _ _ ⟨rfl, rfl⟩
      ·
       replace hg13 := ifT hbg13 hg13
       replace hg13 := Option.some.inj hg13; subst hg13
       try simp -dsimp -implicitDefEqProofs (maxDischargeDepth := 6) [hbg12, hbg13]
       cases hbg14 : r3
       ·
        replace hg14 := ifF hbg14 hg14
        replace hg14 := Option.some.inj hg14; subst hg14
        try simp -dsimp -implicitDefEqProofs (maxDischargeDepth := 6) [hbg12, hbg13, hbg14]
        exact hK _ _ ⟨rfl, rfl⟩
       ·
        replace hg14 := ifT hbg14 hg14
        replace hg14 := Option.some.inj hg14; subst hg14
        try simp -dsimp -implicitDefEqProofs (maxDischargeDepth := 6) [hbg12, hbg13, hbg14]
        exact hK _ _ ⟨rfl, rfl⟩
    rintro a σ ⟨rfl, rfl⟩
    replace H := Option.some.inj H; subst H
    refine AWP_kp [2] [(2, .bool g14)] rfl ?_
    refine AWP_ret ?_
    exact ⟨[.bool g14], by simp, 4, by simp [encL_nil]⟩
   ·
    replace H := ifF C3 H
    refine AWP_sr tok [] [1, 3, 4, 5, 26, 69] (fun a σ => a = [(1, .fptr [.int .i64 p0.Op, .int .i64 p0.Rd, .int .i64 p0.Rs, .int .i64 p0.Rt, .int .i64 p0.Imm] 0), (3, .bool r1), (4, .bool r2), (5, .bool r3), (26, .int .u8 r5), (69, .bool (ieq r5 66))] ∧ σ = hp E0 [] (N0 + 34)) (fun K hK => ?_) ?_
    ·
     skip
     simp -dsimp -implicitDefEqProofs (maxDischargeDepth := 6)
     exact hK _ _ ⟨rfl, rfl⟩
    rintro a σ ⟨rfl, rfl⟩
    refine AWP_cond (ieq r5 66) rfl (fun C4 => ?_) (fun C4 => ?_)
    ·
     replace H := ifT C4 H
     obtain ⟨g15, hg15, H⟩ := bindE H
     obtain ⟨g16, hg16, H⟩ := bindE H
     obtain ⟨g17, hg17, H⟩ := bindE H
     obtain ⟨g18, hg18, H⟩ := bindE H
     obtain ⟨g20, hg20, H⟩ := bindE H
     refine AWP_sr tok [] [2] (fun a σ => a = [(2, .bool g20)] ∧ σ = hp E0 [] (N0 + 60)) (fun K hK => ?_) ?_
     ·
      skip
      simp -dsimp -implicitDefEqProofs (maxDischargeDepth := 6)
      cases hbg15 : ieq p0.Rd 0
      ·
       replace hg15 := ifF hbg15 hg15
       replace hg15 := Option.some.inj hg15; subst hg15
       try simp -dsimp -implicitDefEqProofs (maxDischargeDepth := 6) [hbg15]
       replace hg16 := ifF rfl hg16
       replace hg16 := Option.some.inj hg16; subst hg16
       try simp -dsimp -implicitDefEqProofs (maxDischargeDepth := 6) [hbg15]
       replace hg17 := ifF rfl hg17
       replace hg17 := Option.some.inj hg17; subst hg17
       try simp -dsimp -implicitDefEqProofs (maxDischargeDepth := 6) [hbg15]
       replace hg18 := ifF rfl hg18
       replace hg18 := Option.some.inj hg18; subst hg18
       try simp -dsimp -implicitDefEqProofs (maxDischargeDepth := 6) [hbg15]
       replace hg20 := ifF rfl hg20
       replace hg20 := Option.some.inj hg20; subst hg20
       try simp -dsimp -implicitDefEqProofs (maxDischargeDepth := 6) [hbg15]
       exact hK _ _ ⟨rfl, rfl⟩
      ·
       replace hg15 := ifT hbg15 hg15
       replace hg15 := Option.some.inj hg15; subst hg15
       try simp -dsimp -implicitDefEqProofs (maxDischargeDepth := 6) [hbg15]
       cases hbg16 : r2
       ·
        replace hg16 := ifF hbg16 hg16
        replace hg16 := Option.some.inj hg16; subst hg16
        try simp -dsimp -implicitDefEqProofs (maxDischargeDepth := 6) [hbg15, hbg16]
        replace hg17 := ifF rfl hg17
        replace hg17 := Option.some.inj hg17; subst hg17
        try simp -dsimp -implicitDefEqProofs (maxDischargeDepth := 6) [hbg15, hbg16]
        replace hg18 := ifF rfl hg18
        replace hg18 := Option.some.inj hg18; subst hg18
        try simp -dsimp -implicitDefEqProofs (maxDischargeDepth := 6) [hbg15, hbg16]
        replace hg20 := ifF rfl hg20
        replace hg20 := Option.some.inj hg20; subst hg20
        try simp -dsimp -implicitDefEqProofs (maxDischargeDepth := 6) [hbg15, hbg16]
        exact hK _ _ ⟨rfl, rfl⟩
       ·
        replace hg16 := ifT hbg16 hg16
        replace hg16 := Option.some.inj hg16; subst hg16
        try simp -dsimp -implicitDefEqProofs (maxDischargeDepth := 6) [hbg15, hbg16]
        cases hbg17 : r3
        ·
         replace hg17 := ifF hbg17 hg17
         replace hg17 := Option.some.inj hg17; subst hg17
         try simp -dsimp -implicitDefEqProofs (maxDischargeDepth := 6) [hbg15, hbg16, hbg17]
         replace hg18 := ifF rfl hg18
         replace hg18 := Option.some.inj hg18; subst hg18
         try simp -dsimp -implicitDefEqProofs (maxDischargeDepth := 6) [hbg15, hbg16, hbg17]
         replace hg20 := ifF rfl hg20
         replace hg20 := Option.some.inj hg20; subst hg20
         try simp -dsimp -implicitDefEqProofs (maxDischargeDepth := 6) [hbg15, hbg16, hbg17]
         exact hK _ _ ⟨rfl, rfl⟩
        ·
         replace hg17 := ifT hbg17 hg17
         replace hg17 := Option.some.inj hg17; subst hg17
         try simp -dsimp -implicitDefEqProofs (maxDischargeDepth := 6) [hbg15, hbg16, hbg17]
         cases hbg18 : (ige p0.Imm (-4096))
         ·
          replace hg18 := ifF hbg18 hg18
          replace hg18 := Option.some.inj hg18; subst hg18
          try simp -dsimp -implicitDefEqProofs (maxDischargeDepth := 6) [hbg15, hbg16, hbg17, hbg18]
          replace hg20 := ifF rfl hg20
          replace hg20 := Option.some.inj hg20; subst hg20
          try simp -dsimp -implicitDefEqProofs (maxDischargeDepth := 6) [hbg15, hbg16, hbg17, hbg18]
          exact hK _ _ ⟨rfl, rfl⟩
         ·
          replace hg18 := ifT hbg18 hg18
          replace hg18 := Option.some.inj hg18; subst hg18
          try simp -dsimp -implicitDefEqProofs (maxDischargeDepth := 6) [hbg15, hbg16, hbg17, hbg18]
          cases hbg20 : (ile p0.Imm 4094)
          ·
           replace hg20 := ifF hbg20 hg20
           replace hg20 := Option.some.inj hg20; subst hg20
           try simp -dsimp -implicitDefEqProofs (maxDischargeDepth := 6) [hbg15, hbg16, hbg17, hbg18, hbg20]
           exact hK _ _ ⟨rfl, rfl⟩
          ·
           replace hg20 := ifT hbg20 hg20
           obtain ⟨v19, hv19, hg20⟩ := bindE hg20
           replace hg20 := Option.some.inj hg20; subst hg20
           try simp -dsimp -implicitDefEqProofs (maxDischargeDepth := 6) [hbg15, hbg16, hbg17, hbg18, hbg20, hv19]
           exact hK _ _ ⟨rfl, rfl⟩
     rintro a σ ⟨rfl, rfl⟩
     replace H := Option.some.inj H; subst H
     refine AWP_kp [2] [(2, .bool g20)] rfl ?_
     refine AWP_ret ?_
     exact ⟨[.bool g20], by simp, 4, by simp [encL_nil]⟩
    ·
     replace H := ifF C4 H
     refine AWP_sr tok [] [1, 3, 26, 96] (fun a σ => a = [(1, .fptr [.int .i64 p0.Op, .int .i64 p0.Rd, .int .i64 p0.Rs, .int .i64 p0.Rt, .int .i64 p0.Imm] 0), (3, .bool r1), (26, .int .u8 r5), (96, .bool (ieq r5 85))] ∧ σ = hp E0 [] (N0 + 36)) (fun K hK => ?_) ?_
     ·
      skip
      simp -dsimp -implicitDefEqProofs (maxDischargeDepth := 6)
      exact hK _ _ ⟨rfl, rfl⟩
     rintro a σ ⟨rfl, rfl⟩
     refine AWP_cond (ieq r5 85) rfl (fun C5 => ?_) (fun C5 => ?_)
     ·
      replace H := ifT C5 H
      obtain ⟨g21, hg21, H⟩ := bindE H
      obtain ⟨g22, hg22, H⟩ := bindE H
      obtain ⟨g23, hg23, H⟩ := bindE H
      obtain ⟨g24, hg24, H⟩ := bindE H
      refine AWP_sr tok [] [2] (fun a σ => a = [(2, .bool g24)] ∧ σ = hp E0 [] (N0 + 58)) (fun K hK => ?_) ?_
      ·
       skip
       simp -dsimp -implicitDefEqProofs (maxDischargeDepth := 6)
       cases hbg21 : r1
       ·
        replace hg21 := ifF hbg21 hg21
        replace hg21 := Option.some.inj hg21; subst hg21
        try simp -dsimp -implicitDefEqProofs (maxDischargeDepth := 6) [hbg21]
        replace hg22 := ifF rfl hg22
        replace hg22 := Option.some.inj hg22; subst hg22
        try simp -dsimp -implicitDefEqProofs (maxDischargeDepth := 6) [hbg21]
        replace hg23 := ifF rfl hg23
        replace hg23 := Option.some.inj hg23; subst hg23
        try simp -dsimp -implicitDefEqProofs (maxDischargeDepth := 6) [hbg21]
        replace hg24 := ifF rfl hg24
        replace hg24 := Option.some.inj hg24; subst hg24
        try simp -dsimp -implicitDefEqProofs (maxDischargeDepth := 6) [hbg21]
        exact hK _ _ ⟨rfl, rfl⟩
       ·
        replace hg21 := ifT hbg21 hg21
        replace hg21 := Option.some.inj hg21; subst hg21
        try simp -dsimp -implicitDefEqProofs (maxDischargeDepth := 6) [hbg21]
        cases hbg22 : (ieq p0.Rs 0)
        ·
         replace hg22 := ifF hbg22 hg22
         replace hg22 := Option.some.inj hg22; subst hg22
         try simp -dsimp -implicitDefEqProofs (maxDischargeDepth := 6) [hbg21, hbg22]
         replace hg23 := ifF rfl hg23
         replace hg23 := Option.some.inj hg23; subst hg23
         try simp -dsimp -implicitDefEqProofs (maxDischargeDepth := 6) [hbg21, hbg22]
         replace hg24 := ifF rfl hg24
         replace hg24 := Option.some.inj hg24; subst hg24
         try simp -dsimp -implicitDefEqProofs (maxDischargeDepth := 6) [hbg21, hbg22]
         exact hK _ _ ⟨rfl, rfl⟩
        ·
         replace hg22 := ifT hbg22 hg22
         replace hg22 := Option.some.inj hg22; subst hg22
         try simp -dsimp -implicitDefEqProofs (maxDischargeDepth := 6) [hbg21, hbg22]
         cases hbg23 : (ieq p0.Rt 0)
         ·
          replace hg23 := ifF hbg23 hg23
          replace hg23 := Option.some.inj hg23; subst hg23
          try simp -dsimp -implicitDefEqProofs (maxDischargeDepth := 6) [hbg21, hbg22, hbg23]
          replace hg24 := ifF rfl hg24
          replace hg24 := Option.some.inj hg24; subst hg24
          try simp -dsimp -implicitDefEqProofs (maxDischargeDepth := 6) [hbg21, hbg22, hbg23]
          exact hK _ _ ⟨rfl, rfl⟩
         ·
          replace hg23 := ifT hbg23 hg23
          replace hg23 := Option.some.inj hg23; subst hg23
          try simp -dsimp -implicitDefEqProofs (maxDischargeDepth := 6) [hbg21, hbg22, hbg23]
          cases hbg24 : (ige p0.Imm 0)
          ·
           replace hg24 := ifF hbg24 hg24
           replace hg24 := Option.some.inj hg24; subst hg24
           try simp -dsimp -implicitDefEqProofs (maxDischargeDepth := 6) [hbg21, hbg22, hbg23, hbg24]
           exact hK _ _ ⟨rfl, rfl⟩
          ·
           replace hg24 := ifT hbg24 hg24
           replace hg24 := Option.some.inj hg24; subst hg24
           try simp -dsimp -implicitDefEqProofs (maxDischargeDepth := 6) [hbg21, hbg22, hbg23, hbg24]
           exact hK _ _ ⟨rfl, rfl⟩
      rintro a σ ⟨rfl, rfl⟩
      replace H := Option.some.inj H; subst H
      refine AWP_kp [2] [(2, .bool g24)] rfl ?_
      refine AWP_ret ?_
      exact ⟨[.bool g24], by simp, 4, by simp [encL_nil]⟩
     ·
      replace H := ifF C5 H
      refine AWP_sr tok [] [1, 3, 26, 119] (fun a σ => a = [(1, .fptr [.int .i64 p0.Op, .int .i64 p0.Rd, .int .i64 p0.Rs, .int .i64 p0.Rt, .int .i64 p0.Imm] 0), (3, .bool r1), (26, .int .u8 r5), (119, .bool (ieq r5 74))] ∧ σ = hp E0 [] (N0 + 38)) (fun K hK => ?_) ?_
      ·
       skip
       simp -dsimp -implicitDefEqProofs (maxDischargeDepth := 6)
       exact hK _ _ ⟨rfl, rfl⟩
      rintro a σ ⟨rfl, rfl⟩
      refine AWP_cond (ieq r5 74) rfl (fun C6 => ?_) (fun C6 => ?_)
      ·
       replace H := ifT C6 H
       obtain ⟨g25, hg25, H⟩ := bindE H
       obtain ⟨g26, hg26, H⟩ := bindE H
       obtain ⟨g27, hg27, H⟩ := bindE H
       obtain ⟨g28, hg28, H⟩ := bindE H
       obtain ⟨g30, hg30, H⟩ := bindE H
       refine AWP_sr tok [] [2] (fun a σ => a = [(2, .bool g30)] ∧ σ = hp E0 [] (N0 + 66)) (fun K hK => ?_) ?_
       ·
        skip
        simp -dsimp -implicitDefEqProofs (maxDischargeDepth := 6)
        cases hbg25 : r1
        ·
         replace hg25 := ifF hbg25 hg25
         replace hg25 := Option.some.inj hg25; subst hg25
         try simp -dsimp -implicitDefEqProofs (maxDischargeDepth := 6) [hbg25]
         replace hg26 := ifF rfl hg26
         replace hg26 := Option.some.inj hg26; subst hg26
         try simp -dsimp -implicitDefEqProofs (maxDischargeDepth := 6) [hbg25]
         replace hg27 := ifF rfl hg27
         replace hg27 := Option.some.inj hg27; subst hg27
         try simp -dsimp -implicitDefEqProofs (maxDischargeDepth := 6) [hbg25]
         replace hg28 := ifF rfl hg28
         replace hg28 := Option.some.inj hg28; subst hg28
         try simp -dsimp -implicitDefEqProofs (maxDischargeDepth := 6) [hbg25]
         replace hg30 := ifF rfl hg30
         replace hg30 := Option.some.inj hg30; subst hg30
         try simp -dsimp -implicitDefEqProofs (maxDischargeDepth := 6) [hbg25]
         exact hK _ _ ⟨rfl, rfl⟩
        ·
         replace hg25 := ifT hbg25 hg25
         replace hg25 := Option.some.inj hg25; subst hg25
         try simp -dsimp -implicitDefEqProofs (maxDischargeDepth := 6) [hbg25]
         cases hbg26 : (ieq p0.Rs 0)
         ·
          replace hg26 := ifF hbg26 hg26
          replace hg26 := Option.some.inj hg26; subst hg26
          try simp -dsimp -implicitDefEqProofs (maxDischargeDepth := 6) [hbg25, hbg26]
          replace hg27 := ifF rfl hg27
          replace hg27 := Option.some.inj hg27; subst hg27
          try simp -dsimp -implicitDefEqProofs (maxDischargeDepth := 6) [hbg25, hbg26]
          replace hg28 := ifF rfl hg28
          replace hg28 := Option.some.inj hg28; subst hg28
          try simp -dsimp -implicitDefEqProofs (maxDischargeDepth := 6) [hbg25, hbg26]
          replace hg30 := ifF rfl hg30
          replace hg30 := Option.some.inj hg30; subst hg30
          try simp -dsimp -implicitDefEqProofs (maxDischargeDepth := 6) [hbg25, hbg26]
          exact hK _ _ ⟨rfl, rfl⟩
         ·
          replace hg26 := ifT hbg26 hg26
          replace hg26 := Option.some.inj hg26; subst hg26
          try simp -dsimp -implicitDefEqProofs (maxDischargeDepth := 6) [hbg25, hbg26]
          cases hbg27 : (ieq p0.Rt 0)
          ·
           replace hg27 := ifF hbg27 hg27
           replace hg27 := Option.some.inj hg27; subst hg27
           try simp -dsimp -implicitDefEqProofs (maxDischargeDepth := 6) [hbg25, hbg26, hbg27]
           replace hg28 := ifF rfl hg28
           replace hg28 := Option.some.inj hg28; subst hg28
           try simp -dsimp -implicitDefEqProofs (maxDischargeDepth := 6) [hbg25, hbg26, hbg27]
           replace hg30 := ifF rfl hg30
           replace hg30 := Option.some.inj hg30; subst hg30
           try simp -dsimp -implicitDefEqProofs (maxDischargeDepth := 6) [hbg25, hbg26, hbg27]
           exact hK _ _ ⟨rfl, rfl⟩
          ·
           replace hg27 := ifT hbg27 hg27
           replace hg27 := Option.some.inj hg27; subst hg27
           try simp -dsimp -implicitDefEqProofs (maxDischargeDepth := 6) [hbg25, hbg26, hbg27]
           cases hbg28 : (ige p0.Imm (-1048576))
           ·
            replace hg28 := ifF hbg28 hg28
            replace hg28 := Option.some.inj hg28; subst hg28
            try simp -dsimp -implicitDefEqProofs (maxDischargeDepth := 6) [hbg25, hbg26, hbg27, hbg28]
            replace hg30 := ifF rfl hg30
            replace hg30 := Option.some.inj hg30; subst hg30
            try simp -dsimp -implicitDefEqProofs (maxDischargeDepth := 6) [hbg25, hbg26, hbg27, hbg28]
            exact hK _ _ ⟨rfl, rfl⟩
           ·
            replace hg28 := ifT hbg28 hg28
            replace hg28 := Option.some.inj hg28; subst hg28
            try simp -dsimp -implicitDefEqProofs (maxDischargeDepth := 6) [hbg25, hbg26, hbg27, hbg28]
            cases hbg30 : (ile p0.Imm 1048574)
            ·
             replace hg30 := ifF hbg30 hg30
             replace hg30 := Option.some.inj hg30; subst hg30
             try simp -dsimp -implicitDefEqProofs (maxDischargeDepth := 6) [hbg25, hbg26, hbg27, hbg28, hbg30]
             exact hK _ _ ⟨rfl, rfl⟩
            ·
             replace hg30 := ifT hbg30 hg30
             obtain ⟨v29, hv29, hg30⟩ := bindE hg30
             replace hg30 := Option.some.inj hg30; subst hg30
             try simp -dsimp -implicitDefEqProofs (maxDischargeDepth := 6) [hbg25, hbg26, hbg27, hbg28, hbg30, hv29]
             exact hK _ _ ⟨rfl, rfl⟩
       rintro a σ ⟨rfl, rfl⟩
       replace H := Option.some.inj H; subst H
       refine AWP_kp [2] [(2, .bool g30)] rfl ?_
       refine AWP_ret ?_
       exact ⟨[.bool g30], by simp, 4, by simp [encL_nil]⟩
      ·
       replace H := ifF C6 H
       refine AWP_sr tok [] [1, 148] (fun a σ => a = [(1, .fptr [.int .i64 p0.Op, .int .i64 p0.Rd, .int .i64 p0.Rs, .int .i64 p0.Rt, .int .i64 p0.Imm] 0), (148, .bool (ieq r5 69))] ∧ σ = hp E0 [] (N0 + 40)) (fun K hK => ?_) ?_
       ·
        skip
        simp -dsimp -implicitDefEqProofs (maxDischargeDepth := 6)
        exact hK _ _ ⟨rfl, rfl⟩
       rintro a σ ⟨rfl, rfl⟩
       refine AWP_cond (ieq r5 69) rfl (fun C7 => ?_) (fun C7 => ?_)
       ·
        replace H := ifT C7 H
        refine AWP_sr tok [] [2] (fun a σ => a = [(2, .bool (eqD p0 (⟨21, 0, 0, 0, 0⟩ : gInstr)))] ∧ σ = hp E0 [] (N0 + 44)) (fun K hK => ?_) ?_
        ·
         skip
         simp -dsimp -implicitDefEqProofs (maxDischargeDepth := 6)
         exact hK _ _ ⟨rfl, rfl⟩
        rintro a σ ⟨rfl, rfl⟩
        replace H := Option.some.inj H; subst H
        refine AWP_kp [2] [(2, .bool (eqD p0 (⟨21, 0, 0, 0, 0⟩ : gInstr)))] rfl ?_
        refine AWP_ret ?_
        exact ⟨[.bool (eqD p0 (⟨21, 0, 0, 0, 0⟩ : gInstr))], by simp, 4, by simp [encL_nil]⟩
       ·
        replace H := ifF C7 H
        refine AWP_skip ?_
        show K1 _ _
        refine keepE (l := []) (x := []) rfl fun a' ha => ?_
        refine hK1 _ _ ?_; rw [ha]
        refine Rc.mk ?_
        refine AWP_sr tok [] [2] (fun a σ => a = [(2, .bool false)] ∧ σ = hp E0 [] (N0 + 41)) (fun K hK => ?_) ?_
        ·
         skip
         simp -dsimp -implicitDefEqProofs (maxDischargeDepth := 6)
         exact hK _ _ ⟨rfl, rfl⟩
        rintro a σ ⟨rfl, rfl⟩
        replace H := Option.some.inj H; subst H
        refine AWP_kp [2] [(2, .bool false)] rfl ?_
        refine AWP_ret ?_
        exact ⟨[.bool false], by simp, 4, by simp [encL_nil]⟩
theorem c73 {p0 : Int} {r : Bool} (H : i_WordValid p0 = some r) : APure Tryd.prog G 73 [.int .i64 p0] (.bool r) := by
 refine APure_fn (fun N0 => ?_) (by simp)
 refine ACalls_fn tok Tryd.func73 (by kernel_rfl) rfl Tryd.ntmps73 Tryd.results73 rfl ?_
 simp only [argsA, Nat.reduceAdd, hp_next]
 unfold i_WordValid at H
 refine AWP_sr tok [] [0] (fun a σ => a = [(0, .int .i64 p0)] ∧ σ = hp E0 [] (N0 + 1)) (fun K hK => ?_) ?_
 ·
  skip
  simp -dsimp -implicitDefEqProofs (maxDischargeDepth := 6)
  exact hK _ _ ⟨rfl, rfl⟩
 rintro a σ ⟨rfl, rfl⟩
 obtain ⟨g1, hg1, H⟩ := bindE H
 refine AWP_sr tok [] [2] (fun a σ => a = [(2, .bool g1)] ∧ σ = hp E0 [] (N0 + 8)) (fun K hK => ?_) ?_
 ·
  skip
  simp -dsimp -implicitDefEqProofs (maxDischargeDepth := 6)
  cases hbg1 : ige p0 (-2147483648)
  ·
   replace hg1 := ifF hbg1 hg1
   replace hg1 := Option.some.inj hg1; subst hg1
   try simp -dsimp -implicitDefEqProofs (maxDischargeDepth := 6) [hbg1]
   exact hK _ _ ⟨rfl, rfl⟩
  ·
   replace hg1 := ifT hbg1 hg1
   replace hg1 := Option.some.inj hg1; subst hg1
   try simp -dsimp -implicitDefEqProofs (maxDischargeDepth := 6) [hbg1]
   exact hK _ _ ⟨rfl, rfl⟩
 rintro a σ ⟨rfl, rfl⟩
 replace H := Option.some.inj H; subst H
 refine AWP_kp [2] [(2, .bool g1)] rfl ?_
 refine AWP_ret ?_
 exact ⟨[.bool g1], by simp, 4, by simp [encL_nil]⟩
theorem c128 {p0 : Int} {r : Int} (H : i_Unsigned p0 = some r) : APure Tryd.prog G 128 [.int .i64 p0] (.int .i64 r) := by
 refine APure_fn (fun N0 => ?_) (by simp)
 refine ACalls_fn tok Tryd.func128 (by kernel_rfl) rfl Tryd.ntmps128 Tryd.results128 rfl ?_
 simp only [argsA, Nat.reduceAdd, hp_next]
 unfold i_Unsigned at H
 refine AWP_sr tok [] [0] (fun a σ => a = [(0, .int .i64 p0)] ∧ σ = hp E0 [] (N0 + 1)) (fun K hK => ?_) ?_
 ·
  skip
  simp -dsimp -implicitDefEqProofs (maxDischargeDepth := 6)
  exact hK _ _ ⟨rfl, rfl⟩
 rintro a σ ⟨rfl, rfl⟩
 refine AWP_sq [0] fun K1 hK1 => ?_
 obtain ⟨r1, hr1, H⟩ := bindE H
 refine AWP_sr tok [] [0, 5] (fun a σ => a = [(0, .int .i64 p0), (5, .bool (bnot r1))] ∧ σ = hp E0 [] (N0 + 4)) (fun K hK => ?_) ?_
 ·
  skip
  simp -dsimp -implicitDefEqProofs (maxDischargeDepth := 6)
  refine (c73 hr1).app ?_; try simp -dsimp -implicitDefEqProofs (maxDischargeDepth := 6)
  exact hK _ _ ⟨rfl, rfl⟩
 rintro a σ ⟨rfl, rfl⟩
 refine AWP_cond (bnot r1) rfl (fun C1 => ?_) (fun C1 => ?_)
 ·
  replace H := ifT C1 H
  refine AWP_sr tok [] [2] (fun a σ => a = [(2, .int .i64 (-1))] ∧ σ = hp E0 [] (N0 + 5)) (fun K hK => ?_) ?_
  ·
   skip
   simp -dsimp -implicitDefEqProofs (maxDischargeDepth := 6)
   exact hK _ _ ⟨rfl, rfl⟩
  rintro a σ ⟨rfl, rfl⟩
  replace H := Option.some.inj H; subst H
  refine AWP_kp [2] [(2, .int .i64 (-1))] rfl ?_
  refine AWP_ret ?_
  exact ⟨[.int .i64 (-1)], by simp, 4, by simp [encL_nil]⟩
 ·
  replace H := ifF C1 H
  refine AWP_skip ?_
  show K1 _ _
  refine keepE (l := [0]) (x := [(0, .int .i64 p0)]) rfl fun a' ha => ?_
  refine hK1 _ _ ?_; rw [ha]
  refine Rc.mk ?_
  refine AWP_sr tok [] [2] (fun a σ => a = [(2, .int .i64 (iconv .i64 (iconv .u32 p0)))] ∧ σ = hp E0 [] (N0 + 8)) (fun K hK => ?_) ?_
  ·
   skip
   simp -dsimp -implicitDefEqProofs (maxDischargeDepth := 6)
   exact hK _ _ ⟨rfl, rfl⟩
  rintro a σ ⟨rfl, rfl⟩
  replace H := Option.some.inj H; subst H
  refine AWP_kp [2] [(2, .int .i64 (iconv .i64 (iconv .u32 p0)))] rfl ?_
  refine AWP_ret ?_
  exact ⟨[.int .i64 (iconv .i64 (iconv .u32 p0))], by simp, 4, by simp [encL_nil]⟩
theorem c146 {p0 : Int} {r : Bool} (H : i_isUnsigned p0 = some r) : APure Tryd.prog G 146 [.int .i64 p0] (.bool r) := by
 refine APure_fn (fun N0 => ?_) (by simp)
 refine ACalls_fn tok Tryd.func146 (by kernel_rfl) rfl Tryd.ntmps146 Tryd.results146 rfl ?_
 simp only [argsA, Nat.reduceAdd, hp_next]
 unfold i_isUnsigned at H
 refine AWP_sr tok [] [0] (fun a σ => a = [(0, .int .i64 p0)] ∧ σ = hp E0 [] (N0 + 1)) (fun K hK => ?_) ?_
 ·
  skip
  simp -dsimp -implicitDefEqProofs (maxDischargeDepth := 6)
  exact hK _ _ ⟨rfl, rfl⟩
 rintro a σ ⟨rfl, rfl⟩
 obtain ⟨g1, hg1, H⟩ := bindE H
 refine AWP_sr tok [] [2] (fun a σ => a = [(2, .bool g1)] ∧ σ = hp E0 [] (N0 + 8)) (fun K hK => ?_) ?_
 ·
  skip
  simp -dsimp -implicitDefEqProofs (maxDischargeDepth := 6)
  cases hbg1 : ige p0 0
  ·
   replace hg1 := ifF hbg1 hg1
   replace hg1 := Option.some.inj hg1; subst hg1
   try simp -dsimp -implicitDefEqProofs (maxDischargeDepth := 6) [hbg1]
   exact hK _ _ ⟨rfl, rfl⟩
  ·
   replace hg1 := ifT hbg1 hg1
   replace hg1 := Option.some.inj hg1; subst hg1
   try simp -dsimp -implicitDefEqProofs (maxDischargeDepth := 6) [hbg1]
   exact hK _ _ ⟨rfl, rfl⟩
 rintro a σ ⟨rfl, rfl⟩
 replace H := Option.some.inj H; subst H
 refine AWP_kp [2] [(2, .bool g1)] rfl ?_
 refine AWP_ret ?_
 exact ⟨[.bool g1], by simp, 4, by simp [encL_nil]⟩
theorem c127 {p0 : Int} {p1 : Int} {p2 : Int} {r : Int} (H : i_Bits p0 p1 p2 = some r) : APure Tryd.prog G 127 [.int .i64 p0, .int .i64 p1, .int .i64 p2] (.int .i64 r) := by
 refine APure_fn (fun N0 => ?_) (by simp)
 refine ACalls_fn tok Tryd.func127 (by kernel_rfl) rfl Tryd.ntmps127 Tryd.results127 rfl ?_
 simp only [argsA, Nat.reduceAdd, hp_next]
 unfold i_Bits at H
 refine AWP_sr tok [] [0, 1, 2] (fun a σ => a = [(0, .int .i64 p0), (1, .int .i64 p1), (2, .int .i64 p2)] ∧ σ = hp E0 [] (N0 + 1)) (fun K hK => ?_) ?_
 ·
  skip
  simp -dsimp -implicitDefEqProofs (maxDischargeDepth := 6)
  exact hK _ _ ⟨rfl, rfl⟩
 rintro a σ ⟨rfl, rfl⟩
 refine AWP_sq [0, 1, 2] fun K1 hK1 => ?_
 obtain ⟨r1, hr1, H⟩ := bindE H
 obtain ⟨g2, hg2, H⟩ := bindE H
 obtain ⟨g3, hg3, H⟩ := bindE H
 obtain ⟨g4, hg4, H⟩ := bindE H
 obtain ⟨g5, hg5, H⟩ := bindE H
 refine AWP_sr tok [] [0, 1, 2, 27] (fun a σ => a = [(0, .int .i64 p0), (1, .int .i64 p1), (2, .int .i64 p2), (27, .bool g5)] ∧ σ = hp E0 [] (N0 + 22)) (fun K hK => ?_) ?_
 ·
  skip
  simp -dsimp -implicitDefEqProofs (maxDischargeDepth := 6)
  refine (c146 hr1).app ?_; try simp -dsimp -implicitDefEqProofs (maxDischargeDepth := 6)
  cases hbg2 : bnot r1
  ·
   replace hg2 := ifF hbg2 hg2
   replace hg2 := Option.some.inj hg2; subst hg2
   try simp -dsimp -implicitDefEqProofs (maxDischargeDepth := 6) [hbg2]
   cases hbg3 : (ilt p1 0)
   ·
    replace hg3 := ifF hbg3 hg3
    replace hg3 := Option.some.inj hg3; subst hg3
    try simp -dsimp -implicitDefEqProofs (maxDischargeDepth := 6) [hbg2, hbg3]
    cases hbg4 : (igt p1 31)
    ·
     replace hg4 := ifF hbg4 hg4
     replace hg4 := Option.some.inj hg4; subst hg4
     try simp -dsimp -implicitDefEqProofs (maxDischargeDepth := 6) [hbg2, hbg3, hbg4]
     cases hbg5 : (ilt p2 1)
     ·
      replace hg5 := ifF hbg5 hg5
      replace hg5 := Option.some.inj hg5; subst hg5
      try simp -dsimp -implicitDefEqProofs (maxDischargeDepth := 6) [hbg2, hbg3, hbg4, hbg5]
      exact hK _ _ ⟨rfl, rfl⟩
     ·
      replace hg5 := ifT hbg5 hg5
      replace hg5 := Option.some.inj hg5; subst hg5
      try simp -dsimp -implicitDefEqProofs (maxDischargeDepth := 6) [hbg2, hbg3, hbg4, hbg5]
      exact hK _ _ ⟨rfl, rfl⟩
    ·
     replace hg4 := ifT hbg4 hg4
     replace hg4 := Option.some.inj hg4; subst hg4
     try simp -dsimp -implicitDefEqProofs (maxDischargeDepth := 6) [hbg2, hbg3, hbg4]
     replace hg5 := ifT rfl hg5
     replace hg5 := Option.some.inj hg5; subst hg5
     try simp -dsimp -implicitDefEqProofs (maxDischargeDepth := 6) [hbg2, hbg3, hbg4]
     exact hK _ _ ⟨rfl, rfl⟩
   ·
    replace hg3 := ifT hbg3 hg3
    replace hg3 := Option.some.inj hg3; subst hg3
    try simp -dsimp -implicitDefEqProofs (maxDischargeDepth := 6) [hbg2, hbg3]
    replace hg4 := ifT rfl hg4
    replace hg4 := Option.some.inj hg4; subst hg4
    try simp -dsimp -implicitDefEqProofs (maxDischargeDepth := 6) [hbg2, hbg3]
    replace hg5 := ifT rfl hg5
    replace hg5 := Option.some.inj hg5; subst hg5
    try simp -dsimp -implicitDefEqProofs (maxDischargeDepth := 6) [hbg2, hbg3]
    exact hK _ _ ⟨rfl, rfl⟩
  ·
   replace hg2 := ifT hbg2 hg2
   replace hg2 := Option.some.inj hg2; subst hg2
   try simp -dsimp -implicitDefEqProofs (maxDischargeDepth := 6) [hbg2]
   replace hg3 := ifT rfl hg3
   replace hg3 := Option.some.inj hg3; subst hg3
   try simp -dsimp -implicitDefEqProofs (maxDischargeDepth := 6) [hbg2]
   replace hg4 := ifT rfl hg4
   replace hg4 := Option.some.inj hg4; subst hg4
   try simp -dsimp -implicitDefEqProofs (maxDischargeDepth := 6) [hbg2]
   replace hg5 := ifT rfl hg5
   replace hg5 := Option.some.inj hg5; subst hg5
   try simp -dsimp -implicitDefEqProofs (maxDischargeDepth := 6) [hbg2]
   exact hK _ _ ⟨rfl, rfl⟩
 rintro a σ ⟨rfl, rfl⟩
 refine AWP_cond g5 rfl (fun C1 => ?_) (fun C1 => ?_)
 ·
  replace H := ifT C1 H
  refine AWP_sr tok [] [6] (fun a σ => a = [(6, .int .i64 0)] ∧ σ = hp E0 [] (N0 + 23)) (fun K hK => ?_) ?_
  ·
   skip
   simp -dsimp -implicitDefEqProofs (maxDischargeDepth := 6)
   exact hK _ _ ⟨rfl, rfl⟩
  rintro a σ ⟨rfl, rfl⟩
  replace H := Option.some.inj H; subst H
  refine AWP_kp [6] [(6, .int .i64 0)] rfl ?_
  refine AWP_ret ?_
  exact ⟨[.int .i64 0], by simp, 4, by simp [encL_nil]⟩
 ·
  replace H := ifF C1 H
  refine AWP_skip ?_
  show K1 _ _
  refine keepE (l := [0, 1, 2]) (x := [(0, .int .i64 p0), (1, .int .i64 p1), (2, .int .i64 p2)]) rfl fun a' ha => ?_
  refine hK1 _ _ ?_; rw [ha]
  refine Rc.mk ?_
  obtain ⟨v6, hv6, H⟩ := bindE H
  obtain ⟨v7, hv7, H⟩ := bindE H
  refine AWP_sd tok tokM [] [] [0, 1, 2, 3, 4, 5, 6, 7] [6] (fun a σ => a = [(6, .int .i64 (iand .i64 v6 (isub .i64 v7 1)))] ∧ σ = hp E0 [] (N0 + 30)) (by decide) (fun K hK => ?_) ?_
  ·
   simp only [pickL, nthO_succ, nthO_zero]
   simp -dsimp -implicitDefEqProofs (maxDischargeDepth := 6) [hv6, hv7]
   exact hK _ _ ⟨rfl, rfl⟩
  rintro a σ ⟨rfl, rfl⟩
  replace H := Option.some.inj H; subst H
  refine AWP_kp [6] [(6, .int .i64 (iand .i64 v6 (isub .i64 v7 1)))] rfl ?_
  refine AWP_ret ?_
  exact ⟨[.int .i64 (iand .i64 v6 (isub .i64 v7 1))], by simp, 4, by simp [encL_nil]⟩
theorem c132 {p0 : Int} {p1 : Int} {p2 : Int} {pf0 : Int} {r : Int} (H : i_InstrEncode_1 p0 p1 p2 pf0 = some r) : APure Tryd.prog G 132 [.int .i64 p0, .int .i64 p1, .int .i64 p2, .fptr [.int .i64 pf0] 0] (.int .i64 r) := by
 refine APure_fn (fun N0 => ?_) (by simp)
 refine ACalls_fn tok Tryd.func132 (by kernel_rfl) rfl Tryd.ntmps132 Tryd.results132 rfl ?_
 simp only [argsA, Nat.reduceAdd, hp_next]
 unfold i_InstrEncode_1 at H
 refine AWP_sr tok [] [0, 1, 2, 3] (fun a σ => a = [(0, .int .i64 p0), (1, .int .i64 p1), (2, .int .i64 p2), (3, .fptr [.int .i64 pf0] 0)] ∧ σ = hp E0 [] (N0 + 1)) (fun K hK => ?_) ?_
 ·
  skip
  simp -dsimp -implicitDefEqProofs (maxDischargeDepth := 6)
  exact hK _ _ ⟨rfl, rfl⟩
 rintro a σ ⟨rfl, rfl⟩
 obtain ⟨r1, hr1, H⟩ := bindE H
 obtain ⟨v2, hv2, H⟩ := bindE H
 refine AWP_sr tok [] [7] (fun a σ => a = [(7, .int .i64 v2)] ∧ σ = hp E0 [] (N0 + 8)) (fun K hK => ?_) ?_
 ·
  skip
  simp -dsimp -implicitDefEqProofs (maxDischargeDepth := 6) [hv2]
  refine (c127 hr1).app ?_; try simp -dsimp -implicitDefEqProofs (maxDischargeDepth := 6) [hv2]
  exact hK _ _ ⟨rfl, rfl⟩
 rintro a σ ⟨rfl, rfl⟩
 replace H := Option.some.inj H; subst H
 refine AWP_kp [7] [(7, .int .i64 v2)] rfl ?_
 refine AWP_ret ?_
 exact ⟨[.int .i64 v2], by simp, 4, by simp [encL_nil]⟩
theorem c77 {p0 : gInstr} {r : Int × Bool} (H : i_InstrEncode p0 = some r) : APure Tryd.prog G 77 [.agg [.int .i64 p0.Op, .int .i64 p0.Rd, .int .i64 p0.Rs, .int .i64 p0.Rt, .int .i64 p0.Imm]] (.tup [.int .i64 r.1, .bool r.2]) := by
 refine APure_fn (fun N0 => ?_) (by simp)
 refine ACalls_fn tok Tryd.func77 (by kernel_rfl) rfl Tryd.ntmps77 Tryd.results77 rfl ?_
 simp only [argsA, Nat.reduceAdd, hp_next]
 unfold i_InstrEncode at H
 refine AWP_sr tok [0] [1] (fun a σ => a = [(1, .fptr [.int .i64 p0.Op, .int .i64 p0.Rd, .int .i64 p0.Rs, .int .i64 p0.Rt, .int .i64 p0.Imm] 0)] ∧ σ = hp E0 [] (N0 + 3)) (fun K hK => ?_) ?_
 ·
  skip
  simp -dsimp -implicitDefEqProofs (maxDischargeDepth := 6)
  exact hK _ _ ⟨rfl, rfl⟩
 rintro a σ ⟨rfl, rfl⟩
 refine AWP_sq [1] fun K1 hK1 => ?_
 obtain ⟨r1, hr1, H⟩ := bindE H
 refine AWP_sr tok [] [1, 10] (fun a σ => a = [(1, .fptr [.int .i64 p0.Op, .int .i64 p0.Rd, .int .i64 p0.Rs, .int .i64 p0.Rt, .int .i64 p0.Imm] 0), (10, .bool (bnot r1))] ∧ σ = hp E0 [] (N0 + 6)) (fun K hK => ?_) ?_
 ·
  skip
  simp -dsimp -implicitDefEqProofs (maxDischargeDepth := 6)
  refine (c44 hr1).app ?_; try simp -dsimp -implicitDefEqProofs (maxDischargeDepth := 6)
  exact hK _ _ ⟨rfl, rfl⟩
 rintro a σ ⟨rfl, rfl⟩
 refine AWP_cond (bnot r1) rfl (fun C1 => ?_) (fun C1 => ?_)
 ·
  replace H := ifT C1 H
  refine AWP_sr tok [] [2, 3] (fun a σ => a = [(2, .int .i64 0), (3, .bool false)] ∧ σ = hp E0 [] (N0 + 8)) (fun K hK => ?_) ?_
  ·
   skip
   simp -dsimp -implicitDefEqProofs (maxDischargeDepth := 6)
   exact hK _ _ ⟨rfl, rfl⟩
  rintro a σ ⟨rfl, rfl⟩
  replace H := Option.some.inj H; subst H
  refine AWP_kp [2, 3] [(2, .int .i64 0), (3, .bool false)] rfl ?_
  refine AWP_ret ?_
  exact ⟨[.int .i64 0, .bool false], by simp, 4, by simp [encL_nil]⟩
 ·
  replace H := ifF C1 H
  refine AWP_skip ?_
  show K1 _ _
  refine keepE (l := [1]) (x := [(1, .fptr [.int .i64 p0.Op, .int .i64 p0.Rd, .int .i64 p0.Rs, .int .i64 p0.Rt, .int .i64 p0.Imm] 0)]) rfl fun a' ha => ?_
  refine hK1 _ _ ?_; rw [ha]
  refine Rc.mk ?_
  obtain ⟨v2, hv2, H⟩ := bindE H
  refine AWP_sr tok [] [1, 4] (fun a σ => a = [(1, .fptr [.int .i64 p0.Op, .int .i64 p0.Rd, .int .i64 p0.Rs, .int .i64 p0.Rt, .int .i64 p0.Imm] 0), (4, .ptr (N0 + 11) 0 0)] ∧ σ = hp E0 [(N0 + 11, some ⟨141, 4, [[.str v2.name, .int .i64 v2.opcode, .int .i64 v2.funct3, .int .i64 v2.funct7]]⟩)] (N0 + 13)) (fun K hK => ?_) ?_
  ·
   skip
   simp -dsimp -implicitDefEqProofs (maxDischargeDepth := 6) [gx142 hv2]
   exact hK _ _ ⟨rfl, rfl⟩
  rintro a σ ⟨rfl, rfl⟩
  obtain ⟨r3, hr3, H⟩ := bindE H
  refine AWP_sr tok [] [1, 4, 5] (fun a σ => a = [(1, .fptr [.int .i64 p0.Op, .int .i64 p0.Rd, .int .i64 p0.Rs, .int .i64 p0.Rt, .int .i64 p0.Imm] 0), (4, .ptr (N0 + 11) 0 0), (5, .ptr (N0 + 16) 0 0)] ∧ σ = hp E0 [(N0 + 11, some ⟨141, 4, [[.str v2.name, .int .i64 v2.opcode, .int .i64 v2.funct3, .int .i64 v2.funct7]]⟩), (N0 + 16, some ⟨3, 1, [[.int .i64 r3]]⟩)] (N0 + 18)) (fun K hK => ?_) ?_
  ·
   skip
   simp -dsimp -implicitDefEqProofs (maxDischargeDepth := 6)
   refine (c128 hr3).app ?_; try simp -dsimp -implicitDefEqProofs (maxDischargeDepth := 6)
   exact hK _ _ ⟨rfl, rfl⟩
  rintro a σ ⟨rfl, rfl⟩
  refine AWP_sr tok [] [1, 4, 6] (fun a σ => a = [(1, .fptr [.int .i64 p0.Op, .int .i64 p0.Rd, .int .i64 p0.Rs, .int .i64 p0.Rt, .int .i64 p0.Imm] 0), (4, .ptr (N0 + 11) 0 0), (6, .clo 132 [] [.ptr (N0 + 16) 0 0])] ∧ σ = hp E0 [(N0 + 11, some ⟨141, 4, [[.str v2.name, .int .i64 v2.opcode, .int .i64 v2.funct3, .int .i64 v2.funct7]]⟩), (N0 + 16, some ⟨3, 1, [[.int .i64 r3]]⟩)] (N0 + 20)) (fun K hK => ?_) ?_
  ·
   skip
   simp -dsimp -implicitDefEqProofs (maxDischargeDepth := 6)
   exact hK _ _ ⟨rfl, rfl⟩
  rintro a σ ⟨rfl, rfl⟩
  obtain ⟨v4, hv4, H⟩ := bindE H
  obtain ⟨v5, hv5, H⟩ := bindE H
  obtain ⟨v6, hv6, H⟩ := bindE H
  refine AWP_sr tok [] [1, 4, 6, 7] (fun a σ => a = [(1, .fptr [.int .i64 p0.Op, .int .i64 p0.Rd, .int .i64 p0.Rs, .int .i64 p0.Rt, .int .i64 p0.Imm] 0), (4, .ptr (N0 + 11) 0 0), (6, .clo 132 [] [.ptr (N0 + 16) 0 0]), (7, .int .i64 (ior .i64 (ior .i64 (ior .i64 v4 v5) v6) v2.opcode))] ∧ σ = hp E0 [(N0 + 11, some ⟨141, 4, [[.str v2.name, .int .i64 v2.opcode, .int .i64 v2.funct3, .int .i64 v2.funct7]]⟩), (N0 + 16, some ⟨3, 1, [[.int .i64 r3]]⟩)] (N0 + 35)) (fun K hK => ?_) ?_
  ·
   skip
   simp -dsimp -implicitDefEqProofs (maxDischargeDepth := 6) [hv4, hv5, hv6]
   exact hK _ _ ⟨rfl, rfl⟩
  rintro a σ ⟨rfl, rfl⟩
  refine AWP_sq [4] fun K2 hK2 => ?_
  obtain ⟨r7, hr7, H⟩ := bindE H
  refine AWP_sr tok [] [1, 4, 6, 7, 36] (fun a σ => a = [(1, .fptr [.int .i64 p0.Op, .int .i64 p0.Rd, .int .i64 p0.Rs, .int .i64 p0.Rt, .int .i64 p0.Imm] 0), (4, .ptr (N0 + 11) 0 0), (6, .clo 132 [] [.ptr (N0 + 16) 0 0]), (7, .int .i64 (ior .i64 (ior .i64 (ior .i64 v4 v5) v6) v2.opcode)), (36, .int .u8 r7)] ∧ σ = hp E0 [(N0 + 11, some ⟨141, 4, [[.str v2.name, .int .i64 v2.opcode, .int .i64 v2.funct3, .int .i64 v2.funct7]]⟩), (N0 + 16, some ⟨3, 1, [[.int .i64 r3]]⟩)] (N0 + 38)) (fun K hK => ?_) ?_
  ·
   skip
   simp -dsimp -implicitDefEqProofs (maxDischargeDepth := 6)
   refine (c86 hr7).app ?_; try simp -dsimp -implicitDefEqProofs (maxDischargeDepth := 6)
   exact hK _ _ ⟨rfl, rfl⟩
  rintro a σ ⟨rfl, rfl⟩
  refine AWP_block (AWP_thenB ?_)
  refine AWP_sr tok [] [1, 4, 6, 7, 36, 37] (fun a σ => a = [(1, .fptr [.int .i64 p0.Op, .int .i64 p0.Rd, .int .i64 p0.Rs, .int .i64 p0.Rt, .int .i64 p0.Imm] 0), (4, .ptr (N0 + 11) 0 0), (6, .clo 132 [] [.ptr (N0 + 16) 0 0]), (7, .int .i64 (ior .i64 (ior .i64 (ior .i64 v4 v5) v6) v2.opcode)), (36, .int .u8 r7), (37, .bool (ieq r7 82))] ∧ σ = hp E0 [(N0 + 11, some ⟨141, 4, [[.str v2.name, .int .i64 v2.opcode, .int .i64 v2.funct3, .int .i64 v2.funct7]]⟩), (N0 + 16, some ⟨3, 1, [[.int .i64 r3]]⟩)] (N0 + 40)) (fun K hK => ?_) ?_
  ·
   skip
   simp -dsimp -implicitDefEqProofs (maxDischargeDepth := 6)
   exact hK _ _ ⟨rfl, rfl⟩
  rintro a σ ⟨rfl, rfl⟩
  refine AWP_cond (ieq r7 82) rfl (fun C2 => ?_) (fun C2 => ?_)
  ·
   replace H := ifT C2 H
   obtain ⟨v8, hv8, H⟩ := bindE H
   obtain ⟨v9, hv9, H⟩ := bindE H
   refine AWP_sr tok [] [2, 3] (fun a σ => a = [(2, .int .i64 (ior .i64 (ior .i64 v8 (ior .i64 (ior .i64 (ior .i64 v4 v5) v6) v2.opcode)) v9)), (3, .bool true)] ∧ σ = hp E0 [(N0 + 11, some ⟨141, 4, [[.str v2.name, .int .i64 v2.opcode, .int .i64 v2.funct3, .int .i64 v2.funct7]]⟩), (N0 + 16, some ⟨3, 1, [[.int .i64 r3]]⟩)] (N0 + 51)) (fun K hK => ?_) ?_
   ·
    skip
    simp -dsimp -implicitDefEqProofs (maxDischargeDepth := 6) [hv8, hv9]
    exact hK _ _ ⟨rfl, rfl⟩
   rintro a σ ⟨rfl, rfl⟩
   replace H := Option.some.inj H; subst H
   refine AWP_kp [2, 3] [(2, .int .i64 (ior .i64 (ior .i64 v8 (ior .i64 (ior .i64 (ior .i64 v4 v5) v6) v2.opcode)) v9)), (3, .bool true)] rfl ?_
   refine AWP_ret ?_
   exact ⟨[.int .i64 (ior .i64 (ior .i64 v8 (ior .i64 (ior .i64 (ior .i64 v4 v5) v6) v2.opcode)) v9), .bool true], by simp, 4, by simp [encL_nil]⟩
  ·
   replace H := ifF C2 H
   refine AWP_sr tok [] [1, 4, 6, 7, 36, 48] (fun a σ => a = [(1, .fptr [.int .i64 p0.Op, .int .i64 p0.Rd, .int .i64 p0.Rs, .int .i64 p0.Rt, .int .i64 p0.Imm] 0), (4, .ptr (N0 + 11) 0 0), (6, .clo 132 [] [.ptr (N0 + 16) 0 0]), (7, .int .i64 (ior .i64 (ior .i64 (ior .i64 v4 v5) v6) v2.opcode)), (36, .int .u8 r7), (48, .bool (ieq r7 73))] ∧ σ = hp E0 [(N0 + 11, some ⟨141, 4, [[.str v2.name, .int .i64 v2.opcode, .int .i64 v2.funct3, .int .i64 v2.funct7]]⟩), (N0 + 16, some ⟨3, 1, [[.int .i64 r3]]⟩)] (N0 + 42)) (fun K hK => ?_) ?_
   ·
    skip
    simp -dsimp -implicitDefEqProofs (maxDischargeDepth := 6)
    exact hK _ _ ⟨rfl, rfl⟩
   rintro a σ ⟨rfl, rfl⟩
   refine AWP_cond (ieq r7 73) rfl (fun C3 => ?_) (fun C3 => ?_)
   ·
    replace H := ifT C3 H
    obtain ⟨v10, hv10, H⟩ := bindE H
    obtain ⟨r11, hr11, H⟩ := bindE H
    refine AWP_sd tok tokM [] [1] [0, 2, 4, 5, 6, 1, 3, 7, 8, 9] [2, 3] (fun a σ => a = [(2, .int .i64 (ior .i64 (ior .i64 r11 (ior .i64 (ior .i64 (ior .i64 v4 v5) v6) v2.opcode)) v10)), (3, .bool true)] ∧ σ = hp E0 [(N0 + 11, some ⟨141, 4, [[.str v2.name, .int .i64 v2.opcode, .int .i64 v2.funct3, .int .i64 v2.funct7]]⟩), (N0 + 16, some ⟨3, 1, [[.int .i64 r3]]⟩)] (N0 + 52)) (by decide) (fun K hK => ?_) ?_
    ·
     simp only [pickL, nthO_succ, nthO_zero]
     simp -dsimp -implicitDefEqProofs (maxDischargeDepth := 6) [hv10]
     refine (borrow 8 (c132 hr11) (by simp [hv10]) rfl).mono ?_; rintro _ _ ⟨rfl, rfl⟩; try simp -dsimp -implicitDefEqProofs (maxDischargeDepth := 6) [hv10]
     exact hK _ _ ⟨rfl, rfl⟩
    rintro a σ ⟨rfl, rfl⟩
    replace H := Option.some.inj H; subst H
    refine AWP_kp [2, 3] [(2, .int .i64 (ior .i64 (ior .i64 r11 (ior .i64 (ior .i64 (ior .i64 v4 v5) v6) v2.opcode)) v10)), (3, .bool true)] rfl ?_
    refine AWP_ret ?_
    exact ⟨[.int .i64 (ior .i64 (ior .i64 r11 (ior .i64 (ior .i64 (ior .i64 v4 v5) v6) v2.opcode)) v10), .bool true], by simp, 4, by simp [encL_nil]⟩
   ·
    replace H := ifF C3 H
    refine AWP_sr tok [] [1, 4, 6, 7, 36, 58] (fun a σ => a = [(1, .fptr [.int .i64 p0.Op, .int .i64 p0.Rd, .int .i64 p0.Rs, .int .i64 p0.Rt, .int .i64 p0.Imm] 0), (4, .ptr (N0 + 11) 0 0), (6, .clo 132 [] [.ptr (N0 + 16) 0 0]), (7, .int .i64 (ior .i64 (ior .i64 (ior .i64 v4 v5) v6) v2.opcode)), (36, .int .u8 r7), (58, .bool (ieq r7 83))] ∧ σ = hp E0 [(N0 + 11, some ⟨141, 4, [[.str v2.name, .int .i64 v2.opcode, .int .i64 v2.funct3, .int .i64 v2.funct7]]⟩), (N0 + 16, some ⟨3, 1, [[.int .i64 r3]]⟩)] (N0 + 44)) (fun K hK => ?_) ?_
    ·
     skip
     simp -dsimp -implicitDefEqProofs (maxDischargeDepth := 6)
     exact hK _ _ ⟨rfl, rfl⟩
    rintro a σ ⟨rfl, rfl⟩
    refine AWP_cond (ieq r7 83) rfl (fun C4 => ?_) (fun C4 => ?_)
    ·
     replace H := ifT C4 H
     obtain ⟨r12, hr12, H⟩ := bindE H
     obtain ⟨r13, hr13, H⟩ := bindE H
     refine AWP_sr tok [] [2, 3] (fun a σ => a = [(2, .int .i64 (ior .i64 (ior .i64 r12 (ior .i64 (ior .i64 (ior .i64 v4 v5) v6) v2.opcode)) r13)), (3, .bool true)] ∧ σ = hp E0 [(N0 + 11, some ⟨141, 4, [[.str v2.name, .int .i64 v2.opcode, .int .i64 v2.funct3, .int .i64 v2.funct7]]⟩), (N0 + 16, some ⟨3, 1, [[.int .i64 r3]]⟩)] (N0 + 53)) (fun K hK => ?_) ?_
     ·
      skip
      simp -dsimp -implicitDefEqProofs (maxDischargeDepth := 6)
      refine (borrow 8 (c132 hr12) (by simp []) rfl).mono ?_; rintro _ _ ⟨rfl, rfl⟩; try simp -dsimp -implicitDefEqProofs (maxDischargeDepth := 6)
      refine (borrow 8 (c132 hr13) (by simp []) rfl).mono ?_; rintro _ _ ⟨rfl, rfl⟩; try simp -dsimp -implicitDefEqProofs (maxDischargeDepth := 6)
      exact hK _ _ ⟨rfl, rfl⟩
     rintro a σ ⟨rfl, rfl⟩
     replace H := Option.some.inj H; subst H
     refine AWP_kp [2, 3] [(2, .int .i64 (ior .i64 (ior .i64 r12 (ior .i64 (ior .i64 (ior .i64 v4 v5) v6) v2.opcode)) r13)), (3, .bool true)] rfl ?_
     refine AWP_ret ?_
     exact ⟨[.int .i64 (ior .i64 (ior .i64 r12 (ior .i64 (ior .i64 (ior .i64 v4 v5) v6) v2.opcode)) r13), .bool true], by simp, 4, by simp [encL_nil]⟩
    ·
     replace H := ifF C4 H
     refine AWP_sr tok [] [1, 4, 6, 7, 36, 67] (fun a σ => a = [(1, .fptr [.int .i64 p0.Op, .int .i64 p0.Rd, .int .i64 p0.Rs, .int .i64 p0.Rt, .int .i64 p0.Imm] 0), (4, .ptr (N0 + 11) 0 0), (6, .clo 132 [] [.ptr (N0 + 16) 0 0]), (7, .int .i64 (ior .i64 (ior .i64 (ior .i64 v4 v5) v6) v2.opcode)), (36, .int .u8 r7), (67, .bool (ieq r7 66))] ∧ σ = hp E0 [(N0 + 11, some ⟨141, 4, [[.str v2.name, .int .i64 v2.opcode, .int .i64 v2.funct3, .int .i64 v2.funct7]]⟩), (N0 + 16, some ⟨3, 1, [[.int .i64 r3]]⟩)] (N0 + 46)) (fun K hK => ?_) ?_
     ·
      skip
      simp -dsimp -implicitDefEqProofs (maxDischargeDepth := 6)
      exact hK _ _ ⟨rfl, rfl⟩
     rintro a σ ⟨rfl, rfl⟩
     refine AWP_cond (ieq r7 66) rfl (fun C5 => ?_) (fun C5 => ?_)
     ·
      replace H := ifT C5 H
      obtain ⟨r14, hr14, H⟩ := bindE H
      obtain ⟨r15, hr15, H⟩ := bindE H
      obtain ⟨r16, hr16, H⟩ := bindE H
      obtain ⟨r17, hr17, H⟩ := bindE H
      refine AWP_sr tok [] [2, 3] (fun a σ => a = [(2, .int .i64 (ior .i64 (ior .i64 (ior .i64 (ior .i64 r14 r15) (ior .i64 (ior .i64 (ior .i64 v4 v5) v6) v2.opcode)) r16) r17)), (3, .bool true)] ∧ σ = hp E0 [(N0 + 11, some ⟨141, 4, [[.str v2.name, .int .i64 v2.opcode, .int .i64 v2.funct3, .int .i64 v2.funct7]]⟩), (N0 + 16, some ⟨3, 1, [[.int .i64 r3]]⟩)] (N0 + 61)) (fun K hK => ?_) ?_
      ·
       skip
       simp -dsimp -implicitDefEqProofs (maxDischargeDepth := 6)
       refine (borrow 8 (c132 hr14) (by simp []) rfl).mono ?_; rintro _ _ ⟨rfl, rfl⟩; try simp -dsimp -implicitDefEqProofs (maxDischargeDepth := 6)
       refine (borrow 8 (c132 hr15) (by simp []) rfl).mono ?_; rintro _ _ ⟨rfl, rfl⟩; try simp -dsimp -implicitDefEqProofs (maxDischargeDepth := 6)
       refine (borrow 8 (c132 hr16) (by simp []) rfl).mono ?_; rintro _ _ ⟨rfl, rfl⟩; try simp -dsimp -implicitDefEqProofs (maxDischargeDepth := 6)
       refine (borrow 8 (c132 hr17) (by simp []) rfl).mono ?_; rintro _ _ ⟨rfl, rfl⟩; try simp -dsimp -implicitDefEqProofs (maxDischargeDepth := 6)
       exact hK _ _ ⟨rfl, rfl⟩
      rintro a σ ⟨rfl, rfl⟩
      replace H := Option.some.inj H; subst H
      refine AWP_kp [2, 3] [(2, .int .i64 (ior .i64 (ior .i64 (ior .i64 (ior .i64 r14 r15) (ior .i64 (ior .i64 (ior .i64 v4 v5) v6) v2.opcode)) r16) r17)), (3, .bool true)] rfl ?_
      refine AWP_ret ?_
      exact ⟨[.int .i64 (ior .i64 (ior .i64 (ior .i64 (ior .i64 r14 r15) (ior .i64 (ior .i64 (ior .i64 v4 v5) v6) v2.opcode)) r16) r17), .bool true], by simp, 4, by simp [encL_nil]⟩
     ·
      replace H := ifF C5 H
      refine AWP_sr tok [] [1, 4, 6, 36, 82] (fun a σ => a = [(1, .fptr [.int .i64 p0.Op, .int .i64 p0.Rd, .int .i64 p0.Rs, .int .i64 p0.Rt, .int .i64 p0.Imm] 0), (4, .ptr (N0 + 11) 0 0), (6, .clo 132 [] [.ptr (N0 + 16) 0 0]), (36, .int .u8 r7), (82, .bool (ieq r7 85))] ∧ σ = hp E0 [(N0 + 11, some ⟨141, 4, [[.str v2.name, .int .i64 v2.opcode, .int .i64 v2.funct3, .int .i64 v2.funct7]]⟩), (N0 + 16, some ⟨3, 1, [[.int .i64 r3]]⟩)] (N0 + 48)) (fun K hK => ?_) ?_
      ·
       skip
       simp -dsimp -implicitDefEqProofs (maxDischargeDepth := 6)
       exact hK _ _ ⟨rfl, rfl⟩
      rintro a σ ⟨rfl, rfl⟩
      refine AWP_cond (ieq r7 85) rfl (fun C6 => ?_) (fun C6 => ?_)
      ·
       replace H := ifT C6 H
       obtain ⟨v18, hv18, H⟩ := bindE H
       obtain ⟨r19, hr19, H⟩ := bindE H
       refine AWP_sy tok tokM [] [1, 5, 7] [0, 2, 3, 4, 6, 7, 1, 5, 8, 9, 10] [(1, [7])] [2, 3] (fun a σ => a = [(2, .int .i64 (ior .i64 (ior .i64 r19 v18) v2.opcode)), (3, .bool true)] ∧ σ = hp E0 [(N0 + 11, some ⟨141, 4, [[.str v2.name, .int .i64 v2.opcode, .int .i64 v2.funct3, .int .i64 v2.funct7]]⟩), (N0 + 16, some ⟨3, 1, [[.int .i64 r3]]⟩)] (N0 + 59)) (by decide) (fun K hK => ?_) ?_
       ·
        simp only [pickL, nthO_succ, nthO_zero]
        simp -dsimp -implicitDefEqProofs (maxDischargeDepth := 6) [hv18]
        refine (borrow 8 (c132 hr19) (by simp [hv18]) rfl).mono ?_; rintro _ _ ⟨rfl, rfl⟩; try simp -dsimp -implicitDefEqProofs (maxDischargeDepth := 6) [hv18]
        exact hK _ _ ⟨rfl, rfl⟩
       rintro a σ ⟨rfl, rfl⟩
       replace H := Option.some.inj H; subst H
       refine AWP_kp [2, 3] [(2, .int .i64 (ior .i64 (ior .i64 r19 v18) v2.opcode)), (3, .bool true)] rfl ?_
       refine AWP_ret ?_
       exact ⟨[.int .i64 (ior .i64 (ior .i64 r19 v18) v2.opcode), .bool true], by simp, 4, by simp [encL_nil]⟩
      ·
       replace H := ifF C6 H
       refine AWP_sr tok [] [1, 4, 6, 93] (fun a σ => a = [(1, .fptr [.int .i64 p0.Op, .int .i64 p0.Rd, .int .i64 p0.Rs, .int .i64 p0.Rt, .int .i64 p0.Imm] 0), (4, .ptr (N0 + 11) 0 0), (6, .clo 132 [] [.ptr (N0 + 16) 0 0]), (93, .bool (ieq r7 74))] ∧ σ = hp E0 [(N0 + 11, some ⟨141, 4, [[.str v2.name, .int .i64 v2.opcode, .int .i64 v2.funct3, .int .i64 v2.funct7]]⟩), (N0 + 16, some ⟨3, 1, [[.int .i64 r3]]⟩)] (N0 + 50)) (fun K hK => ?_) ?_
       ·
        skip
        simp -dsimp -implicitDefEqProofs (maxDischargeDepth := 6)
        exact hK _ _ ⟨rfl, rfl⟩
       rintro a σ ⟨rfl, rfl⟩
       refine AWP_cond (ieq r7 74) rfl (fun C7 => ?_) (fun C7 => ?_)
       ·
        replace H := ifT C7 H
        obtain ⟨v20, hv20, H⟩ := bindE H
        obtain ⟨r21, hr21, H⟩ := bindE H
        obtain ⟨r22, hr22, H⟩ := bindE H
        obtain ⟨r23, hr23, H⟩ := bindE H
        obtain ⟨r24, hr24, H⟩ := bindE H
        refine AWP_sy tok tokM [] [1, 3, 4, 6, 7, 9, 10, 14, 16] [0, 2, 5, 8, 11, 12, 13, 15, 16, 1, 3, 4, 6, 7, 9, 10, 14, 17, 18, 19] [(1, [16]), (3, [16]), (6, [4, 16]), (9, [4, 7, 16])] [2, 3] (fun a σ => a = [(2, .int .i64 (ior .i64 (ior .i64 (ior .i64 (ior .i64 (ior .i64 r21 r22) r23) r24) v20) v2.opcode)), (3, .bool true)] ∧ σ = hp E0 [(N0 + 11, some ⟨141, 4, [[.str v2.name, .int .i64 v2.opcode, .int .i64 v2.funct3, .int .i64 v2.funct7]]⟩), (N0 + 16, some ⟨3, 1, [[.int .i64 r3]]⟩)] (N0 + 70)) (by decide) (fun K hK => ?_) ?_
        ·
         simp only [pickL, nthO_succ, nthO_zero]
         simp -dsimp -implicitDefEqProofs (maxDischargeDepth := 6) [hv20]
         refine (borrow 8 (c132 hr21) (by simp [hv20]) rfl).mono ?_; rintro _ _ ⟨rfl, rfl⟩; try simp -dsimp -implicitDefEqProofs (maxDischargeDepth := 6) [hv20]
         refine (borrow 8 (c132 hr22) (by simp [hv20]) rfl).mono ?_; rintro _ _ ⟨rfl, rfl⟩; try simp -dsimp -implicitDefEqProofs (maxDischargeDepth := 6) [hv20]
         refine (borrow 8 (c132 hr23) (by simp [hv20]) rfl).mono ?_; rintro _ _ ⟨rfl, rfl⟩; try simp -dsimp -implicitDefEqProofs (maxDischargeDepth := 6) [hv20]
         refine (borrow 8 (c132 hr24) (by simp [hv20]) rfl).mono ?_; rintro _ _ ⟨rfl, rfl⟩; try simp -dsimp -implicitDefEqProofs (maxDischargeDepth := 6) [hv20]
         exact hK _ _ ⟨rfl, rfl⟩
        rintro a σ ⟨rfl, rfl⟩
        replace H := Option.some.inj H; subst H
        refine AWP_kp [2, 3] [(2, .int .i64 (ior .i64 (ior .i64 (ior .i64 (ior .i64 (ior .i64 r21 r22) r23) r24) v20) v2.opcode)), (3, .bool true)] rfl ?_
        refine AWP_ret ?_
        exact ⟨[.int .i64 (ior .i64 (ior .i64 (ior .i64 (ior .i64 (ior .i64 r21 r22) r23) r24) v20) v2.opcode), .bool true], by simp, 4, by simp [encL_nil]⟩
       ·
        replace H := ifF C7 H
        refine AWP_skip ?_
        show K2 _ _
        refine keepE (l := [4]) (x := [(4, .ptr (N0 + 11) 0 0)]) rfl fun a' ha => ?_
        refine hK2 _ _ ?_; rw [ha]
        refine Rc.mk ?_
        refine AWP_sr tok [] [2, 3] (fun a σ => a = [(2, .int .i64 v2.opcode), (3, .bool true)] ∧ σ = hp E0 [(N0 + 11, some ⟨141, 4, [[.str v2.name, .int .i64 v2.opcode, .int .i64 v2.funct3, .int .i64 v2.funct7]]⟩), (N0 + 16, some ⟨3, 1, [[.int .i64 r3]]⟩)] (N0 + 54)) (fun K hK => ?_) ?_
        ·
         skip
         simp -dsimp -implicitDefEqProofs (maxDischargeDepth := 6)
         exact hK _ _ ⟨rfl, rfl⟩
        rintro a σ ⟨rfl, rfl⟩
        replace H := Option.some.inj H; subst H
        refine AWP_kp [2, 3] [(2, .int .i64 v2.opcode), (3, .bool true)] rfl ?_
        refine AWP_ret ?_
        exact ⟨[.int .i64 v2.opcode, .bool true], by simp, 4, by simp [encL_nil]⟩
theorem c58 {p0 : Int} {r : Int} (H : i_Wrap p0 = some r) : APure Tryd.prog G 58 [.int .i64 p0] (.int .i64 r) := by
 refine APure_fn (fun N0 => ?_) (by simp)
 refine ACalls_fn tok Tryd.func58 (by kernel_rfl) rfl Tryd.ntmps58 Tryd.results58 rfl ?_
 simp only [argsA, Nat.reduceAdd, hp_next]
 unfold i_Wrap at H
 refine AWP_sr tok [] [0] (fun a σ => a = [(0, .int .i64 p0)] ∧ σ = hp E0 [] (N0 + 1)) (fun K hK => ?_) ?_
 ·
  skip
  simp -dsimp -implicitDefEqProofs (maxDischargeDepth := 6)
  exact hK _ _ ⟨rfl, rfl⟩
 rintro a σ ⟨rfl, rfl⟩
 refine AWP_sr tok [] [2] (fun a σ => a = [(2, .int .i64 (iconv .i64 (iconv .i32 p0)))] ∧ σ = hp E0 [] (N0 + 5)) (fun K hK => ?_) ?_
 ·
  skip
  simp -dsimp -implicitDefEqProofs (maxDischargeDepth := 6)
  exact hK _ _ ⟨rfl, rfl⟩
 rintro a σ ⟨rfl, rfl⟩
 replace H := Option.some.inj H; subst H
 refine AWP_kp [2] [(2, .int .i64 (iconv .i64 (iconv .i32 p0)))] rfl ?_
 refine AWP_ret ?_
 exact ⟨[.int .i64 (iconv .i64 (iconv .i32 p0))], by simp, 4, by simp [encL_nil]⟩
theorem c69_o {p0 : (List Int)} {r : gL6Rd} (H : s_l6Open_o p0 = some r) {σ : AHeap} : ACalls Tryd.prog G 69 [.fsl (encL rI_u8 p0)] σ (fun v σ' => ∃ M n0 : Nat, σ.next ≤ M ∧ σ.next ≤ n0 ∧ n0 < M ∧ v = .ptr n0 0 0 ∧ σ' = hp σ.objs [(n0, some ⟨138, 2, [[.fsl (encL rI_u8 r.b), .int .i64 r.p]]⟩)] M) := by
 refine ACalls_fr (L := []) (Q1 := fun v σ' => ∃ M n0 : Nat, σ.next ≤ M ∧ σ.next ≤ n0 ∧ n0 < M ∧ v = .ptr n0 0 0 ∧ σ' = hp E0 [(n0, some ⟨138, 2, [[.fsl (encL rI_u8 r.b), .int .i64 r.p]]⟩)] M) (by simp []) (fun hlt => ?_) ?_ ⟨_, Tryd.func69, rfl, rfl⟩
 rotate_left
 ·
  rintro v σ1 ⟨M, n0, h0, h1, h2, rfl, rfl⟩
  exact ⟨_, M, rfl, by simp, by simp; try omega, M, n0, h0, h1, h2, rfl, rfl⟩
 generalize σ.next = N0 at hlt ⊢
 refine ACalls_fn tok Tryd.func69 (by kernel_rfl) rfl Tryd.ntmps69 Tryd.results69 rfl ?_
 simp only [argsA, Nat.reduceAdd, hp_next]
 unfold s_l6Open_o at H
 refine AWP_sr tok [] [0] (fun a σ => a = [(0, .fsl (encL rI_u8 p0))] ∧ σ = hp E0 [] (N0 + 1)) (fun K hK => ?_) ?_
 ·
  skip
  simp -dsimp -implicitDefEqProofs (maxDischargeDepth := 6)
  exact hK _ _ ⟨rfl, rfl⟩
 rintro a σ ⟨rfl, rfl⟩
 refine AWP_sq [0] fun K1 hK1 => ?_
 refine AWP_sr tok [] [0, 5] (fun a σ => a = [(0, .fsl (encL rI_u8 p0)), (5, .bool (igt (ilen p0) 2000))] ∧ σ = hp E0 [] (N0 + 4)) (fun K hK => ?_) ?_
 ·
  skip
  simp -dsimp -implicitDefEqProofs (maxDischargeDepth := 6)
  exact hK _ _ ⟨rfl, rfl⟩
 rintro a σ ⟨rfl, rfl⟩
 refine AWP_cond (igt (ilen p0) 2000) rfl (fun C1 => ?_) (fun C1 => ?_)
 ·
  replace H := ifT C1 H
  obtain ⟨l1, hl1, H⟩ := bindE H
  refine AWP_rt tok [] [0] (fun a σ => a = [(0, .fsl (encL rI_u8 l1))] ∧ σ = hp E0 [] (N0 + 7)) (fun K hK => ?_) ?_
  ·
   skip
   simp -dsimp -implicitDefEqProofs (maxDischargeDepth := 6) [cuth_43 hl1]
   exact hK _ _ ⟨rfl, rfl⟩
  rintro a σ ⟨ha, rfl⟩
  refine hK1 _ _ ?_; rw [ha]
  refine Rc.mk ?_
  refine AWP_sr tok [] [2] (fun a σ => a = [(2, .ptr (N0 + 9) 0 0)] ∧ σ = hp E0 [(N0 + 9, some ⟨138, 2, [[.fsl (encL rI_u8 l1), .int .i64 0]]⟩)] (N0 + 11)) (fun K hK => ?_) ?_
  ·
   skip
   simp -dsimp -implicitDefEqProofs (maxDischargeDepth := 6)
   exact hK _ _ ⟨rfl, rfl⟩
  rintro a σ ⟨rfl, rfl⟩
  replace H := Option.some.inj H; subst H
  refine AWP_kp [2] [(2, .ptr (N0 + 9) 0 0)] rfl ?_
  refine AWP_ret ?_
  refine ⟨[.ptr (N0 + 9) 0 0], by simp, N0 + 11, N0 + 9, by omega, by omega, by omega, ?_, ?_⟩
  ·
   simp [encL_nil]
  ·
   first | rfl | simp [List.set_set]
 ·
  replace H := ifF C1 H
  refine AWP_skip ?_
  show K1 _ _
  refine keepE (l := [0]) (x := [(0, .fsl (encL rI_u8 p0))]) rfl fun a' ha => ?_
  refine hK1 _ _ ?_; rw [ha]
  refine Rc.mk ?_
  refine AWP_sr tok [] [2] (fun a σ => a = [(2, .ptr (N0 + 6) 0 0)] ∧ σ = hp E0 [(N0 + 6, some ⟨138, 2, [[.fsl (encL rI_u8 p0), .int .i64 0]]⟩)] (N0 + 8)) (fun K hK => ?_) ?_
  ·
   skip
   simp -dsimp -implicitDefEqProofs (maxDischargeDepth := 6)
   exact hK _ _ ⟨rfl, rfl⟩
  rintro a σ ⟨rfl, rfl⟩
  replace H := Option.some.inj H; subst H
  refine AWP_kp [2] [(2, .ptr (N0 + 6) 0 0)] rfl ?_
  refine AWP_ret ?_
  refine ⟨[.ptr (N0 + 6) 0 0], by simp, N0 + 8, N0 + 6, by omega, by omega, by omega, ?_, ?_⟩
  ·
   simp [encL_nil]
  ·
   first | rfl | simp [List.set_set]
theorem c71 {p0 : gL6Rd} {p1 : Int} {r : Int × gL6Rd} (H : s_l6Rd_pick p0 p1 = some r) {σ : AHeap} {w0 : Nat} {W0 : List (List AV)} {r0_ : Nat} (q0 : σ.objs w0 = some ⟨138, 2, W0⟩) (g0 : W0[r0_]? = some [.fsl (encL rI_u8 p0.b), .int .i64 p0.p]) : ACalls Tryd.prog G 71 [.ptr w0 r0_ 0, .int .i64 p1] σ (fun v σ' => ∃ M : Nat, σ.next ≤ M ∧ v = .int .i64 r.1 ∧ σ' = hp σ.objs [(w0, some ⟨138, 2, W0.set r0_ [.fsl (encL rI_u8 r.2.b), .int .i64 r.2.p]⟩)] M) := by
 refine ACalls_fr (L := [(w0, some ⟨138, 2, W0⟩)]) (Q1 := fun v σ' => ∃ M : Nat, σ.next ≤ M ∧ v = .int .i64 r.1 ∧ σ' = hp E0 [(w0, some ⟨138, 2, W0.set r0_ [.fsl (encL rI_u8 r.2.b), .int .i64 r.2.p]⟩)] M) (by simp [q0]) (fun hlt => ?_) ?_ ⟨_, Tryd.func71, rfl, rfl⟩
 rotate_left
 ·
  rintro v σ1 ⟨M, h0, rfl, rfl⟩
  exact ⟨_, M, rfl, by simp, by simp; try omega, M, h0, rfl, rfl⟩
 generalize σ.next = N0 at hlt ⊢
 have lw0 : w0 < N0 := hlt _ (.head _) rfl
 have gs_W0 : ∀ x, (W0.set r0_ x)[r0_]? = some x := gsetW g0
 rw [show W0 = W0.set r0_ [.fsl (encL rI_u8 p0.b), .int .i64 p0.p] from (set_same g0).symm]
 refine ACalls_fn tok Tryd.func71 (by kernel_rfl) rfl Tryd.ntmps71 Tryd.results71 rfl ?_
 simp only [argsA, Nat.reduceAdd, hp_next]
 unfold s_l6Rd_pick at H
 refine AWP_sr tok [] [0, 1] (fun a σ => a = [(0, .ptr w0 r0_ 0), (1, .int .i64 p1)] ∧ σ = hp E0 [(w0, some ⟨138, 2, W0.set r0_ [.fsl (encL rI_u8 p0.b), .int .i64 p0.p]⟩)] (N0 + 1)) (fun K hK => ?_) ?_
 ·
  skip
  simp -dsimp -implicitDefEqProofs (maxDischargeDepth := 6) [gs_W0, List.set_set]
  exact hK _ _ ⟨rfl, rfl⟩
 rintro a σ ⟨rfl, rfl⟩
 refine AWP_sr tok [] [0, 1] (fun a σ => a = [(0, .ptr w0 r0_ 0), (1, .int .i64 p1)] ∧ σ = hp E0 [(w0, some ⟨138, 2, W0.set r0_ [.fsl (encL rI_u8 p0.b), .int .i64 (iadd .i64 p0.p 1)]⟩)] (N0 + 10)) (fun K hK => ?_) ?_
 ·
  skip
  simp -dsimp -implicitDefEqProofs (maxDischargeDepth := 6) [gs_W0, List.set_set]
  exact hK _ _ ⟨rfl, rfl⟩
 rintro a σ ⟨rfl, rfl⟩
 refine AWP_sq [0, 1] fun K1 hK1 => ?_
 obtain ⟨g1, hg1, H⟩ := bindE H
 refine AWP_sr tok [] [0, 1, 24] (fun a σ => a = [(0, .ptr w0 r0_ 0), (1, .int .i64 p1), (24, .bool g1)] ∧ σ = hp E0 [(w0, some ⟨138, 2, W0.set r0_ [.fsl (encL rI_u8 p0.b), .int .i64 (iadd .i64 p0.p 1)]⟩)] (N0 + 20)) (fun K hK => ?_) ?_
 ·
  skip
  simp -dsimp -implicitDefEqProofs (maxDischargeDepth := 6) [gs_W0, List.set_set]
  cases hbg1 : ilt p1 1
  ·
   replace hg1 := ifF hbg1 hg1
   replace hg1 := Option.some.inj hg1; subst hg1
   try simp -dsimp -implicitDefEqProofs (maxDischargeDepth := 6) [gs_W0, List.set_set, hbg1]
   exact hK _ _ ⟨rfl, rfl⟩
  ·
   replace hg1 := ifT hbg1 hg1
   replace hg1 := Option.some.inj hg1; subst hg1
   try simp -dsimp -implicitDefEqProofs (maxDischargeDepth := 6) [gs_W0, List.set_set, hbg1]
   exact hK _ _ ⟨rfl, rfl⟩
 rintro a σ ⟨rfl, rfl⟩
 refine AWP_cond g1 rfl (fun C1 => ?_) (fun C1 => ?_)
 ·
  replace H := ifT C1 H
  refine AWP_sr tok [] [4] (fun a σ => a = [(4, .int .i64 0)] ∧ σ = hp E0 [(w0, some ⟨138, 2, W0.set r0_ [.fsl (encL rI_u8 p0.b), .int .i64 (iadd .i64 p0.p 1)]⟩)] (N0 + 21)) (fun K hK => ?_) ?_
  ·
   skip
   simp -dsimp -implicitDefEqProofs (maxDischargeDepth := 6) [gs_W0, List.set_set]
   exact hK _ _ ⟨rfl, rfl⟩
  rintro a σ ⟨rfl, rfl⟩
  replace H := Option.some.inj H; subst H
  refine AWP_kp [4] [(4, .int .i64 0)] rfl ?_
  refine AWP_ret ?_
  refine ⟨[.int .i64 0], by simp [gs_W0], N0 + 21, by omega, ?_, ?_⟩
  ·
   simp [encL_nil]
  ·
   first | rfl | simp [List.set_set]
 ·
  replace H := ifF C1 H
  refine AWP_skip ?_
  show K1 _ _
  refine keepE (l := [0, 1]) (x := [(0, .ptr w0 r0_ 0), (1, .int .i64 p1)]) rfl fun a' ha => ?_
  refine hK1 _ _ ?_; rw [ha]
  refine Rc.mk ?_
  refine AWP_sr tok [] [0, 1, 5] (fun a σ => a = [(0, .ptr w0 r0_ 0), (1, .int .i64 p1), (5, .int .i64 (isub .i64 (iadd .i64 p0.p 1) 1))] ∧ σ = hp E0 [(w0, some ⟨138, 2, W0.set r0_ [.fsl (encL rI_u8 p0.b), .int .i64 (iadd .i64 p0.p 1)]⟩)] (N0 + 26)) (fun K hK => ?_) ?_
  ·
   skip
   simp -dsimp -implicitDefEqProofs (maxDischargeDepth := 6) [gs_W0, List.set_set]
   exact hK _ _ ⟨rfl, rfl⟩
  rintro a σ ⟨rfl, rfl⟩
  refine AWP_sq [0, 1, 5] fun K2 hK2 => ?_
  refine AWP_sr tok [] [0, 1, 5, 36] (fun a σ => a = [(0, .ptr w0 r0_ 0), (1, .int .i64 p1), (5, .int .i64 (isub .i64 (iadd .i64 p0.p 1) 1)), (36, .bool (ilt (isub .i64 (iadd .i64 p0.p 1) 1) (ilen p0.b)))] ∧ σ = hp E0 [(w0, some ⟨138, 2, W0.set r0_ [.fsl (encL rI_u8 p0.b), .int .i64 (iadd .i64 p0.p 1)]⟩)] (N0 + 33)) (fun K hK => ?_) ?_
  ·
   skip
   simp -dsimp -implicitDefEqProofs (maxDischargeDepth := 6) [gs_W0, List.set_set]
   exact hK _ _ ⟨rfl, rfl⟩
  rintro a σ ⟨rfl, rfl⟩
  refine AWP_cond (ilt (isub .i64 (iadd .i64 p0.p 1) 1) (ilen p0.b)) rfl (fun C2 => ?_) (fun C2 => ?_)
  ·
   replace H := ifT C2 H
   obtain ⟨v2, hv2, H⟩ := bindE H
   obtain ⟨v3, hv3, H⟩ := bindE H
   refine AWP_sr tok [] [4] (fun a σ => a = [(4, .int .i64 v3)] ∧ σ = hp E0 [(w0, some ⟨138, 2, W0.set r0_ [.fsl (encL rI_u8 p0.b), .int .i64 (iadd .i64 p0.p 1)]⟩)] (N0 + 44)) (fun K hK => ?_) ?_
   ·
    skip
    simp -dsimp -implicitDefEqProofs (maxDischargeDepth := 6) [gs_W0, List.set_set, ix43 hv2, hv3]
    exact hK _ _ ⟨rfl, rfl⟩
   rintro a σ ⟨rfl, rfl⟩
   replace H := Option.some.inj H; subst H
   refine AWP_kp [4] [(4, .int .i64 v3)] rfl ?_
   refine AWP_ret ?_
   refine ⟨[.int .i64 v3], by simp [gs_W0], N0 + 44, by omega, ?_, ?_⟩
   ·
    simp [encL_nil]
   ·
    first | rfl | simp [List.set_set]
  ·
   replace H := ifF C2 H
   refine AWP_skip ?_
   show K2 _ _
   refine keepE (l := [0, 1, 5]) (x := [(0, .ptr w0 r0_ 0), (1, .int .i64 p1), (5, .int .i64 (isub .i64 (iadd .i64 p0.p 1) 1))]) rfl fun a' ha => ?_
   refine hK2 _ _ ?_; rw [ha]
   refine Rc.mk ?_
   obtain ⟨v4, hv4, H⟩ := bindE H
   obtain ⟨v5, hv5, H⟩ := bindE H
   obtain ⟨v6, hv6, H⟩ := bindE H
   obtain ⟨v7, hv7, H⟩ := bindE H
   obtain ⟨v8, hv8, H⟩ := bindE H
   refine AWP_sd tok tokM [] [3, 8, 9, 10, 18, 25, 26, 27, 28, 29, 30, 31, 40, 41, 42, 43] [0, 1, 2, 4, 5, 6, 7, 15, 16, 17, 19, 20, 21, 22, 23, 24, 33, 34, 36, 37, 38, 39, 3, 8, 9, 10, 11, 12, 13, 14, 18, 25, 26, 27, 28, 29, 30, 31, 32, 35, 40, 41, 42, 43, 44, 45] [1, 6] (fun a σ => a = [(1, .int .i64 p1), (6, .int .i64 (iadd .i64 (iadd .i64 (iadd .i64 (imul .i64 (iconv .i64 v5) 131) (imul .i64 (iconv .i64 v7) 1117)) (imul .i64 (isub .i64 (iadd .i64 p0.p 1) 1) 29)) (imul .i64 v8 53)))] ∧ σ = hp E0 [(w0, some ⟨138, 2, W0.set r0_ [.fsl (encL rI_u8 p0.b), .int .i64 (iadd .i64 p0.p 1)]⟩)] (N0 + 79)) (by decide) (fun K hK => ?_) ?_
   ·
    simp only [pickL, nthO_succ, nthO_zero]
    simp -dsimp -implicitDefEqProofs (maxDischargeDepth := 6) [gs_W0, List.set_set, hv4, ix43 hv5, hv6, ix43 hv7, hv8]
    exact hK _ _ ⟨rfl, rfl⟩
   rintro a σ ⟨rfl, rfl⟩
   obtain ⟨v9, hv9, H⟩ := bindE H
   refine AWP_sr tok [] [1, 6] (fun a σ => a = [(1, .int .i64 p1), (6, .int .i64 (ixor .i64 (iadd .i64 (iadd .i64 (iadd .i64 (imul .i64 (iconv .i64 v5) 131) (imul .i64 (iconv .i64 v7) 1117)) (imul .i64 (isub .i64 (iadd .i64 p0.p 1) 1) 29)) (imul .i64 v8 53)) v9))] ∧ σ = hp E0 [(w0, some ⟨138, 2, W0.set r0_ [.fsl (encL rI_u8 p0.b), .int .i64 (iadd .i64 p0.p 1)]⟩)] (N0 + 84)) (fun K hK => ?_) ?_
   ·
    skip
    simp -dsimp -implicitDefEqProofs (maxDischargeDepth := 6) [gs_W0, List.set_set, hv9]
    exact hK _ _ ⟨rfl, rfl⟩
   rintro a σ ⟨rfl, rfl⟩
   obtain ⟨v10, hv10, H⟩ := bindE H
   refine AWP_sr tok [] [4] (fun a σ => a = [(4, .int .i64 v10)] ∧ σ = hp E0 [(w0, some ⟨138, 2, W0.set r0_ [.fsl (encL rI_u8 p0.b), .int .i64 (iadd .i64 p0.p 1)]⟩)] (N0 + 88)) (fun K hK => ?_) ?_
   ·
    skip
    simp -dsimp -implicitDefEqProofs (maxDischargeDepth := 6) [gs_W0, List.set_set, hv10]
    exact hK _ _ ⟨rfl, rfl⟩
   rintro a σ ⟨rfl, rfl⟩
   replace H := Option.some.inj H; subst H
   refine AWP_kp [4] [(4, .int .i64 v10)] rfl ?_
   refine AWP_ret ?_
   refine ⟨[.int .i64 v10], by simp [gs_W0], N0 + 88, by omega, ?_, ?_⟩
   ·
    simp [encL_nil]
   ·
    first | rfl | simp [List.set_set]
theorem c72 {p0 : gL6Rd} {r : Int × gL6Rd} (H : s_l91Word p0 = some r) {σ : AHeap} {w0 : Nat} {W0 : List (List AV)} {r0_ : Nat} (q0 : σ.objs w0 = some ⟨138, 2, W0⟩) (g0 : W0[r0_]? = some [.fsl (encL rI_u8 p0.b), .int .i64 p0.p]) : ACalls Tryd.prog G 72 [.ptr w0 r0_ 0] σ (fun v σ' => ∃ M : Nat, σ.next ≤ M ∧ v = .int .i64 r.1 ∧ σ' = hp σ.objs [(w0, some ⟨138, 2, W0.set r0_ [.fsl (encL rI_u8 r.2.b), .int .i64 r.2.p]⟩)] M) := by
 refine ACalls_fr (L := [(w0, some ⟨138, 2, W0⟩)]) (Q1 := fun v σ' => ∃ M : Nat, σ.next ≤ M ∧ v = .int .i64 r.1 ∧ σ' = hp E0 [(w0, some ⟨138, 2, W0.set r0_ [.fsl (encL rI_u8 r.2.b), .int .i64 r.2.p]⟩)] M) (by simp [q0]) (fun hlt => ?_) ?_ ⟨_, Tryd.func72, rfl, rfl⟩
 rotate_left
 ·
  rintro v σ1 ⟨M, h0, rfl, rfl⟩
  exact ⟨_, M, rfl, by simp, by simp; try omega, M, h0, rfl, rfl⟩
 generalize σ.next = N0 at hlt ⊢
 have lw0 : w0 < N0 := hlt _ (.head _) rfl
 have gs_W0 : ∀ x, (W0.set r0_ x)[r0_]? = some x := gsetW g0
 rw [show W0 = W0.set r0_ [.fsl (encL rI_u8 p0.b), .int .i64 p0.p] from (set_same g0).symm]
 refine ACalls_fn tok Tryd.func72 (by kernel_rfl) rfl Tryd.ntmps72 Tryd.results72 rfl ?_
 simp only [argsA, Nat.reduceAdd, hp_next]
 unfold s_l91Word at H
 refine AWP_sr tok [] [0] (fun a σ => a = [(0, .ptr w0 r0_ 0)] ∧ σ = hp E0 [(w0, some ⟨138, 2, W0.set r0_ [.fsl (encL rI_u8 p0.b), .int .i64 p0.p]⟩)] (N0 + 1)) (fun K hK => ?_) ?_
 ·
  skip
  simp -dsimp -implicitDefEqProofs (maxDischargeDepth := 6) [gs_W0, List.set_set]
  exact hK _ _ ⟨rfl, rfl⟩
 rintro a σ ⟨rfl, rfl⟩
 refine AWP_sq [0] fun K1 hK1 => ?_
 obtain ⟨r1, hr1, H⟩ := bindE H
 refine AWP_sr tok [] [0, 4] (fun a σ => ∃ M1 : Nat, N0 + 3 ≤ M1 ∧ a = [(0, .ptr w0 r0_ 0), (4, .int .i64 r1.1)] ∧ σ = hp E0 [(w0, some ⟨138, 2, W0.set r0_ [.fsl (encL rI_u8 r1.2.b), .int .i64 r1.2.p]⟩)] M1) (fun K hK => ?_) ?_
 ·
  skip
  simp -dsimp -implicitDefEqProofs (maxDischargeDepth := 6) [gs_W0, List.set_set]
  refine (c71 (W0 := W0.set r0_ [.fsl (encL rI_u8 p0.b), .int .i64 p0.p]) (r0_ := r0_) (H := hr1) (by simp [gs_W0, List.set_set]) (by simp [gs_W0, List.set_set])).mono ?_; rintro _ _ ⟨M1, fM1_0, rfl, rfl⟩; simp only [hp_next] at fM1_0
  try simp -dsimp -implicitDefEqProofs (maxDischargeDepth := 6) [gs_W0, List.set_set, hp_over_some, hp_over_none]
  exact hK _ _ ⟨M1, (by omega), rfl, rfl⟩
 rintro a σ ⟨M1, fM1_0, rfl, rfl⟩
 refine AWP_block (AWP_thenB ?_)
 refine AWP_sr tok [] [0, 4, 5] (fun a σ => a = [(0, .ptr w0 r0_ 0), (4, .int .i64 r1.1), (5, .bool (ieq r1.1 0))] ∧ σ = hp E0 [(w0, some ⟨138, 2, W0.set r0_ [.fsl (encL rI_u8 r1.2.b), .int .i64 r1.2.p]⟩)] (M1 + 2)) (fun K hK => ?_) ?_
 ·
  skip
  simp -dsimp -implicitDefEqProofs (maxDischargeDepth := 6) [gs_W0, List.set_set]
  exact hK _ _ ⟨rfl, rfl⟩
 rintro a σ ⟨rfl, rfl⟩
 refine AWP_cond (ieq r1.1 0) rfl (fun C1 => ?_) (fun C1 => ?_)
 ·
  replace H := ifT C1 H
  obtain ⟨r2, hr2, H⟩ := bindE H
  obtain ⟨v3, hv3, H⟩ := bindE H
  have q0 : ∀ σ i, buildSliceA T 24 true i 8 [(0, .int .i64 (-2147483648)), (1, .int .i64 2147483647), (2, .int .i64 (-1)), (3, .int .i64 0), (4, .int .i64 1), (5, .int .i64 (-2147483647)), (6, .int .i64 65536), (7, .int .i64 (-65536))] σ = some (.fsl (encL rI ([-2147483648, 2147483647, -1, 0, 1, -2147483647, 65536, -65536] : List Int)), σ) := fun _ _ => rfl
  refine AWP_sr tok [0] [2] (fun a σ => ∃ M2 : Nat, M1 + 8 ≤ M2 ∧ a = [(2, .int .i64 v3)] ∧ σ = hp E0 [(w0, some ⟨138, 2, W0.set r0_ [.fsl (encL rI_u8 r2.2.b), .int .i64 r2.2.p]⟩)] M2) (fun K hK => ?_) ?_
  ·
   skip
   simp -dsimp -implicitDefEqProofs (maxDischargeDepth := 6) [gs_W0, List.set_set, q0, ix24 hv3]
   refine (c71 (W0 := W0.set r0_ [.fsl (encL rI_u8 r1.2.b), .int .i64 r1.2.p]) (r0_ := r0_) (H := hr2) (by simp [gs_W0, List.set_set, q0, ix24 hv3]) (by simp [gs_W0, List.set_set, q0, ix24 hv3])).mono ?_; rintro _ _ ⟨M2, fM2_0, rfl, rfl⟩; simp only [hp_next] at fM2_0
   try simp -dsimp -implicitDefEqProofs (maxDischargeDepth := 6) [gs_W0, List.set_set, q0, ix24 hv3, hp_over_some, hp_over_none]
   exact hK _ _ ⟨M2, (by omega), rfl, rfl⟩
  rintro a σ ⟨M2, fM2_0, rfl, rfl⟩
  replace H := Option.some.inj H; subst H
  refine AWP_kp [2] [(2, .int .i64 v3)] rfl ?_
  refine AWP_ret ?_
  refine ⟨[.int .i64 v3], by simp [gs_W0], M2, by omega, ?_, ?_⟩
  ·
   simp [encL_nil]
  ·
   first | rfl | simp [List.set_set]
 ·
  replace H := ifF C1 H
  refine AWP_sr tok [] [0, 4, 12] (fun a σ => a = [(0, .ptr w0 r0_ 0), (4, .int .i64 r1.1), (12, .bool (ieq r1.1 1))] ∧ σ = hp E0 [(w0, some ⟨138, 2, W0.set r0_ [.fsl (encL rI_u8 r1.2.b), .int .i64 r1.2.p]⟩)] (M1 + 4)) (fun K hK => ?_) ?_
  ·
   skip
   simp -dsimp -implicitDefEqProofs (maxDischargeDepth := 6) [gs_W0, List.set_set]
   exact hK _ _ ⟨rfl, rfl⟩
  rintro a σ ⟨rfl, rfl⟩
  refine AWP_cond (ieq r1.1 1) rfl (fun C2 => ?_) (fun C2 => ?_)
  ·
   replace H := ifT C2 H
   obtain ⟨r4, hr4, H⟩ := bindE H
   obtain ⟨r5, hr5, H⟩ := bindE H
   obtain ⟨r6, hr6, H⟩ := bindE H
   obtain ⟨r7, hr7, H⟩ := bindE H
   obtain ⟨r8, hr8, H⟩ := bindE H
   refine AWP_sr tok [] [2] (fun a σ => ∃ M3 : Nat, ∃ M4 : Nat, ∃ M5 : Nat, ∃ M6 : Nat, M1 + 20 ≤ M3 ∧ M3 ≤ M4 ∧ M4 ≤ M5 ∧ M5 ≤ M6 ∧ a = [(2, .int .i64 r8)] ∧ σ = hp E0 [(w0, some ⟨138, 2, W0.set r0_ [.fsl (encL rI_u8 r7.2.b), .int .i64 r7.2.p]⟩)] M6) (fun K hK => ?_) ?_
   ·
    skip
    simp -dsimp -implicitDefEqProofs (maxDischargeDepth := 6) [gs_W0, List.set_set]
    refine (c71 (W0 := W0.set r0_ [.fsl (encL rI_u8 r1.2.b), .int .i64 r1.2.p]) (r0_ := r0_) (H := hr4) (by simp [gs_W0, List.set_set]) (by simp [gs_W0, List.set_set])).mono ?_; rintro _ _ ⟨M3, fM3_0, rfl, rfl⟩; simp only [hp_next] at fM3_0
    try simp -dsimp -implicitDefEqProofs (maxDischargeDepth := 6) [gs_W0, List.set_set, hp_over_some, hp_over_none]
    refine (c71 (W0 := W0.set r0_ [.fsl (encL rI_u8 r4.2.b), .int .i64 r4.2.p]) (r0_ := r0_) (H := hr5) (by simp [gs_W0, List.set_set, hp_over_some, hp_over_none]) (by simp [gs_W0, List.set_set, hp_over_some, hp_over_none])).mono ?_; rintro _ _ ⟨M4, fM4_0, rfl, rfl⟩; simp only [hp_next] at fM4_0
    try simp -dsimp -implicitDefEqProofs (maxDischargeDepth := 6) [gs_W0, List.set_set, hp_over_some, hp_over_none, hp_over_some, hp_over_none]
    refine (c71 (W0 := W0.set r0_ [.fsl (encL rI_u8 r5.2.b), .int .i64 r5.2.p]) (r0_ := r0_) (H := hr6) (by simp [gs_W0, List.set_set, hp_over_some, hp_over_none, hp_over_some, hp_over_none]) (by simp [gs_W0, List.set_set, hp_over_some, hp_over_none, hp_over_some, hp_over_none])).mono ?_; rintro _ _ ⟨M5, fM5_0, rfl, rfl⟩; simp only [hp_next] at fM5_0
    try simp -dsimp -implicitDefEqProofs (maxDischargeDepth := 6) [gs_W0, List.set_set, hp_over_some, hp_over_none, hp_over_some, hp_over_none, hp_over_some, hp_over_none]
    refine (c71 (W0 := W0.set r0_ [.fsl (encL rI_u8 r6.2.b), .int .i64 r6.2.p]) (r0_ := r0_) (H := hr7) (by simp [gs_W0, List.set_set, hp_over_some, hp_over_none, hp_over_some, hp_over_none, hp_over_some, hp_over_none]) (by simp [gs_W0, List.set_set, hp_over_some, hp_over_none, hp_over_some, hp_over_none, hp_over_some, hp_over_none])).mono ?_; rintro _ _ ⟨M6, fM6_0, rfl, rfl⟩; simp only [hp_next] at fM6_0
    try simp -dsimp -implicitDefEqProofs (maxDischargeDepth := 6) [gs_W0, List.set_set, hp_over_some, hp_over_none, hp_over_some, hp_over_none, hp_over_some, hp_over_none, hp_over_some, hp_over_none]
    refine (c102 hr8).app ?_; try simp -dsimp -implicitDefEqProofs (maxDischargeDepth := 6) [gs_W0, List.set_set, hp_over_some, hp_over_none, hp_over_some, hp_over_none, hp_over_some, hp_over_none, hp_over_some, hp_over_none]
    exact hK _ _ ⟨M3, M4, M5, M6, (by omega), (by omega), (by omega), (by omega), rfl, rfl⟩
   rintro a σ ⟨M3, M4, M5, M6, fM3_0, fM4_0, fM5_0, fM6_0, rfl, rfl⟩
   replace H := Option.some.inj H; subst H
   refine AWP_kp [2] [(2, .int .i64 r8)] rfl ?_
   refine AWP_ret ?_
   refine ⟨[.int .i64 r8], by simp [gs_W0], M6, by omega, ?_, ?_⟩
   ·
    simp [encL_nil]
   ·
    first | rfl | simp [List.set_set]
  ·
   replace H := ifF C2 H
   refine AWP_sr tok [] [0, 29] (fun a σ => a = [(0, .ptr w0 r0_ 0), (29, .bool (ieq r1.1 2))] ∧ σ = hp E0 [(w0, some ⟨138, 2, W0.set r0_ [.fsl (encL rI_u8 r1.2.b), .int .i64 r1.2.p]⟩)] (M1 + 6)) (fun K hK => ?_) ?_
   ·
    skip
    simp -dsimp -implicitDefEqProofs (maxDischargeDepth := 6) [gs_W0, List.set_set]
    exact hK _ _ ⟨rfl, rfl⟩
   rintro a σ ⟨rfl, rfl⟩
   refine AWP_cond (ieq r1.1 2) rfl (fun C3 => ?_) (fun C3 => ?_)
   ·
    replace H := ifT C3 H
    obtain ⟨r9, hr9, H⟩ := bindE H
    refine AWP_sr tok [] [2] (fun a σ => ∃ M7 : Nat, M1 + 10 ≤ M7 ∧ a = [(2, .int .i64 (isub .i64 0 r9.1))] ∧ σ = hp E0 [(w0, some ⟨138, 2, W0.set r0_ [.fsl (encL rI_u8 r9.2.b), .int .i64 r9.2.p]⟩)] M7) (fun K hK => ?_) ?_
    ·
     skip
     simp -dsimp -implicitDefEqProofs (maxDischargeDepth := 6) [gs_W0, List.set_set]
     refine (c71 (W0 := W0.set r0_ [.fsl (encL rI_u8 r1.2.b), .int .i64 r1.2.p]) (r0_ := r0_) (H := hr9) (by simp [gs_W0, List.set_set]) (by simp [gs_W0, List.set_set])).mono ?_; rintro _ _ ⟨M7, fM7_0, rfl, rfl⟩; simp only [hp_next] at fM7_0
     try simp -dsimp -implicitDefEqProofs (maxDischargeDepth := 6) [gs_W0, List.set_set, hp_over_some, hp_over_none]
     exact hK _ _ ⟨M7, (by omega), rfl, rfl⟩
    rintro a σ ⟨M7, fM7_0, rfl, rfl⟩
    replace H := Option.some.inj H; subst H
    refine AWP_kp [2] [(2, .int .i64 (isub .i64 0 r9.1))] rfl ?_
    refine AWP_ret ?_
    refine ⟨[.int .i64 (isub .i64 0 r9.1)], by simp [gs_W0], M7, by omega, ?_, ?_⟩
    ·
     simp [encL_nil]
    ·
     first | rfl | simp [List.set_set]
   ·
    replace H := ifF C3 H
    refine AWP_skip ?_
    show K1 _ _
    refine keepE (l := [0]) (x := [(0, .ptr w0 r0_ 0)]) rfl fun a' ha => ?_
    refine hK1 _ _ ?_; rw [ha]
    refine Rc.mk ?_
    obtain ⟨r10, hr10, H⟩ := bindE H
    refine AWP_sr tok [] [2] (fun a σ => ∃ M8 : Nat, M1 + 9 ≤ M8 ∧ a = [(2, .int .i64 r10.1)] ∧ σ = hp E0 [(w0, some ⟨138, 2, W0.set r0_ [.fsl (encL rI_u8 r10.2.b), .int .i64 r10.2.p]⟩)] M8) (fun K hK => ?_) ?_
    ·
     skip
     simp -dsimp -implicitDefEqProofs (maxDischargeDepth := 6) [gs_W0, List.set_set]
     refine (c71 (W0 := W0.set r0_ [.fsl (encL rI_u8 r1.2.b), .int .i64 r1.2.p]) (r0_ := r0_) (H := hr10) (by simp [gs_W0, List.set_set]) (by simp [gs_W0, List.set_set])).mono ?_; rintro _ _ ⟨M8, fM8_0, rfl, rfl⟩; simp only [hp_next] at fM8_0
     try simp -dsimp -implicitDefEqProofs (maxDischargeDepth := 6) [gs_W0, List.set_set, hp_over_some, hp_over_none]
     exact hK _ _ ⟨M8, (by omega), rfl, rfl⟩
    rintro a σ ⟨M8, fM8_0, rfl, rfl⟩
    replace H := Option.some.inj H; subst H
    refine AWP_kp [2] [(2, .int .i64 r10.1)] rfl ?_
    refine AWP_ret ?_
    refine ⟨[.int .i64 r10.1], by simp [gs_W0], M8, by omega, ?_, ?_⟩
    ·
     simp [encL_nil]
    ·
     first | rfl | simp [List.set_set]
theorem c29 {p0 : (List Int)} {r : Int × Int} (H : s_DrawConstInstrs p0 = some r) : APure Tryd.prog G 29 [.fsl (encL rI_u8 p0)] (.tup [.int .i64 r.1, .int .i64 r.2]) := by
 refine APure_fn (fun N0 => ?_) (by simp)
 refine ACalls_fn tok Tryd.func29 (by kernel_rfl) rfl Tryd.ntmps29 Tryd.results29 rfl ?_
 simp only [argsA, Nat.reduceAdd, hp_next]
 unfold s_DrawConstInstrs at H
 refine AWP_sr tok [] [0] (fun a σ => a = [(0, .fsl (encL rI_u8 p0))] ∧ σ = hp E0 [] (N0 + 2)) (fun K hK => ?_) ?_
 ·
  skip
  simp -dsimp -implicitDefEqProofs (maxDischargeDepth := 6)
  exact hK _ _ ⟨rfl, rfl⟩
 rintro a σ ⟨rfl, rfl⟩
 obtain ⟨r1, hr1, H⟩ := bindE H
 refine AWP_sr tok [] [4] (fun a σ => ∃ M1 o1 : Nat, N0 + 5 ≤ M1 ∧ N0 + 5 ≤ o1 ∧ o1 < M1 ∧ a = [(4, .ptr o1 0 0)] ∧ σ = hp E0 [(o1, some ⟨138, 2, [[.fsl (encL rI_u8 r1.b), .int .i64 r1.p]]⟩)] M1) (fun K hK => ?_) ?_
 ·
  skip
  simp -dsimp -implicitDefEqProofs (maxDischargeDepth := 6)
  refine (c69_o (H := hr1) ).mono ?_; rintro _ _ ⟨M1, o1, fM1_0, fM1_1, fM1_2, rfl, rfl⟩; simp only [hp_next] at fM1_0 fM1_1 fM1_2
  try simp -dsimp -implicitDefEqProofs (maxDischargeDepth := 6) [hp_over_some, hp_over_none]
  exact hK _ _ ⟨M1, o1, (by omega), (by omega), (by omega), rfl, rfl⟩
 rintro a σ ⟨M1, o1, fM1_0, fM1_1, fM1_2, rfl, rfl⟩
 obtain ⟨r2, hr2, H⟩ := bindE H
 refine AWP_sr tok [] [4, 5] (fun a σ => ∃ M2 : Nat, M1 + 4 ≤ M2 ∧ a = [(4, .ptr o1 0 0), (5, .int .i64 (iadd .i64 1 r2.1))] ∧ σ = hp E0 [(o1, some ⟨138, 2, [[.fsl (encL rI_u8 r2.2.b), .int .i64 r2.2.p]]⟩)] M2) (fun K hK => ?_) ?_
 ·
  skip
  simp -dsimp -implicitDefEqProofs (maxDischargeDepth := 6)
  refine (c71 (W0 := [[.fsl (encL rI_u8 r1.b), .int .i64 r1.p]]) (r0_ := 0) (H := hr2) (by simp []) (by simp [])).mono ?_; rintro _ _ ⟨M2, fM2_0, rfl, rfl⟩; simp only [hp_next] at fM2_0
  try simp -dsimp -implicitDefEqProofs (maxDischargeDepth := 6) [hp_over_some, hp_over_none]
  exact hK _ _ ⟨M2, (by omega), rfl, rfl⟩
 rintro a σ ⟨M2, fM2_0, rfl, rfl⟩
 obtain ⟨r3, hr3, H⟩ := bindE H
 refine AWP_sr tok [] [4, 5, 6] (fun a σ => ∃ M3 : Nat, M2 + 3 ≤ M3 ∧ a = [(4, .ptr o1 0 0), (5, .int .i64 (iadd .i64 1 r2.1)), (6, .int .i64 r3.1)] ∧ σ = hp E0 [(o1, some ⟨138, 2, [[.fsl (encL rI_u8 r3.2.b), .int .i64 r3.2.p]]⟩)] M3) (fun K hK => ?_) ?_
 ·
  skip
  simp -dsimp -implicitDefEqProofs (maxDischargeDepth := 6)
  refine (c72 (W0 := [[.fsl (encL rI_u8 r2.2.b), .int .i64 r2.2.p]]) (r0_ := 0) (H := hr3) (by simp []) (by simp [])).mono ?_; rintro _ _ ⟨M3, fM3_0, rfl, rfl⟩; simp only [hp_next] at fM3_0
  try simp -dsimp -implicitDefEqProofs (maxDischargeDepth := 6) [hp_over_some, hp_over_none]
  exact hK _ _ ⟨M3, (by omega), rfl, rfl⟩
 rintro a σ ⟨M3, fM3_0, rfl, rfl⟩
 refine AWP_sq [5, 6] fun K1 hK1 => ?_
 obtain ⟨r4, hr4, H⟩ := bindE H
 refine AWP_sr tok [] [4, 5, 6, 15] (fun a σ => ∃ M4 : Nat, M3 + 2 ≤ M4 ∧ a = [(4, .ptr o1 0 0), (5, .int .i64 (iadd .i64 1 r2.1)), (6, .int .i64 r3.1), (15, .int .i64 r4.1)] ∧ σ = hp E0 [(o1, some ⟨138, 2, [[.fsl (encL rI_u8 r4.2.b), .int .i64 r4.2.p]]⟩)] M4) (fun K hK => ?_) ?_
 ·
  skip
  simp -dsimp -implicitDefEqProofs (maxDischargeDepth := 6)
  refine (c71 (W0 := [[.fsl (encL rI_u8 r3.2.b), .int .i64 r3.2.p]]) (r0_ := 0) (H := hr4) (by simp []) (by simp [])).mono ?_; rintro _ _ ⟨M4, fM4_0, rfl, rfl⟩; simp only [hp_next] at fM4_0
  try simp -dsimp -implicitDefEqProofs (maxDischargeDepth := 6) [hp_over_some, hp_over_none]
  exact hK _ _ ⟨M4, (by omega), rfl, rfl⟩
 rintro a σ ⟨M4, fM4_0, rfl, rfl⟩
 refine AWP_block (AWP_thenB ?_)
 refine AWP_sr tok [] [4, 5, 6, 15, 16] (fun a σ => a = [(4, .ptr o1 0 0), (5, .int .i64 (iadd .i64 1 r2.1)), (6, .int .i64 r3.1), (15, .int .i64 r4.1), (16, .bool (ieq r4.1 0))] ∧ σ = hp E0 [(o1, some ⟨138, 2, [[.fsl (encL rI_u8 r4.2.b), .int .i64 r4.2.p]]⟩)] (M4 + 2)) (fun K hK => ?_) ?_
 ·
  skip
  simp -dsimp -implicitDefEqProofs (maxDischargeDepth := 6)
  exact hK _ _ ⟨rfl, rfl⟩
 rintro a σ ⟨rfl, rfl⟩
 refine AWP_cond (ieq r4.1 0) rfl (fun C1 => ?_) (fun C1 => ?_)
 ·
  replace H := ifT C1 H
  obtain ⟨r5, hr5, H⟩ := bindE H
  obtain ⟨v6, hv6, H⟩ := bindE H
  have q0 : ∀ σ i, buildSliceA T 24 true i 2 [(0, .int .i64 0), (1, .int .i64 32)] σ = some (.fsl (encL rI ([0, 32] : List Int)), σ) := fun _ _ => rfl
  refine AWP_rt tok [0] [5, 6] (fun a σ => ∃ M5 : Nat, M4 + 8 ≤ M5 ∧ a = [(5, .int .i64 v6), (6, .int .i64 r3.1)] ∧ σ = hp E0 [(o1, some ⟨138, 2, [[.fsl (encL rI_u8 r5.2.b), .int .i64 r5.2.p]]⟩)] M5) (fun K hK => ?_) ?_
  ·
   skip
   simp -dsimp -implicitDefEqProofs (maxDischargeDepth := 6) [q0, ix24 hv6]
   refine (c71 (W0 := [[.fsl (encL rI_u8 r4.2.b), .int .i64 r4.2.p]]) (r0_ := 0) (H := hr5) (by simp [q0, ix24 hv6]) (by simp [q0, ix24 hv6])).mono ?_; rintro _ _ ⟨M5, fM5_0, rfl, rfl⟩; simp only [hp_next] at fM5_0
   try simp -dsimp -implicitDefEqProofs (maxDischargeDepth := 6) [q0, ix24 hv6, hp_over_some, hp_over_none]
   exact hK _ _ ⟨M5, (by omega), rfl, rfl⟩
  rintro a σ ⟨M5, fM5_0, ha, rfl⟩
  refine hK1 _ _ ?_; rw [ha]
  refine Rc.mk ?_
  refine AWP_sr tok [] [2, 3] (fun a σ => a = [(2, .int .i64 v6), (3, .int .i64 r3.1)] ∧ σ = hp E0 [(o1, some ⟨138, 2, [[.fsl (encL rI_u8 r5.2.b), .int .i64 r5.2.p]]⟩)] (M5 + 4)) (fun K hK => ?_) ?_
  ·
   skip
   simp -dsimp -implicitDefEqProofs (maxDischargeDepth := 6)
   exact hK _ _ ⟨rfl, rfl⟩
  rintro a σ ⟨rfl, rfl⟩
  replace H := Option.some.inj H; subst H
  refine AWP_kp [2, 3] [(2, .int .i64 v6), (3, .int .i64 r3.1)] rfl ?_
  refine AWP_ret ?_
  exact ⟨[.int .i64 v6, .int .i64 r3.1], by simp, 4, by simp [encL_nil]⟩
 ·
  replace H := ifF C1 H
  obtain ⟨j1, hj1, H⟩ := bindE H
  refine AWP_seq (AWP_named fun K2 hK2 => ?_)
  have hJ1 : ∀ a σ, Rc G 36 N0 (fun a σ => ∃ M6 : Nat, N0 ≤ M6 ∧ o1 < M6 ∧ a = [(4, .ptr o1 0 0), (5, .int .i64 (iadd .i64 1 r2.1)), (6, .int .i64 r3.1), (15, .int .i64 r4.1), (23, .bool j1)] ∧ σ = hp E0 [(o1, some ⟨138, 2, [[.fsl (encL rI_u8 r4.2.b), .int .i64 r4.2.p]]⟩)] M6) (a.keep [4, 5, 6, 15, 23]) σ → K2 a σ := by
   rintro a σ ⟨b, τ, hr, M6, fM6_0, fM6_1, rfl, rfl⟩
   refine hK2 _ _ (AWP_keep [4, 5, 6, 15, 23] (AWP_ref hr ?_))
   refine AWP_cond j1 rfl (fun C2 => ?_) (fun C2 => ?_)
   ·
    replace H := ifT C2 H
    obtain ⟨r8, hr8, H⟩ := bindE H
    obtain ⟨v9, hv9, H⟩ := bindE H
    have q1 : ∀ σ i, buildSliceA T 24 true i 9 [(0, .int .i64 (-2048)), (1, .int .i64 2047), (2, .int .i64 2048), (3, .int .i64 (-2049)), (4, .int .i64 4095), (5, .int .i64 4096), (6, .int .i64 6144), (7, .int .i64 2147481600), (8, .int .i64 2147481599)] σ = some (.fsl (encL rI ([-2048, 2047, 2048, -2049, 4095, 4096, 6144, 2147481600, 2147481599] : List Int)), σ) := fun _ _ => rfl
    refine AWP_rt tok [0] [5, 6] (fun a σ => ∃ M7 : Nat, M6 + 6 ≤ M7 ∧ a = [(5, .int .i64 (iadd .i64 1 r2.1)), (6, .int .i64 v9)] ∧ σ = hp E0 [(o1, some ⟨138, 2, [[.fsl (encL rI_u8 r8.2.b), .int .i64 r8.2.p]]⟩)] M7) (fun K hK => ?_) ?_
    ·
     skip
     simp -dsimp -implicitDefEqProofs (maxDischargeDepth := 6) [q1, ix24 hv9]
     refine (c71 (W0 := [[.fsl (encL rI_u8 r4.2.b), .int .i64 r4.2.p]]) (r0_ := 0) (H := hr8) (by simp [q1, ix24 hv9]) (by simp [q1, ix24 hv9])).mono ?_; rintro _ _ ⟨M7, fM7_0, rfl, rfl⟩; simp only [hp_next] at fM7_0
     try simp -dsimp -implicitDefEqProofs (maxDischargeDepth := 6) [q1, ix24 hv9, hp_over_some, hp_over_none]
     exact hK _ _ ⟨M7, (by omega), rfl, rfl⟩
    rintro a σ ⟨M7, fM7_0, ha, rfl⟩
    refine hK1 _ _ ?_; rw [ha]
    refine Rc.mk ?_
    refine AWP_sr tok [] [2, 3] (fun a σ => a = [(2, .int .i64 (iadd .i64 1 r2.1)), (3, .int .i64 v9)] ∧ σ = hp E0 [(o1, some ⟨138, 2, [[.fsl (encL rI_u8 r8.2.b), .int .i64 r8.2.p]]⟩)] (M7 + 4)) (fun K hK => ?_) ?_
    ·
     skip
     simp -dsimp -implicitDefEqProofs (maxDischargeDepth := 6)
     exact hK _ _ ⟨rfl, rfl⟩
    rintro a σ ⟨rfl, rfl⟩
    replace H := Option.some.inj H; subst H
    refine AWP_kp [2, 3] [(2, .int .i64 (iadd .i64 1 r2.1)), (3, .int .i64 v9)] rfl ?_
    refine AWP_ret ?_
    exact ⟨[.int .i64 (iadd .i64 1 r2.1), .int .i64 v9], by simp, 4, by simp [encL_nil]⟩
   ·
    replace H := ifF C2 H
    refine AWP_sr tok [] [5, 6, 32] (fun a σ => a = [(5, .int .i64 (iadd .i64 1 r2.1)), (6, .int .i64 r3.1), (32, .bool (ieq r4.1 4))] ∧ σ = hp E0 [(o1, some ⟨138, 2, [[.fsl (encL rI_u8 r4.2.b), .int .i64 r4.2.p]]⟩)] (M6 + 2)) (fun K hK => ?_) ?_
    ·
     skip
     simp -dsimp -implicitDefEqProofs (maxDischargeDepth := 6)
     exact hK _ _ ⟨rfl, rfl⟩
    rintro a σ ⟨rfl, rfl⟩
    refine AWP_cond (ieq r4.1 4) rfl (fun C3 => ?_) (fun C3 => ?_)
    ·
     replace H := ifT C3 H
     refine AWP_rt tok [] [5, 6] (fun a σ => a = [(5, .int .i64 (iadd .i64 1 r2.1)), (6, .int .i64 2147483648)] ∧ σ = hp E0 [(o1, some ⟨138, 2, [[.fsl (encL rI_u8 r4.2.b), .int .i64 r4.2.p]]⟩)] (M6 + 3)) (fun K hK => ?_) ?_
     ·
      skip
      simp -dsimp -implicitDefEqProofs (maxDischargeDepth := 6)
      exact hK _ _ ⟨rfl, rfl⟩
     rintro a σ ⟨ha, rfl⟩
     refine hK1 _ _ ?_; rw [ha]
     refine Rc.mk ?_
     refine AWP_sr tok [] [2, 3] (fun a σ => a = [(2, .int .i64 (iadd .i64 1 r2.1)), (3, .int .i64 2147483648)] ∧ σ = hp E0 [(o1, some ⟨138, 2, [[.fsl (encL rI_u8 r4.2.b), .int .i64 r4.2.p]]⟩)] (M6 + 7)) (fun K hK => ?_) ?_
     ·
      skip
      simp -dsimp -implicitDefEqProofs (maxDischargeDepth := 6)
      exact hK _ _ ⟨rfl, rfl⟩
     rintro a σ ⟨rfl, rfl⟩
     replace H := Option.some.inj H; subst H
     refine AWP_kp [2, 3] [(2, .int .i64 (iadd .i64 1 r2.1)), (3, .int .i64 2147483648)] rfl ?_
     refine AWP_ret ?_
     exact ⟨[.int .i64 (iadd .i64 1 r2.1), .int .i64 2147483648], by simp, 4, by simp [encL_nil]⟩
    ·
     replace H := ifF C3 H
     refine AWP_skip ?_
     show K1 _ _
     refine keepE (l := [5, 6]) (x := [(5, .int .i64 (iadd .i64 1 r2.1)), (6, .int .i64 r3.1)]) rfl fun a' ha => ?_
     refine hK1 _ _ ?_; rw [ha]
     refine Rc.mk ?_
     refine AWP_sr tok [] [2, 3] (fun a σ => a = [(2, .int .i64 (iadd .i64 1 r2.1)), (3, .int .i64 r3.1)] ∧ σ = hp E0 [(o1, some ⟨138, 2, [[.fsl (encL rI_u8 r4.2.b), .int .i64 r4.2.p]]⟩)] (M6 + 6)) (fun K hK => ?_) ?_
     ·
      skip
      simp -dsimp -implicitDefEqProofs (maxDischargeDepth := 6)
      exact hK _ _ ⟨rfl, rfl⟩
     rintro a σ ⟨rfl, rfl⟩
     replace H := Option.some.inj H; subst H
     refine AWP_kp [2, 3] [(2, .int .i64 (iadd .i64 1 r2.1)), (3, .int .i64 r3.1)] rfl ?_
     refine AWP_ret ?_
     exact ⟨[.int .i64 (iadd .i64 1 r2.1), .int .i64 r3.1], by simp, 4, by simp [encL_nil]⟩
  replace H := hj1
  refine AWP_sr tok [] [4, 5, 6, 15, 23] (fun a σ => a = [(4, .ptr o1 0 0), (5, .int .i64 (iadd .i64 1 r2.1)), (6, .int .i64 r3.1), (15, .int .i64 r4.1), (23, .bool (ieq r4.1 1))] ∧ σ = hp E0 [(o1, some ⟨138, 2, [[.fsl (encL rI_u8 r4.2.b), .int .i64 r4.2.p]]⟩)] (M4 + 4)) (fun K hK => ?_) ?_
  ·
   skip
   simp -dsimp -implicitDefEqProofs (maxDischargeDepth := 6)
   exact hK _ _ ⟨rfl, rfl⟩
  rintro a σ ⟨rfl, rfl⟩
  refine AWP_cond (ieq r4.1 1) rfl (fun C4 => ?_) (fun C4 => ?_)
  ·
   replace H := ifT C4 H
   refine AWP_skip ?_
   show K2 _ _
   refine keepE (l := [4, 5, 6, 15, 23]) (x := [(4, .ptr o1 0 0), (5, .int .i64 (iadd .i64 1 r2.1)), (6, .int .i64 r3.1), (15, .int .i64 r4.1), (23, .bool (ieq r4.1 1))]) rfl fun a' ha => ?_
   replace H := Option.some.inj H; subst H
   refine hJ1 _ _ ?_; rw [ha]
   exact Rc.fin (AHeap.Sub.refl _) ⟨M4 + 4, (by omega), (by omega), rfl, rfl⟩
  ·
   replace H := ifF C4 H
   refine AWP_sr tok [] [4, 5, 6, 15, 23] (fun a σ => a = [(4, .ptr o1 0 0), (5, .int .i64 (iadd .i64 1 r2.1)), (6, .int .i64 r3.1), (15, .int .i64 r4.1), (23, .bool (ieq r4.1 2))] ∧ σ = hp E0 [(o1, some ⟨138, 2, [[.fsl (encL rI_u8 r4.2.b), .int .i64 r4.2.p]]⟩)] (M4 + 6)) (fun K hK => ?_) ?_
   ·
    skip
    simp -dsimp -implicitDefEqProofs (maxDischargeDepth := 6)
    exact hK _ _ ⟨rfl, rfl⟩
   rintro a σ ⟨rfl, rfl⟩
   refine AWP_cond (ieq r4.1 2) rfl (fun C5 => ?_) (fun C5 => ?_)
   ·
    replace H := ifT C5 H
    refine AWP_skip ?_
    show K2 _ _
    refine keepE (l := [4, 5, 6, 15, 23]) (x := [(4, .ptr o1 0 0), (5, .int .i64 (iadd .i64 1 r2.1)), (6, .int .i64 r3.1), (15, .int .i64 r4.1), (23, .bool (ieq r4.1 2))]) rfl fun a' ha => ?_
    replace H := Option.some.inj H; subst H
    refine hJ1 _ _ ?_; rw [ha]
    exact Rc.fin (AHeap.Sub.refl _) ⟨M4 + 6, (by omega), (by omega), rfl, rfl⟩
   ·
    replace H := ifF C5 H
    refine AWP_rt tok [] [4, 5, 6, 15, 23] (fun a σ => a = [(4, .ptr o1 0 0), (5, .int .i64 (iadd .i64 1 r2.1)), (6, .int .i64 r3.1), (15, .int .i64 r4.1), (23, .bool (ieq r4.1 3))] ∧ σ = hp E0 [(o1, some ⟨138, 2, [[.fsl (encL rI_u8 r4.2.b), .int .i64 r4.2.p]]⟩)] (M4 + 8)) (fun K hK => ?_) ?_
    ·
     skip
     simp -dsimp -implicitDefEqProofs (maxDischargeDepth := 6)
     exact hK _ _ ⟨rfl, rfl⟩
    rintro a σ ⟨ha, rfl⟩
    replace H := Option.some.inj H; subst H
    refine hJ1 _ _ ?_; rw [ha]
    exact Rc.fin (AHeap.Sub.refl _) ⟨M4 + 8, (by omega), (by omega), rfl, rfl⟩
theorem c119 {p0 : Int} {p1 : Int} {p2 : Int} {r : gInstr} (H : i_addi p0 p1 p2 = some r) : APure Tryd.prog G 119 [.int .i64 p0, .int .i64 p1, .int .i64 p2] (.agg [.int .i64 r.Op, .int .i64 r.Rd, .int .i64 r.Rs, .int .i64 r.Rt, .int .i64 r.Imm]) := by
 refine APure_fn (fun N0 => ?_) (by simp)
 refine ACalls_fn tok Tryd.func119 (by kernel_rfl) rfl Tryd.ntmps119 Tryd.results119 rfl ?_
 simp only [argsA, Nat.reduceAdd, hp_next]
 unfold i_addi at H
 refine AWP_sr tok [] [0, 1, 2, 6] (fun a σ => a = [(0, .int .i64 p0), (1, .int .i64 p1), (2, .int .i64 p2), (6, .ptr N0 0 0)] ∧ σ = hp E0 [(N0, some ⟨47, 5, [[.int .i64 0, .int .i64 0, .int .i64 0, .int .i64 0, .int .i64 0]]⟩)] (N0 + 1)) (fun K hK => ?_) ?_
 ·
  skip
  simp -dsimp -implicitDefEqProofs (maxDischargeDepth := 6)
  exact hK _ _ ⟨rfl, rfl⟩
 rintro a σ ⟨rfl, rfl⟩
 refine AWP_sr tok [] [6] (fun a σ => a = [(6, .ptr N0 0 0)] ∧ σ = hp E0 [(N0, some ⟨47, 5, [[.int .i64 12, .int .i64 p0, .int .i64 p1, .int .i64 0, .int .i64 p2]]⟩)] (N0 + 6)) (fun K hK => ?_) ?_
 ·
  skip
  simp -dsimp -implicitDefEqProofs (maxDischargeDepth := 6)
  exact hK _ _ ⟨rfl, rfl⟩
 rintro a σ ⟨rfl, rfl⟩
 replace H := Option.some.inj H; subst H
 refine AWP_kp [6] [(6, .ptr N0 0 0)] rfl ?_
 refine AWP_ret ?_
 exact ⟨[.agg [.int .i64 12, .int .i64 p0, .int .i64 p1, .int .i64 0, .int .i64 p2]], by simp, 4, by simp [encL_nil]⟩
theorem c126 {p0 : Int} {p1 : Int} {r : Int} (H : i_SignExtend p0 p1 = some r) : APure Tryd.prog G 126 [.int .i64 p0, .int .i64 p1] (.int .i64 r) := by
 refine APure_fn (fun N0 => ?_) (by simp)
 refine ACalls_fn tok Tryd.func126 (by kernel_rfl) rfl Tryd.ntmps126 Tryd.results126 rfl ?_
 simp only [argsA, Nat.reduceAdd, hp_next]
 unfold i_SignExtend at H
 refine AWP_sr tok [] [0, 1] (fun a σ => a = [(0, .int .i64 p0), (1, .int .i64 p1)] ∧ σ = hp E0 [] (N0 + 1)) (fun K hK => ?_) ?_
 ·
  skip
  simp -dsimp -implicitDefEqProofs (maxDischargeDepth := 6)
  exact hK _ _ ⟨rfl, rfl⟩
 rintro a σ ⟨rfl, rfl⟩
 refine AWP_sq [0, 1] fun K1 hK1 => ?_
 obtain ⟨g1, hg1, H⟩ := bindE H
 obtain ⟨g2, hg2, H⟩ := bindE H
 obtain ⟨g4, hg4, H⟩ := bindE H
 refine AWP_sr tok [] [0, 1, 20] (fun a σ => a = [(0, .int .i64 p0), (1, .int .i64 p1), (20, .bool g4)] ∧ σ = hp E0 [] (N0 + 17)) (fun K hK => ?_) ?_
 ·
  skip
  simp -dsimp -implicitDefEqProofs (maxDischargeDepth := 6)
  cases hbg1 : ilt p1 1
  ·
   replace hg1 := ifF hbg1 hg1
   replace hg1 := Option.some.inj hg1; subst hg1
   try simp -dsimp -implicitDefEqProofs (maxDischargeDepth := 6) [hbg1]
   cases hbg2 : (igt p1 32)
   ·
    replace hg2 := ifF hbg2 hg2
    replace hg2 := Option.some.inj hg2; subst hg2
    try simp -dsimp -implicitDefEqProofs (maxDischargeDepth := 6) [hbg1, hbg2]
    cases hbg4 : (ilt p0 0)
    ·
     replace hg4 := ifF hbg4 hg4
     obtain ⟨v3, hv3, hg4⟩ := bindE hg4
     replace hg4 := Option.some.inj hg4; subst hg4
     try simp -dsimp -implicitDefEqProofs (maxDischargeDepth := 6) [hbg1, hbg2, hbg4, hv3]
     exact hK _ _ ⟨rfl, rfl⟩
    ·
     replace hg4 := ifT hbg4 hg4
     replace hg4 := Option.some.inj hg4; subst hg4
     try simp -dsimp -implicitDefEqProofs (maxDischargeDepth := 6) [hbg1, hbg2, hbg4]
     exact hK _ _ ⟨rfl, rfl⟩
   ·
    replace hg2 := ifT hbg2 hg2
    replace hg2 := Option.some.inj hg2; subst hg2
    try simp -dsimp -implicitDefEqProofs (maxDischargeDepth := 6) [hbg1, hbg2]
    replace hg4 := ifT rfl hg4
    replace hg4 := Option.some.inj hg4; subst hg4
    try simp -dsimp -implicitDefEqProofs (maxDischargeDepth := 6) [hbg1, hbg2]
    exact hK _ _ ⟨rfl, rfl⟩
  ·
   replace hg1 := ifT hbg1 hg1
   replace hg1 := Option.some.inj hg1; subst hg1
   try simp -dsimp -implicitDefEqProofs (maxDischargeDepth := 6) [hbg1]
   replace hg2 := ifT rfl hg2
   replace hg2 := Option.some.inj hg2; subst hg2
   try simp -dsimp -implicitDefEqProofs (maxDischargeDepth := 6) [hbg1]
   replace hg4 := ifT rfl hg4
   replace hg4 := Option.some.inj hg4; subst hg4
   try simp -dsimp -implicitDefEqProofs (maxDischargeDepth := 6) [hbg1]
   exact hK _ _ ⟨rfl, rfl⟩
 rintro a σ ⟨rfl, rfl⟩
 refine AWP_cond g4 rfl (fun C1 => ?_) (fun C1 => ?_)
 ·
  replace H := ifT C1 H
  refine AWP_sr tok [] [4] (fun a σ => a = [(4, .int .i64 0)] ∧ σ = hp E0 [] (N0 + 18)) (fun K hK => ?_) ?_
  ·
   skip
   simp -dsimp -implicitDefEqProofs (maxDischargeDepth := 6)
   exact hK _ _ ⟨rfl, rfl⟩
  rintro a σ ⟨rfl, rfl⟩
  replace H := Option.some.inj H; subst H
  refine AWP_kp [4] [(4, .int .i64 0)] rfl ?_
  refine AWP_ret ?_
  exact ⟨[.int .i64 0], by simp, 4, by simp [encL_nil]⟩
 ·
  replace H := ifF C1 H
  refine AWP_skip ?_
  show K1 _ _
  refine keepE (l := [0, 1]) (x := [(0, .int .i64 p0), (1, .int .i64 p1)]) rfl fun a' ha => ?_
  refine hK1 _ _ ?_; rw [ha]
  refine Rc.mk ?_
  refine AWP_sq [0] fun K2 hK2 => ?_
  obtain ⟨v5, hv5, H⟩ := bindE H
  refine AWP_sr tok [] [0, 1, 25] (fun a σ => a = [(0, .int .i64 p0), (1, .int .i64 p1), (25, .bool (ige p0 v5))] ∧ σ = hp E0 [] (N0 + 22)) (fun K hK => ?_) ?_
  ·
   skip
   simp -dsimp -implicitDefEqProofs (maxDischargeDepth := 6) [hv5]
   exact hK _ _ ⟨rfl, rfl⟩
  rintro a σ ⟨rfl, rfl⟩
  refine AWP_cond (ige p0 v5) rfl (fun C2 => ?_) (fun C2 => ?_)
  ·
   replace H := ifT C2 H
   obtain ⟨v6, hv6, H⟩ := bindE H
   refine AWP_sr tok [] [4] (fun a σ => a = [(4, .int .i64 (isub .i64 p0 v6))] ∧ σ = hp E0 [] (N0 + 27)) (fun K hK => ?_) ?_
   ·
    skip
    simp -dsimp -implicitDefEqProofs (maxDischargeDepth := 6) [hv6]
    exact hK _ _ ⟨rfl, rfl⟩
   rintro a σ ⟨rfl, rfl⟩
   replace H := Option.some.inj H; subst H
   refine AWP_kp [4] [(4, .int .i64 (isub .i64 p0 v6))] rfl ?_
   refine AWP_ret ?_
   exact ⟨[.int .i64 (isub .i64 p0 v6)], by simp, 4, by simp [encL_nil]⟩
  ·
   replace H := ifF C2 H
   refine AWP_skip ?_
   show K2 _ _
   refine keepE (l := [0]) (x := [(0, .int .i64 p0)]) rfl fun a' ha => ?_
   refine hK2 _ _ ?_; rw [ha]
   refine Rc.mk ?_
   refine AWP_sr tok [] [4] (fun a σ => a = [(4, .int .i64 p0)] ∧ σ = hp E0 [] (N0 + 24)) (fun K hK => ?_) ?_
   ·
    skip
    simp -dsimp -implicitDefEqProofs (maxDischargeDepth := 6)
    exact hK _ _ ⟨rfl, rfl⟩
   rintro a σ ⟨rfl, rfl⟩
   replace H := Option.some.inj H; subst H
   refine AWP_kp [4] [(4, .int .i64 p0)] rfl ?_
   refine AWP_ret ?_
   exact ⟨[.int .i64 p0], by simp, 4, by simp [encL_nil]⟩
theorem c74 {p0 : Int} {p1 : Int} {r : (List gInstr)} (H : i_constInstrs p0 p1 = some r) : APure Tryd.prog G 74 [.int .i64 p0, .int .i64 p1] (.fsl (encL rInstr r)) := by
 refine APure_fn (fun N0 => ?_) (by simp)
 refine ACalls_fn tok Tryd.func74 (by kernel_rfl) rfl Tryd.ntmps74 Tryd.results74 rfl ?_
 simp only [argsA, Nat.reduceAdd, hp_next]
 unfold i_constInstrs at H
 refine AWP_sr tok [] [0, 1] (fun a σ => a = [(0, .int .i64 p0), (1, .int .i64 p1)] ∧ σ = hp E0 [] (N0 + 1)) (fun K hK => ?_) ?_
 ·
  skip
  simp -dsimp -implicitDefEqProofs (maxDischargeDepth := 6)
  exact hK _ _ ⟨rfl, rfl⟩
 rintro a σ ⟨rfl, rfl⟩
 refine AWP_sq [0, 1] fun K1 hK1 => ?_
 obtain ⟨g1, hg1, H⟩ := bindE H
 refine AWP_sr tok [] [0, 1, 12] (fun a σ => a = [(0, .int .i64 p0), (1, .int .i64 p1), (12, .bool g1)] ∧ σ = hp E0 [] (N0 + 7)) (fun K hK => ?_) ?_
 ·
  skip
  simp -dsimp -implicitDefEqProofs (maxDischargeDepth := 6)
  cases hbg1 : ige p1 (-2048)
  ·
   replace hg1 := ifF hbg1 hg1
   replace hg1 := Option.some.inj hg1; subst hg1
   try simp -dsimp -implicitDefEqProofs (maxDischargeDepth := 6) [hbg1]
   exact hK _ _ ⟨rfl, rfl⟩
  ·
   replace hg1 := ifT hbg1 hg1
   replace hg1 := Option.some.inj hg1; subst hg1
   try simp -dsimp -implicitDefEqProofs (maxDischargeDepth := 6) [hbg1]
   exact hK _ _ ⟨rfl, rfl⟩
 rintro a σ ⟨rfl, rfl⟩
 refine AWP_cond g1 rfl (fun C1 => ?_) (fun C1 => ?_)
 ·
  replace H := ifT C1 H
  obtain ⟨r2, hr2, H⟩ := bindE H
  have q0 : ∀ σ i, buildSliceA T 29 true i 1 [(0, .agg [.int .i64 r2.Op, .int .i64 r2.Rd, .int .i64 r2.Rs, .int .i64 r2.Rt, .int .i64 r2.Imm])] σ = some (.fsl (encL rInstr ([r2] : List gInstr)), σ) := fun _ _ => rfl
  refine AWP_sr tok [3] [4] (fun a σ => a = [(4, .fsl (encL rInstr ([r2] : List gInstr)))] ∧ σ = hp E0 [] (N0 + 12)) (fun K hK => ?_) ?_
  ·
   skip
   simp -dsimp -implicitDefEqProofs (maxDischargeDepth := 6) [q0]
   refine (c119 hr2).app ?_; try simp -dsimp -implicitDefEqProofs (maxDischargeDepth := 6) [q0]
   exact hK _ _ ⟨rfl, rfl⟩
  rintro a σ ⟨rfl, rfl⟩
  replace H := Option.some.inj H; subst H
  refine AWP_kp [4] [(4, .fsl (encL rInstr ([r2] : List gInstr)))] rfl ?_
  refine AWP_ret ?_
  exact ⟨[.fsl (encL rInstr ([r2] : List gInstr))], by simp, 4, by simp [encL_nil]⟩
 ·
  replace H := ifF C1 H
  refine AWP_skip ?_
  show K1 _ _
  refine keepE (l := [0, 1]) (x := [(0, .int .i64 p0), (1, .int .i64 p1)]) rfl fun a' ha => ?_
  refine hK1 _ _ ?_; rw [ha]
  refine Rc.mk ?_
  obtain ⟨r3, hr3, H⟩ := bindE H
  obtain ⟨r4, hr4, H⟩ := bindE H
  obtain ⟨r5, hr5, H⟩ := bindE H
  refine AWP_sr tok [] [0, 1, 5] (fun a σ => a = [(0, .int .i64 p0), (1, .int .i64 p1), (5, .int .i64 r5)] ∧ σ = hp E0 [] (N0 + 12)) (fun K hK => ?_) ?_
  ·
   skip
   simp -dsimp -implicitDefEqProofs (maxDischargeDepth := 6)
   refine (c128 hr3).app ?_; try simp -dsimp -implicitDefEqProofs (maxDischargeDepth := 6)
   refine (c127 hr4).app ?_; try simp -dsimp -implicitDefEqProofs (maxDischargeDepth := 6)
   refine (c126 hr5).app ?_; try simp -dsimp -implicitDefEqProofs (maxDischargeDepth := 6)
   exact hK _ _ ⟨rfl, rfl⟩
  rintro a σ ⟨rfl, rfl⟩
  obtain ⟨r6, hr6, H⟩ := bindE H
  obtain ⟨r7, hr7, H⟩ := bindE H
  obtain ⟨r8, hr8, H⟩ := bindE H
  refine AWP_sr tok [] [0, 5, 6] (fun a σ => a = [(0, .int .i64 p0), (5, .int .i64 r5), (6, .int .i64 r8)] ∧ σ = hp E0 [] (N0 + 19)) (fun K hK => ?_) ?_
  ·
   skip
   simp -dsimp -implicitDefEqProofs (maxDischargeDepth := 6)
   refine (c58 hr6).app ?_; try simp -dsimp -implicitDefEqProofs (maxDischargeDepth := 6)
   refine (c128 hr7).app ?_; try simp -dsimp -implicitDefEqProofs (maxDischargeDepth := 6)
   refine (c127 hr8).app ?_; try simp -dsimp -implicitDefEqProofs (maxDischargeDepth := 6)
   exact hK _ _ ⟨rfl, rfl⟩
  rintro a σ ⟨rfl, rfl⟩
  obtain ⟨r9, hr9, H⟩ := bindE H
  have q1 : ∀ σ i, buildSliceA T 29 true i 2 [(0, .agg [.int .i64 19, .int .i64 p0, .int .i64 0, .int .i64 0, .int .i64 r8]), (1, .agg [.int .i64 r9.Op, .int .i64 r9.Rd, .int .i64 r9.Rs, .int .i64 r9.Rt, .int .i64 r9.Imm])] σ = some (.fsl (encL rInstr ([(⟨19, p0, 0, 0, r8⟩ : gInstr), r9] : List gInstr)), σ) := fun _ _ => rfl
  refine AWP_sr tok [7] [4] (fun a σ => a = [(4, .fsl (encL rInstr ([(⟨19, p0, 0, 0, r8⟩ : gInstr), r9] : List gInstr)))] ∧ σ = hp E0 [] (N0 + 28)) (fun K hK => ?_) ?_
  ·
   skip
   simp -dsimp -implicitDefEqProofs (maxDischargeDepth := 6) [q1]
   refine (c119 hr9).app ?_; try simp -dsimp -implicitDefEqProofs (maxDischargeDepth := 6) [q1]
   exact hK _ _ ⟨rfl, rfl⟩
  rintro a σ ⟨rfl, rfl⟩
  replace H := Option.some.inj H; subst H
  refine AWP_kp [4] [(4, .fsl (encL rInstr ([(⟨19, p0, 0, 0, r8⟩ : gInstr), r9] : List gInstr)))] rfl ?_
  refine AWP_ret ?_
  exact ⟨[.fsl (encL rInstr ([(⟨19, p0, 0, 0, r8⟩ : gInstr), r9] : List gInstr))], by simp, 4, by simp [encL_nil]⟩
theorem c30 {p0 : Int} {p1 : Int} {r : (List gInstr) × Bool} (H : i_ConstInstrs p0 p1 = some r) : APure Tryd.prog G 30 [.int .i64 p0, .int .i64 p1] (.tup [.fsl (encL rInstr r.1), .bool r.2]) := by
 refine APure_fn (fun N0 => ?_) (by simp)
 refine ACalls_fn tok Tryd.func30 (by kernel_rfl) rfl Tryd.ntmps30 Tryd.results30 rfl ?_
 simp only [argsA, Nat.reduceAdd, hp_next]
 unfold i_ConstInstrs at H
 refine AWP_sr tok [] [0, 1] (fun a σ => a = [(0, .int .i64 p0), (1, .int .i64 p1)] ∧ σ = hp E0 [] (N0 + 2)) (fun K hK => ?_) ?_
 ·
  skip
  simp -dsimp -implicitDefEqProofs (maxDischargeDepth := 6)
  exact hK _ _ ⟨rfl, rfl⟩
 rintro a σ ⟨rfl, rfl⟩
 refine AWP_sq [0, 1] fun K1 hK1 => ?_
 obtain ⟨g1, hg1, H⟩ := bindE H
 obtain ⟨g3, hg3, H⟩ := bindE H
 refine AWP_sr tok [] [0, 1, 16] (fun a σ => a = [(0, .int .i64 p0), (1, .int .i64 p1), (16, .bool g3)] ∧ σ = hp E0 [] (N0 + 13)) (fun K hK => ?_) ?_
 ·
  skip
  simp -dsimp -implicitDefEqProofs (maxDischargeDepth := 6)
  cases hbg1 : ilt p0 1
  ·
   replace hg1 := ifF hbg1 hg1
   replace hg1 := Option.some.inj hg1; subst hg1
   try simp -dsimp -implicitDefEqProofs (maxDischargeDepth := 6) [hbg1]
   cases hbg3 : (igt p0 31)
   ·
    replace hg3 := ifF hbg3 hg3
    obtain ⟨r2, hr2, hg3⟩ := bindE hg3
    replace hg3 := Option.some.inj hg3; subst hg3
    try simp -dsimp -implicitDefEqProofs (maxDischargeDepth := 6) [hbg1, hbg3]
    refine (c73 hr2).app ?_; try simp -dsimp -implicitDefEqProofs (maxDischargeDepth := 6) [hbg1, hbg3]
    exact hK _ _ ⟨rfl, rfl⟩
   ·
    replace hg3 := ifT hbg3 hg3
    replace hg3 := Option.some.inj hg3; subst hg3
    try simp -dsimp -implicitDefEqProofs (maxDischargeDepth := 6) [hbg1, hbg3]
    exact hK _ _ ⟨rfl, rfl⟩
  ·
   replace hg1 := ifT hbg1 hg1
   replace hg1 := Option.some.inj hg1; subst hg1
   try simp -dsimp -implicitDefEqProofs (maxDischargeDepth := 6) [hbg1]
   replace hg3 := ifT rfl hg3
   replace hg3 := Option.some.inj hg3; subst hg3
   try simp -dsimp -implicitDefEqProofs (maxDischargeDepth := 6) [hbg1]
   exact hK _ _ ⟨rfl, rfl⟩
 rintro a σ ⟨rfl, rfl⟩
 refine AWP_cond g3 rfl (fun C1 => ?_) (fun C1 => ?_)
 ·
  replace H := ifT C1 H
  refine AWP_sr tok [] [4, 5] (fun a σ => a = [(4, .nilsl), (5, .bool false)] ∧ σ = hp E0 [] (N0 + 15)) (fun K hK => ?_) ?_
  ·
   skip
   simp -dsimp -implicitDefEqProofs (maxDischargeDepth := 6)
   exact hK _ _ ⟨rfl, rfl⟩
  rintro a σ ⟨rfl, rfl⟩
  replace H := Option.some.inj H; subst H
  refine AWP_kp [4, 5] [(4, .nilsl), (5, .bool false)] rfl ?_
  refine AWP_ret ?_
  exact ⟨[.nilsl, .bool false], by simp, 4, by simp [encL_nil]⟩
 ·
  replace H := ifF C1 H
  refine AWP_skip ?_
  show K1 _ _
  refine keepE (l := [0, 1]) (x := [(0, .int .i64 p0), (1, .int .i64 p1)]) rfl fun a' ha => ?_
  refine hK1 _ _ ?_; rw [ha]
  refine Rc.mk ?_
  obtain ⟨r4, hr4, H⟩ := bindE H
  refine AWP_sr tok [] [4, 5] (fun a σ => a = [(4, .fsl (encL rInstr r4)), (5, .bool true)] ∧ σ = hp E0 [] (N0 + 18)) (fun K hK => ?_) ?_
  ·
   skip
   simp -dsimp -implicitDefEqProofs (maxDischargeDepth := 6)
   refine (c74 hr4).app ?_; try simp -dsimp -implicitDefEqProofs (maxDischargeDepth := 6)
   exact hK _ _ ⟨rfl, rfl⟩
  rintro a σ ⟨rfl, rfl⟩
  replace H := Option.some.inj H; subst H
  refine AWP_kp [4, 5] [(4, .fsl (encL rInstr r4)), (5, .bool true)] rfl ?_
  refine AWP_ret ?_
  exact ⟨[.fsl (encL rInstr r4), .bool true], by simp, 4, by simp [encL_nil]⟩
theorem c75 {p0 : Int} {r : Bool} (H : s_WordValid p0 = some r) : APure Tryd.prog G 75 [.int .i64 p0] (.bool r) := by
 refine APure_fn (fun N0 => ?_) (by simp)
 refine ACalls_fn tok Tryd.func75 (by kernel_rfl) rfl Tryd.ntmps75 Tryd.results75 rfl ?_
 simp only [argsA, Nat.reduceAdd, hp_next]
 unfold s_WordValid at H
 refine AWP_sr tok [] [0] (fun a σ => a = [(0, .int .i64 p0)] ∧ σ = hp E0 [] (N0 + 1)) (fun K hK => ?_) ?_
 ·
  skip
  simp -dsimp -implicitDefEqProofs (maxDischargeDepth := 6)
  exact hK _ _ ⟨rfl, rfl⟩
 rintro a σ ⟨rfl, rfl⟩
 obtain ⟨r1, hr1, H⟩ := bindE H
 refine AWP_sr tok [] [2] (fun a σ => a = [(2, .bool r1)] ∧ σ = hp E0 [] (N0 + 4)) (fun K hK => ?_) ?_
 ·
  skip
  simp -dsimp -implicitDefEqProofs (maxDischargeDepth := 6)
  refine (c65 hr1).app ?_; try simp -dsimp -implicitDefEqProofs (maxDischargeDepth := 6)
  exact hK _ _ ⟨rfl, rfl⟩
 rintro a σ ⟨rfl, rfl⟩
 replace H := Option.some.inj H; subst H
 refine AWP_kp [2] [(2, .bool r1)] rfl ?_
 refine AWP_ret ?_
 exact ⟨[.bool r1], by simp, 4, by simp [encL_nil]⟩
theorem c131 {p0 : Int} {r : Int} (H : s_Unsigned p0 = some r) : APure Tryd.prog G 131 [.int .i64 p0] (.int .i64 r) := by
 refine APure_fn (fun N0 => ?_) (by simp)
 refine ACalls_fn tok Tryd.func131 (by kernel_rfl) rfl Tryd.ntmps131 Tryd.results131 rfl ?_
 simp only [argsA, Nat.reduceAdd, hp_next]
 unfold s_Unsigned at H
 refine AWP_sr tok [] [0] (fun a σ => a = [(0, .int .i64 p0)] ∧ σ = hp E0 [] (N0 + 1)) (fun K hK => ?_) ?_
 ·
  skip
  simp -dsimp -implicitDefEqProofs (maxDischargeDepth := 6)
  exact hK _ _ ⟨rfl, rfl⟩
 rintro a σ ⟨rfl, rfl⟩
 refine AWP_sq [0] fun K1 hK1 => ?_
 obtain ⟨r1, hr1, H⟩ := bindE H
 refine AWP_sr tok [] [0, 5] (fun a σ => a = [(0, .int .i64 p0), (5, .bool (bnot r1))] ∧ σ = hp E0 [] (N0 + 4)) (fun K hK => ?_) ?_
 ·
  skip
  simp -dsimp -implicitDefEqProofs (maxDischargeDepth := 6)
  refine (c75 hr1).app ?_; try simp -dsimp -implicitDefEqProofs (maxDischargeDepth := 6)
  exact hK _ _ ⟨rfl, rfl⟩
 rintro a σ ⟨rfl, rfl⟩
 refine AWP_cond (bnot r1) rfl (fun C1 => ?_) (fun C1 => ?_)
 ·
  replace H := ifT C1 H
  refine AWP_sr tok [] [2] (fun a σ => a = [(2, .int .i64 (-1))] ∧ σ = hp E0 [] (N0 + 5)) (fun K hK => ?_) ?_
  ·
   skip
   simp -dsimp -implicitDefEqProofs (maxDischargeDepth := 6)
   exact hK _ _ ⟨rfl, rfl⟩
  rintro a σ ⟨rfl, rfl⟩
  replace H := Option.some.inj H; subst H
  refine AWP_kp [2] [(2, .int .i64 (-1))] rfl ?_
  refine AWP_ret ?_
  exact ⟨[.int .i64 (-1)], by simp, 4, by simp [encL_nil]⟩
 ·
  replace H := ifF C1 H
  refine AWP_skip ?_
  show K1 _ _
  refine keepE (l := [0]) (x := [(0, .int .i64 p0)]) rfl fun a' ha => ?_
  refine hK1 _ _ ?_; rw [ha]
  refine Rc.mk ?_
  refine AWP_sq [0] fun K2 hK2 => ?_
  refine AWP_sr tok [] [0, 7] (fun a σ => a = [(0, .int .i64 p0), (7, .bool (ilt p0 0))] ∧ σ = hp E0 [] (N0 + 6)) (fun K hK => ?_) ?_
  ·
   skip
   simp -dsimp -implicitDefEqProofs (maxDischargeDepth := 6)
   exact hK _ _ ⟨rfl, rfl⟩
  rintro a σ ⟨rfl, rfl⟩
  refine AWP_cond (ilt p0 0) rfl (fun C2 => ?_) (fun C2 => ?_)
  ·
   replace H := ifT C2 H
   refine AWP_sr tok [] [2] (fun a σ => a = [(2, .int .i64 (iadd .i64 p0 4294967296))] ∧ σ = hp E0 [] (N0 + 9)) (fun K hK => ?_) ?_
   ·
    skip
    simp -dsimp -implicitDefEqProofs (maxDischargeDepth := 6)
    exact hK _ _ ⟨rfl, rfl⟩
   rintro a σ ⟨rfl, rfl⟩
   replace H := Option.some.inj H; subst H
   refine AWP_kp [2] [(2, .int .i64 (iadd .i64 p0 4294967296))] rfl ?_
   refine AWP_ret ?_
   exact ⟨[.int .i64 (iadd .i64 p0 4294967296)], by simp, 4, by simp [encL_nil]⟩
  ·
   replace H := ifF C2 H
   refine AWP_skip ?_
   show K2 _ _
   refine keepE (l := [0]) (x := [(0, .int .i64 p0)]) rfl fun a' ha => ?_
   refine hK2 _ _ ?_; rw [ha]
   refine Rc.mk ?_
   refine AWP_sr tok [] [2] (fun a σ => a = [(2, .int .i64 p0)] ∧ σ = hp E0 [] (N0 + 8)) (fun K hK => ?_) ?_
   ·
    skip
    simp -dsimp -implicitDefEqProofs (maxDischargeDepth := 6)
    exact hK _ _ ⟨rfl, rfl⟩
   rintro a σ ⟨rfl, rfl⟩
   replace H := Option.some.inj H; subst H
   refine AWP_kp [2] [(2, .int .i64 p0)] rfl ?_
   refine AWP_ret ?_
   exact ⟨[.int .i64 p0], by simp, 4, by simp [encL_nil]⟩
theorem c129 {p0 : Int} {p1 : Int} {r : Int} (H : s_SignExtend p0 p1 = some r) : APure Tryd.prog G 129 [.int .i64 p0, .int .i64 p1] (.int .i64 r) := by
 refine APure_fn (fun N0 => ?_) (by simp)
 refine ACalls_fn tok Tryd.func129 (by kernel_rfl) rfl Tryd.ntmps129 Tryd.results129 rfl ?_
 simp only [argsA, Nat.reduceAdd, hp_next]
 unfold s_SignExtend at H
 refine AWP_sr tok [] [0, 1] (fun a σ => a = [(0, .int .i64 p0), (1, .int .i64 p1)] ∧ σ = hp E0 [] (N0 + 1)) (fun K hK => ?_) ?_
 ·
  skip
  simp -dsimp -implicitDefEqProofs (maxDischargeDepth := 6)
  exact hK _ _ ⟨rfl, rfl⟩
 rintro a σ ⟨rfl, rfl⟩
 refine AWP_sq [0, 1] fun K1 hK1 => ?_
 obtain ⟨r1, hr1, H⟩ := bindE H
 obtain ⟨g4, hg4, H⟩ := bindE H
 refine AWP_sr tok [] [0, 1, 15] (fun a σ => a = [(0, .int .i64 p0), (1, .int .i64 p1), (15, .bool g4)] ∧ σ = hp E0 [] (N0 + 12)) (fun K hK => ?_) ?_
 ·
  skip
  simp -dsimp -implicitDefEqProofs (maxDischargeDepth := 6)
  refine (c65 hr1).app ?_; try simp -dsimp -implicitDefEqProofs (maxDischargeDepth := 6)
  cases hbg4 : bnot r1
  ·
   replace hg4 := ifF hbg4 hg4
   obtain ⟨r2, hr2, hg4⟩ := bindE hg4
   obtain ⟨r3, hr3, hg4⟩ := bindE hg4
   replace hg4 := Option.some.inj hg4; subst hg4
   try simp -dsimp -implicitDefEqProofs (maxDischargeDepth := 6) [hbg4]
   refine (c147 hr2).app ?_; try simp -dsimp -implicitDefEqProofs (maxDischargeDepth := 6) [hbg4]
   refine (c65 hr3).app ?_; try simp -dsimp -implicitDefEqProofs (maxDischargeDepth := 6) [hbg4]
   exact hK _ _ ⟨rfl, rfl⟩
  ·
   replace hg4 := ifT hbg4 hg4
   replace hg4 := Option.some.inj hg4; subst hg4
   try simp -dsimp -implicitDefEqProofs (maxDischargeDepth := 6) [hbg4]
   exact hK _ _ ⟨rfl, rfl⟩
 rintro a σ ⟨rfl, rfl⟩
 refine AWP_cond g4 rfl (fun C1 => ?_) (fun C1 => ?_)
 ·
  replace H := ifT C1 H
  refine AWP_sr tok [] [4] (fun a σ => a = [(4, .int .i64 0)] ∧ σ = hp E0 [] (N0 + 13)) (fun K hK => ?_) ?_
  ·
   skip
   simp -dsimp -implicitDefEqProofs (maxDischargeDepth := 6)
   exact hK _ _ ⟨rfl, rfl⟩
  rintro a σ ⟨rfl, rfl⟩
  replace H := Option.some.inj H; subst H
  refine AWP_kp [4] [(4, .int .i64 0)] rfl ?_
  refine AWP_ret ?_
  exact ⟨[.int .i64 0], by simp, 4, by simp [encL_nil]⟩
 ·
  replace H := ifF C1 H
  refine AWP_skip ?_
  show K1 _ _
  refine keepE (l := [0, 1]) (x := [(0, .int .i64 p0), (1, .int .i64 p1)]) rfl fun a' ha => ?_
  refine hK1 _ _ ?_; rw [ha]
  refine Rc.mk ?_
  refine AWP_sq [0] fun K2 hK2 => ?_
  obtain ⟨r5, hr5, H⟩ := bindE H
  refine AWP_sr tok [] [0, 1, 20] (fun a σ => a = [(0, .int .i64 p0), (1, .int .i64 p1), (20, .bool (ige p0 r5))] ∧ σ = hp E0 [] (N0 + 17)) (fun K hK => ?_) ?_
  ·
   skip
   simp -dsimp -implicitDefEqProofs (maxDischargeDepth := 6)
   refine (c147 hr5).app ?_; try simp -dsimp -implicitDefEqProofs (maxDischargeDepth := 6)
   exact hK _ _ ⟨rfl, rfl⟩
  rintro a σ ⟨rfl, rfl⟩
  refine AWP_cond (ige p0 r5) rfl (fun C2 => ?_) (fun C2 => ?_)
  ·
   replace H := ifT C2 H
   obtain ⟨r6, hr6, H⟩ := bindE H
   refine AWP_sr tok [] [4] (fun a σ => a = [(4, .int .i64 (isub .i64 p0 r6))] ∧ σ = hp E0 [] (N0 + 22)) (fun K hK => ?_) ?_
   ·
    skip
    simp -dsimp -implicitDefEqProofs (maxDischargeDepth := 6)
    refine (c147 hr6).app ?_; try simp -dsimp -implicitDefEqProofs (maxDischargeDepth := 6)
    exact hK _ _ ⟨rfl, rfl⟩
   rintro a σ ⟨rfl, rfl⟩
   replace H := Option.some.inj H; subst H
   refine AWP_kp [4] [(4, .int .i64 (isub .i64 p0 r6))] rfl ?_
   refine AWP_ret ?_
   exact ⟨[.int .i64 (isub .i64 p0 r6)], by simp, 4, by simp [encL_nil]⟩
  ·
   replace H := ifF C2 H
   refine AWP_skip ?_
   show K2 _ _
   refine keepE (l := [0]) (x := [(0, .int .i64 p0)]) rfl fun a' ha => ?_
   refine hK2 _ _ ?_; rw [ha]
   refine Rc.mk ?_
   refine AWP_sr tok [] [4] (fun a σ => a = [(4, .int .i64 p0)] ∧ σ = hp E0 [] (N0 + 19)) (fun K hK => ?_) ?_
   ·
    skip
    simp -dsimp -implicitDefEqProofs (maxDischargeDepth := 6)
    exact hK _ _ ⟨rfl, rfl⟩
   rintro a σ ⟨rfl, rfl⟩
   replace H := Option.some.inj H; subst H
   refine AWP_kp [4] [(4, .int .i64 p0)] rfl ?_
   refine AWP_ret ?_
   exact ⟨[.int .i64 p0], by simp, 4, by simp [encL_nil]⟩
theorem c76 {p0 : Int} {p1 : Int} {r : (List gInstr)} (H : s_l43Const p0 p1 = some r) : APure Tryd.prog G 76 [.int .i64 p0, .int .i64 p1] (.fsl (encL rInstr r)) := by
 refine APure_fn (fun N0 => ?_) (by simp)
 refine ACalls_fn tok Tryd.func76 (by kernel_rfl) rfl Tryd.ntmps76 Tryd.results76 rfl ?_
 simp only [argsA, Nat.reduceAdd, hp_next]
 unfold s_l43Const at H
 refine AWP_sr tok [] [0, 1] (fun a σ => a = [(0, .int .i64 p0), (1, .int .i64 p1)] ∧ σ = hp E0 [] (N0 + 1)) (fun K hK => ?_) ?_
 ·
  skip
  simp -dsimp -implicitDefEqProofs (maxDischargeDepth := 6)
  exact hK _ _ ⟨rfl, rfl⟩
 rintro a σ ⟨rfl, rfl⟩
 refine AWP_sq [0, 1] fun K1 hK1 => ?_
 obtain ⟨r1, hr1, H⟩ := bindE H
 refine AWP_sr tok [] [0, 1, 9] (fun a σ => a = [(0, .int .i64 p0), (1, .int .i64 p1), (9, .bool r1)] ∧ σ = hp E0 [] (N0 + 3)) (fun K hK => ?_) ?_
 ·
  skip
  simp -dsimp -implicitDefEqProofs (maxDischargeDepth := 6)
  refine (c65 hr1).app ?_; try simp -dsimp -implicitDefEqProofs (maxDischargeDepth := 6)
  exact hK _ _ ⟨rfl, rfl⟩
 rintro a σ ⟨rfl, rfl⟩
 refine AWP_cond r1 rfl (fun C1 => ?_) (fun C1 => ?_)
 ·
  replace H := ifT C1 H
  have q0 : ∀ σ i, buildSliceA T 29 true i 1 [(0, .agg [.int .i64 12, .int .i64 p0, .int .i64 0, .int .i64 0, .int .i64 p1])] σ = some (.fsl (encL rInstr ([(⟨12, p0, 0, 0, p1⟩ : gInstr)] : List gInstr)), σ) := fun _ _ => rfl
  refine AWP_sr tok [3] [4] (fun a σ => a = [(4, .fsl (encL rInstr ([(⟨12, p0, 0, 0, p1⟩ : gInstr)] : List gInstr)))] ∧ σ = hp E0 [] (N0 + 8)) (fun K hK => ?_) ?_
  ·
   skip
   simp -dsimp -implicitDefEqProofs (maxDischargeDepth := 6) [q0]
   exact hK _ _ ⟨rfl, rfl⟩
  rintro a σ ⟨rfl, rfl⟩
  replace H := Option.some.inj H; subst H
  refine AWP_kp [4] [(4, .fsl (encL rInstr ([(⟨12, p0, 0, 0, p1⟩ : gInstr)] : List gInstr)))] rfl ?_
  refine AWP_ret ?_
  exact ⟨[.fsl (encL rInstr ([(⟨12, p0, 0, 0, p1⟩ : gInstr)] : List gInstr))], by simp, 4, by simp [encL_nil]⟩
 ·
  replace H := ifF C1 H
  refine AWP_skip ?_
  show K1 _ _
  refine keepE (l := [0, 1]) (x := [(0, .int .i64 p0), (1, .int .i64 p1)]) rfl fun a' ha => ?_
  refine hK1 _ _ ?_; rw [ha]
  refine Rc.mk ?_
  obtain ⟨r2, hr2, H⟩ := bindE H
  obtain ⟨r3, hr3, H⟩ := bindE H
  obtain ⟨r4, hr4, H⟩ := bindE H
  refine AWP_sr tok [] [0, 1, 5] (fun a σ => a = [(0, .int .i64 p0), (1, .int .i64 p1), (5, .int .i64 r4)] ∧ σ = hp E0 [] (N0 + 8)) (fun K hK => ?_) ?_
  ·
   skip
   simp -dsimp -implicitDefEqProofs (maxDischargeDepth := 6)
   refine (c131 hr2).app ?_; try simp -dsimp -implicitDefEqProofs (maxDischargeDepth := 6)
   refine (c130 hr3).app ?_; try simp -dsimp -implicitDefEqProofs (maxDischargeDepth := 6)
   refine (c129 hr4).app ?_; try simp -dsimp -implicitDefEqProofs (maxDischargeDepth := 6)
   exact hK _ _ ⟨rfl, rfl⟩
  rintro a σ ⟨rfl, rfl⟩
  obtain ⟨r5, hr5, H⟩ := bindE H
  obtain ⟨r6, hr6, H⟩ := bindE H
  obtain ⟨r7, hr7, H⟩ := bindE H
  refine AWP_sr tok [] [0, 5, 6] (fun a σ => a = [(0, .int .i64 p0), (5, .int .i64 r4), (6, .int .i64 r7)] ∧ σ = hp E0 [] (N0 + 15)) (fun K hK => ?_) ?_
  ·
   skip
   simp -dsimp -implicitDefEqProofs (maxDischargeDepth := 6)
   refine (c102 hr5).app ?_; try simp -dsimp -implicitDefEqProofs (maxDischargeDepth := 6)
   refine (c131 hr6).app ?_; try simp -dsimp -implicitDefEqProofs (maxDischargeDepth := 6)
   refine (c130 hr7).app ?_; try simp -dsimp -implicitDefEqProofs (maxDischargeDepth := 6)
   exact hK _ _ ⟨rfl, rfl⟩
  rintro a σ ⟨rfl, rfl⟩
  obtain ⟨l8, hl8, H⟩ := bindE H
  have q1 : ∀ σ i, buildSliceA T 29 false i 1 [(0, .agg [.int .i64 19, .int .i64 p0, .int .i64 0, .int .i64 0, .int .i64 r7])] σ = some (.sl i 0 (List.length l8), σ.put i ⟨47, 5, encL rInstr l8⟩) := by rw [← Option.some.inj hl8]; intro _ _; rfl
  refine AWP_sr tok [] [0, 5, 7] (fun a σ => a = [(0, .int .i64 p0), (5, .int .i64 r4), (7, .sl (N0 + 18) 0 l8.length)] ∧ σ = hp E0 [(N0 + 18, some ⟨47, 5, encL rInstr l8⟩)] (N0 + 20)) (fun K hK => ?_) ?_
  ·
   skip
   simp -dsimp -implicitDefEqProofs (maxDischargeDepth := 6) [q1]
   exact hK _ _ ⟨rfl, rfl⟩
  rintro a σ ⟨rfl, rfl⟩
  obtain ⟨l9, hl9, H⟩ := bindE H
  have q2 : ∀ σ i, buildSliceA T 29 true i 1 [(0, .agg [.int .i64 12, .int .i64 p0, .int .i64 p0, .int .i64 0, .int .i64 r4])] σ = some (.fsl (encL rInstr ([(⟨12, p0, p0, 0, r4⟩ : gInstr)] : List gInstr)), σ) := fun _ _ => rfl
  refine AWP_sr tok [5] [4] (fun a σ => a = [(4, .sl (N0 + 26) 0 l9.length)] ∧ σ = hp E0 [(N0 + 26, some ⟨47, 5, encL rInstr l9⟩)] (N0 + 28)) (fun K hK => ?_) ?_
  ·
   skip
   simp -dsimp -implicitDefEqProofs (maxDischargeDepth := 6) [q2, app29 hl9]
   exact hK _ _ ⟨rfl, rfl⟩
  rintro a σ ⟨rfl, rfl⟩
  refine gFrz AWP_ref 4 [N0 + 26] [] [(4, .fsl (encL rInstr l9))] (by simp) (cutD (by simp)) ?_
  replace H := Option.some.inj H; subst H
  refine AWP_kp [4] [(4, .fsl (encL rInstr l9))] rfl ?_
  refine AWP_ret ?_
  exact ⟨[.fsl (encL rInstr l9)], by simp, 4, by simp [encL_nil]⟩
end Go.Proofs.YtoklfbdcghgmlaaDoor
