/- The contracts of functions of the program, part 0: each computes what its mirror computes. No conditions. -/
import Derived.Test.YtoklfbdcghgmlaaNYH
import Derived.Test.YtoklfbdcghgmlaaNYM
set_option linter.unusedSimpArgs false
set_option linter.unusedVariables false
set_option maxRecDepth 20000
set_option maxHeartbeats 4000000
namespace Go.Proofs.Ytoklfbdcghgmlaa
open Go Go.Abs Go.RowKit

theorem c40 {p0 : (List Int)} {p1 : Int} {r : Int} (H : l_szIntS p0 p1 = some r) : APure Try.prog G 40 [.fsl (encL rI p0), .int .i64 p1] (.int .i64 r) := by
 refine APure_fn (fun N0 => ?_) (by simp)
 refine ACalls_fn tok Try.func40 (by kernel_rfl) rfl Try.ntmps40 Try.results40 rfl ?_
 simp only [argsA, Nat.reduceAdd, hp_next]
 unfold l_szIntS at H
 refine AWP_sr tok [] [0, 1] (fun a σ => a = [(0, .fsl (encL rI p0)), (1, .int .i64 p1)] ∧ σ = hp E0 [] (N0 + 1)) (fun K hK => ?_) ?_
 ·
  skip
  simp -dsimp -implicitDefEqProofs (maxDischargeDepth := 6)
  exact hK _ _ ⟨rfl, rfl⟩
 rintro a σ ⟨rfl, rfl⟩
 refine AWP_sr tok [] [1] (fun a σ => a = [(1, .int .i64 (isub .i64 p1 (ilen p0)))] ∧ σ = hp E0 [] (N0 + 6)) (fun K hK => ?_) ?_
 ·
  skip
  simp -dsimp -implicitDefEqProofs (maxDischargeDepth := 6)
  exact hK _ _ ⟨rfl, rfl⟩
 rintro a σ ⟨rfl, rfl⟩
 refine AWP_sq [1] fun K1 hK1 => ?_
 refine AWP_sr tok [] [1, 10] (fun a σ => a = [(1, .int .i64 (isub .i64 p1 (ilen p0))), (10, .bool (ilt (isub .i64 p1 (ilen p0)) 0))] ∧ σ = hp E0 [] (N0 + 8)) (fun K hK => ?_) ?_
 ·
  skip
  simp -dsimp -implicitDefEqProofs (maxDischargeDepth := 6)
  exact hK _ _ ⟨rfl, rfl⟩
 rintro a σ ⟨rfl, rfl⟩
 refine AWP_cond (ilt (isub .i64 p1 (ilen p0)) 0) rfl (fun C1 => ?_) (fun C1 => ?_)
 ·
  replace H := ifT C1 H
  refine AWP_sr tok [] [4] (fun a σ => a = [(4, .int .i64 (-1))] ∧ σ = hp E0 [] (N0 + 9)) (fun K hK => ?_) ?_
  ·
   skip
   simp -dsimp -implicitDefEqProofs (maxDischargeDepth := 6)
   exact hK _ _ ⟨rfl, rfl⟩
  rintro a σ ⟨rfl, rfl⟩
  replace H := Option.some.inj H; subst H
  refine AWP_kp [4] [(4, .int .i64 (-1))] rfl ?_
  refine AWP_ret ?_
  exact ⟨[.int .i64 (-1)], by simp, 4, by simp [encL_nil]⟩
 ·
  replace H := ifF C1 H
  refine AWP_skip ?_
  show K1 _ _
  refine keepE (l := [1]) (x := [(1, .int .i64 (isub .i64 p1 (ilen p0)))]) rfl fun a' ha => ?_
  refine hK1 _ _ ?_; rw [ha]
  refine Rc.mk ?_
  refine AWP_sr tok [] [4] (fun a σ => a = [(4, .int .i64 (isub .i64 p1 (ilen p0)))] ∧ σ = hp E0 [] (N0 + 10)) (fun K hK => ?_) ?_
  ·
   skip
   simp -dsimp -implicitDefEqProofs (maxDischargeDepth := 6)
   exact hK _ _ ⟨rfl, rfl⟩
  rintro a σ ⟨rfl, rfl⟩
  replace H := Option.some.inj H; subst H
  refine AWP_kp [4] [(4, .int .i64 (isub .i64 p1 (ilen p0)))] rfl ?_
  refine AWP_ret ?_
  exact ⟨[.int .i64 (isub .i64 p1 (ilen p0))], by simp, 4, by simp [encL_nil]⟩
theorem c8 {p0 : gMachine} {p1 : Int} {r : Int} (H : l_szMachine p0 p1 = some r) : APure Try.prog G 8 [.agg [.fsl (encL rI p0.Regs), .int .i64 p0.Pc, .fsl (encL rI p0.Mem)], .int .i64 p1] (.int .i64 r) := by
 refine APure_fn (fun N0 => ?_) (by simp)
 refine ACalls_fn tok Try.func8 (by kernel_rfl) rfl Try.ntmps8 Try.results8 rfl ?_
 simp only [argsA, Nat.reduceAdd, hp_next]
 unfold l_szMachine at H
 refine AWP_sr tok [0] [1, 2] (fun a σ => a = [(1, .int .i64 p1), (2, .fptr [.fsl (encL rI p0.Regs), .int .i64 p0.Pc, .fsl (encL rI p0.Mem)] 0)] ∧ σ = hp E0 [] (N0 + 2)) (fun K hK => ?_) ?_
 ·
  skip
  simp -dsimp -implicitDefEqProofs (maxDischargeDepth := 6)
  exact hK _ _ ⟨rfl, rfl⟩
 rintro a σ ⟨rfl, rfl⟩
 obtain ⟨r1, hr1, H⟩ := bindE H
 refine AWP_sr tok [] [1, 2] (fun a σ => a = [(1, .int .i64 r1), (2, .fptr [.fsl (encL rI p0.Regs), .int .i64 p0.Pc, .fsl (encL rI p0.Mem)] 0)] ∧ σ = hp E0 [] (N0 + 7)) (fun K hK => ?_) ?_
 ·
  skip
  simp -dsimp -implicitDefEqProofs (maxDischargeDepth := 6)
  refine (c40 hr1).app ?_; try simp -dsimp -implicitDefEqProofs (maxDischargeDepth := 6)
  exact hK _ _ ⟨rfl, rfl⟩
 rintro a σ ⟨rfl, rfl⟩
 refine AWP_sq [1, 2] fun K1 hK1 => ?_
 refine AWP_sr tok [] [1, 2, 10] (fun a σ => a = [(1, .int .i64 r1), (2, .fptr [.fsl (encL rI p0.Regs), .int .i64 p0.Pc, .fsl (encL rI p0.Mem)] 0), (10, .bool (ilt r1 0))] ∧ σ = hp E0 [] (N0 + 9)) (fun K hK => ?_) ?_
 ·
  skip
  simp -dsimp -implicitDefEqProofs (maxDischargeDepth := 6)
  exact hK _ _ ⟨rfl, rfl⟩
 rintro a σ ⟨rfl, rfl⟩
 refine AWP_cond (ilt r1 0) rfl (fun C1 => ?_) (fun C1 => ?_)
 ·
  replace H := ifT C1 H
  refine AWP_sr tok [] [4] (fun a σ => a = [(4, .int .i64 (-1))] ∧ σ = hp E0 [] (N0 + 10)) (fun K hK => ?_) ?_
  ·
   skip
   simp -dsimp -implicitDefEqProofs (maxDischargeDepth := 6)
   exact hK _ _ ⟨rfl, rfl⟩
  rintro a σ ⟨rfl, rfl⟩
  replace H := Option.some.inj H; subst H
  refine AWP_kp [4] [(4, .int .i64 (-1))] rfl ?_
  refine AWP_ret ?_
  exact ⟨[.int .i64 (-1)], by simp, 4, by simp [encL_nil]⟩
 ·
  replace H := ifF C1 H
  refine AWP_skip ?_
  show K1 _ _
  refine keepE (l := [1, 2]) (x := [(1, .int .i64 r1), (2, .fptr [.fsl (encL rI p0.Regs), .int .i64 p0.Pc, .fsl (encL rI p0.Mem)] 0)]) rfl fun a' ha => ?_
  refine hK1 _ _ ?_; rw [ha]
  refine Rc.mk ?_
  obtain ⟨r2, hr2, H⟩ := bindE H
  refine AWP_sr tok [] [1] (fun a σ => a = [(1, .int .i64 r2)] ∧ σ = hp E0 [] (N0 + 14)) (fun K hK => ?_) ?_
  ·
   skip
   simp -dsimp -implicitDefEqProofs (maxDischargeDepth := 6)
   refine (c40 hr2).app ?_; try simp -dsimp -implicitDefEqProofs (maxDischargeDepth := 6)
   exact hK _ _ ⟨rfl, rfl⟩
  rintro a σ ⟨rfl, rfl⟩
  refine AWP_sq [1] fun K2 hK2 => ?_
  refine AWP_sr tok [] [1, 16] (fun a σ => a = [(1, .int .i64 r2), (16, .bool (ilt r2 0))] ∧ σ = hp E0 [] (N0 + 16)) (fun K hK => ?_) ?_
  ·
   skip
   simp -dsimp -implicitDefEqProofs (maxDischargeDepth := 6)
   exact hK _ _ ⟨rfl, rfl⟩
  rintro a σ ⟨rfl, rfl⟩
  refine AWP_cond (ilt r2 0) rfl (fun C2 => ?_) (fun C2 => ?_)
  ·
   replace H := ifT C2 H
   refine AWP_sr tok [] [4] (fun a σ => a = [(4, .int .i64 (-1))] ∧ σ = hp E0 [] (N0 + 17)) (fun K hK => ?_) ?_
   ·
    skip
    simp -dsimp -implicitDefEqProofs (maxDischargeDepth := 6)
    exact hK _ _ ⟨rfl, rfl⟩
   rintro a σ ⟨rfl, rfl⟩
   replace H := Option.some.inj H; subst H
   refine AWP_kp [4] [(4, .int .i64 (-1))] rfl ?_
   refine AWP_ret ?_
   exact ⟨[.int .i64 (-1)], by simp, 4, by simp [encL_nil]⟩
  ·
   replace H := ifF C2 H
   refine AWP_skip ?_
   show K2 _ _
   refine keepE (l := [1]) (x := [(1, .int .i64 r2)]) rfl fun a' ha => ?_
   refine hK2 _ _ ?_; rw [ha]
   refine Rc.mk ?_
   refine AWP_sr tok [] [4] (fun a σ => a = [(4, .int .i64 r2)] ∧ σ = hp E0 [] (N0 + 18)) (fun K hK => ?_) ?_
   ·
    skip
    simp -dsimp -implicitDefEqProofs (maxDischargeDepth := 6)
    exact hK _ _ ⟨rfl, rfl⟩
   rintro a σ ⟨rfl, rfl⟩
   replace H := Option.some.inj H; subst H
   refine AWP_kp [4] [(4, .int .i64 r2)] rfl ?_
   refine AWP_ret ?_
   exact ⟨[.int .i64 r2], by simp, 4, by simp [encL_nil]⟩
theorem c41 {p0 : gBox} {p1 : Int} {r : Int} (H : l_szBox p0 p1 = some r) : APure Try.prog G 41 [.agg [.int .i64 p0.Room, .fsl (encL rI p0.Items)], .int .i64 p1] (.int .i64 r) := by
 refine APure_fn (fun N0 => ?_) (by simp)
 refine ACalls_fn tok Try.func41 (by kernel_rfl) rfl Try.ntmps41 Try.results41 rfl ?_
 simp only [argsA, Nat.reduceAdd, hp_next]
 unfold l_szBox at H
 refine AWP_sr tok [0] [1, 2] (fun a σ => a = [(1, .int .i64 p1), (2, .fptr [.int .i64 p0.Room, .fsl (encL rI p0.Items)] 0)] ∧ σ = hp E0 [] (N0 + 2)) (fun K hK => ?_) ?_
 ·
  skip
  simp -dsimp -implicitDefEqProofs (maxDischargeDepth := 6)
  exact hK _ _ ⟨rfl, rfl⟩
 rintro a σ ⟨rfl, rfl⟩
 obtain ⟨r1, hr1, H⟩ := bindE H
 refine AWP_sr tok [] [1] (fun a σ => a = [(1, .int .i64 r1)] ∧ σ = hp E0 [] (N0 + 7)) (fun K hK => ?_) ?_
 ·
  skip
  simp -dsimp -implicitDefEqProofs (maxDischargeDepth := 6)
  refine (c40 hr1).app ?_; try simp -dsimp -implicitDefEqProofs (maxDischargeDepth := 6)
  exact hK _ _ ⟨rfl, rfl⟩
 rintro a σ ⟨rfl, rfl⟩
 refine AWP_sq [1] fun K1 hK1 => ?_
 refine AWP_sr tok [] [1, 10] (fun a σ => a = [(1, .int .i64 r1), (10, .bool (ilt r1 0))] ∧ σ = hp E0 [] (N0 + 9)) (fun K hK => ?_) ?_
 ·
  skip
  simp -dsimp -implicitDefEqProofs (maxDischargeDepth := 6)
  exact hK _ _ ⟨rfl, rfl⟩
 rintro a σ ⟨rfl, rfl⟩
 refine AWP_cond (ilt r1 0) rfl (fun C1 => ?_) (fun C1 => ?_)
 ·
  replace H := ifT C1 H
  refine AWP_sr tok [] [4] (fun a σ => a = [(4, .int .i64 (-1))] ∧ σ = hp E0 [] (N0 + 10)) (fun K hK => ?_) ?_
  ·
   skip
   simp -dsimp -implicitDefEqProofs (maxDischargeDepth := 6)
   exact hK _ _ ⟨rfl, rfl⟩
  rintro a σ ⟨rfl, rfl⟩
  replace H := Option.some.inj H; subst H
  refine AWP_kp [4] [(4, .int .i64 (-1))] rfl ?_
  refine AWP_ret ?_
  exact ⟨[.int .i64 (-1)], by simp, 4, by simp [encL_nil]⟩
 ·
  replace H := ifF C1 H
  refine AWP_skip ?_
  show K1 _ _
  refine keepE (l := [1]) (x := [(1, .int .i64 r1)]) rfl fun a' ha => ?_
  refine hK1 _ _ ?_; rw [ha]
  refine Rc.mk ?_
  refine AWP_sr tok [] [4] (fun a σ => a = [(4, .int .i64 r1)] ∧ σ = hp E0 [] (N0 + 11)) (fun K hK => ?_) ?_
  ·
   skip
   simp -dsimp -implicitDefEqProofs (maxDischargeDepth := 6)
   exact hK _ _ ⟨rfl, rfl⟩
  rintro a σ ⟨rfl, rfl⟩
  replace H := Option.some.inj H; subst H
  refine AWP_kp [4] [(4, .int .i64 r1)] rfl ?_
  refine AWP_ret ?_
  exact ⟨[.int .i64 r1], by simp, 4, by simp [encL_nil]⟩
theorem c9 {p0 : (List gBox)} {p1 : Int} {r : Int} (H : l_szBoxS p0 p1 = some r) : APure Try.prog G 9 [.fsl (encL rBox p0), .int .i64 p1] (.int .i64 r) := by
 refine APure_fn (fun N0 => ?_) (by simp)
 refine ACalls_fn tok Try.func9 (by kernel_rfl) rfl Try.ntmps9 Try.results9 rfl ?_
 simp only [argsA, Nat.reduceAdd, hp_next]
 unfold l_szBoxS at H
 refine AWP_sr tok [] [0, 1] (fun a σ => a = [(0, .fsl (encL rBox p0)), (1, .int .i64 p1)] ∧ σ = hp E0 [] (N0 + 1)) (fun K hK => ?_) ?_
 ·
  skip
  simp -dsimp -implicitDefEqProofs (maxDischargeDepth := 6)
  exact hK _ _ ⟨rfl, rfl⟩
 rintro a σ ⟨rfl, rfl⟩
 refine AWP_sr tok [] [0, 1] (fun a σ => a = [(0, .fsl (encL rBox p0)), (1, .int .i64 (isub .i64 p1 (ilen p0)))] ∧ σ = hp E0 [] (N0 + 6)) (fun K hK => ?_) ?_
 ·
  skip
  simp -dsimp -implicitDefEqProofs (maxDischargeDepth := 6)
  exact hK _ _ ⟨rfl, rfl⟩
 rintro a σ ⟨rfl, rfl⟩
 refine AWP_sq [0, 1] fun K1 hK1 => ?_
 refine AWP_sr tok [] [0, 1, 11] (fun a σ => a = [(0, .fsl (encL rBox p0)), (1, .int .i64 (isub .i64 p1 (ilen p0))), (11, .bool (ilt (isub .i64 p1 (ilen p0)) 0))] ∧ σ = hp E0 [] (N0 + 8)) (fun K hK => ?_) ?_
 ·
  skip
  simp -dsimp -implicitDefEqProofs (maxDischargeDepth := 6)
  exact hK _ _ ⟨rfl, rfl⟩
 rintro a σ ⟨rfl, rfl⟩
 refine AWP_cond (ilt (isub .i64 p1 (ilen p0)) 0) rfl (fun C1 => ?_) (fun C1 => ?_)
 ·
  replace H := ifT C1 H
  refine AWP_sr tok [] [4] (fun a σ => a = [(4, .int .i64 (-1))] ∧ σ = hp E0 [] (N0 + 9)) (fun K hK => ?_) ?_
  ·
   skip
   simp -dsimp -implicitDefEqProofs (maxDischargeDepth := 6)
   exact hK _ _ ⟨rfl, rfl⟩
  rintro a σ ⟨rfl, rfl⟩
  replace H := Option.some.inj H; subst H
  refine AWP_kp [4] [(4, .int .i64 (-1))] rfl ?_
  refine AWP_ret ?_
  exact ⟨[.int .i64 (-1)], by simp, 4, by simp [encL_nil]⟩
 ·
  replace H := ifF C1 H
  refine AWP_skip ?_
  show K1 _ _
  refine keepE (l := [0, 1]) (x := [(0, .fsl (encL rBox p0)), (1, .int .i64 (isub .i64 p1 (ilen p0)))]) rfl fun a' ha => ?_
  refine hK1 _ _ ?_; rw [ha]
  refine Rc.mk ?_
  refine AWP_sq [1] fun K2 hK2 => ?_
  refine AWP_sr tok [] [0, 1, 5] (fun a σ => a = [(0, .fsl (encL rBox p0)), (1, .int .i64 (isub .i64 p1 (ilen p0))), (5, .int .i64 0)] ∧ σ = hp E0 [] (N0 + 9)) (fun K hK => ?_) ?_
  ·
   skip
   simp -dsimp -implicitDefEqProofs (maxDischargeDepth := 6)
   exact hK _ _ ⟨rfl, rfl⟩
  rintro a σ ⟨rfl, rfl⟩
  refine AWP_block (AWP_thenB ?_)
  obtain ⟨e1, hse1, H⟩ := bindE H
  refine AWP_lp [0, 1, 5] (fun s a σ => ∃ M1 : Nat, N0 ≤ M1 ∧ a = [(0, .fsl (encL rBox p0)), (1, .int .i64 s.1), (5, .int .i64 s.2)] ∧ σ = hp E0 [] M1) (fun e x a σ => match e with | .inl s => x = .exit 0 ∧ Rc G 27 N0 (fun a σ => ∃ M2 : Nat, N0 ≤ M2 ∧ a = [(1, .int .i64 s)] ∧ σ = hp E0 [] M2) (AAct.keep a [1]) σ | .inr s => x = .ret ∧ ∃ vs, resA T σ a [.tmp 4] = some vs ∧ ∃ d, thawA (fun _ => true) σ d (tupA vs) = .int .i64 s) hse1 ?_ ?_ ?_
  ·
   refine Rc.kp [0, 1, 5] [(0, .fsl (encL rBox p0)), (1, .int .i64 (isub .i64 p1 (ilen p0))), (5, .int .i64 0)] rfl ?_
   exact Rc.fin (AHeap.Sub.refl _) ⟨N0 + 9, (by omega), rfl, rfl⟩
  ·
   clear H hse1
   rintro ⟨s1, s2⟩ fl a σ H ⟨M1, fM1_0, rfl, rfl⟩ K3 O3 hK3 hO3
   unfold l_szBoxS_L1 at H; dsimp only at H
   refine AWP_sq [0, 1, 5] fun K4 hK4 => ?_
   refine AWP_sr tok [] [0, 1, 5, 15] (fun a σ => a = [(0, .fsl (encL rBox p0)), (1, .int .i64 s1), (5, .int .i64 s2), (15, .bool (ilt s2 (ilen p0)))] ∧ σ = hp E0 [] (M1 + 4)) (fun K hK => ?_) ?_
   ·
    skip
    simp -dsimp -implicitDefEqProofs (maxDischargeDepth := 6)
    exact hK _ _ ⟨rfl, rfl⟩
   rintro a σ ⟨rfl, rfl⟩
   refine AWP_cond (ilt s2 (ilen p0)) rfl (fun C2 => ?_) (fun C2 => ?_)
   ·
    replace H := ifT C2 H
    refine AWP_skip ?_
    show K4 _ _
    refine keepE (l := [0, 1, 5]) (x := [(0, .fsl (encL rBox p0)), (1, .int .i64 s1), (5, .int .i64 s2)]) rfl fun a' ha => ?_
    refine hK4 _ _ ?_; rw [ha]
    refine Rc.mk ?_
    refine AWP_sq [0, 1, 5] fun K5 hK5 => ?_
    refine AWP_block (AWP_thenB ?_)
    obtain ⟨v4, hv4, H⟩ := bindE H
    obtain ⟨r5, hr5, H⟩ := bindE H
    refine AWP_sr tok [] [0, 1, 5] (fun a σ => a = [(0, .fsl (encL rBox p0)), (1, .int .i64 r5), (5, .int .i64 s2)] ∧ σ = hp E0 [] (M1 + 11)) (fun K hK => ?_) ?_
    ·
     skip
     simp -dsimp -implicitDefEqProofs (maxDischargeDepth := 6) [ix25 hv4]
     refine (c41 hr5).app ?_; try simp -dsimp -implicitDefEqProofs (maxDischargeDepth := 6) [ix25 hv4]
     exact hK _ _ ⟨rfl, rfl⟩
    rintro a σ ⟨rfl, rfl⟩
    refine AWP_sr tok [] [0, 1, 5, 25] (fun a σ => a = [(0, .fsl (encL rBox p0)), (1, .int .i64 r5), (5, .int .i64 s2), (25, .bool (ilt r5 0))] ∧ σ = hp E0 [] (M1 + 13)) (fun K hK => ?_) ?_
    ·
     skip
     simp -dsimp -implicitDefEqProofs (maxDischargeDepth := 6)
     exact hK _ _ ⟨rfl, rfl⟩
    rintro a σ ⟨rfl, rfl⟩
    refine AWP_cond (ilt r5 0) rfl (fun C3 => ?_) (fun C3 => ?_)
    ·
     replace H := ifT C3 H
     refine AWP_sr tok [] [4] (fun a σ => a = [(4, .int .i64 (-1))] ∧ σ = hp E0 [] (M1 + 14)) (fun K hK => ?_) ?_
     ·
      skip
      simp -dsimp -implicitDefEqProofs (maxDischargeDepth := 6)
      exact hK _ _ ⟨rfl, rfl⟩
     rintro a σ ⟨rfl, rfl⟩
     replace H := Option.some.inj H; subst H
     refine AWP_kp [4] [(4, .int .i64 (-1))] rfl ?_
     refine AWP_ret (hO3 _ _ _ _ rfl ⟨rfl, ?_⟩)
     exact ⟨[.int .i64 (-1)], by simp, 4, by simp [encL_nil]⟩
    ·
     replace H := ifF C3 H
     refine AWP_skip ?_
     show K5 _ _
     refine keepE (l := [0, 1, 5]) (x := [(0, .fsl (encL rBox p0)), (1, .int .i64 r5), (5, .int .i64 s2)]) rfl fun a' ha => ?_
     refine hK5 _ _ ?_; rw [ha]
     refine Rc.mk ?_
     refine AWP_rt tok [] [0, 1, 5] (fun a σ => a = [(0, .fsl (encL rBox p0)), (1, .int .i64 r5), (5, .int .i64 (iadd .i64 s2 1))] ∧ σ = hp E0 [] (M1 + 16)) (fun K hK => ?_) ?_
     ·
      skip
      simp -dsimp -implicitDefEqProofs (maxDischargeDepth := 6)
      exact hK _ _ ⟨rfl, rfl⟩
     rintro a σ ⟨ha, rfl⟩
     replace H := Option.some.inj H; subst H
     refine hK3 _ _ _ rfl ?_; rw [ha]
     exact Rc.fin (AHeap.Sub.refl _) ⟨M1 + 16, (by omega), rfl, rfl⟩
   ·
    replace H := ifF C2 H
    replace H := Option.some.inj H; subst H
    refine AWP_exit (hO3 _ _ _ _ rfl ⟨rfl, ?_⟩)
    refine Rc.rw (l := [1]) (X := [(1, .int .i64 s1)]) rfl ?_
    exact Rc.fin (AHeap.Sub.refl _) ⟨M1 + 4, (by omega), rfl, rfl⟩
  ·
   intro x a σ hx
   rcases e1 with y3 | r0
   ·
    obtain ⟨rfl, b, τ, hr, M2, fM2_0, rfl, rfl⟩ := hx
    dsimp only at H
    show K2 _ _
    refine hK2 _ _ (Rc_ref hr ?_)
    refine Rc.mk ?_
    refine AWP_sr tok [] [4] (fun a σ => a = [(4, .int .i64 y3)] ∧ σ = hp E0 [] (M2 + 2)) (fun K hK => ?_) ?_
    ·
     skip
     simp -dsimp -implicitDefEqProofs (maxDischargeDepth := 6)
     exact hK _ _ ⟨rfl, rfl⟩
    rintro a σ ⟨rfl, rfl⟩
    replace H := Option.some.inj H; subst H
    refine AWP_kp [4] [(4, .int .i64 y3)] rfl ?_
    refine AWP_ret ?_
    exact ⟨[.int .i64 y3], by simp, 4, by simp [encL_nil]⟩
   ·
    obtain ⟨rfl, hx2⟩ := hx
    dsimp only at H
    replace H := Option.some.inj H; subst H; exact hx2
theorem c48 {p0 : (List Int)} {r : (List Int)} (H : l_toIntS p0 = some r) : APure Try.prog G 48 [.fsl (encL rI p0)] (.fsl (encL rI r)) := by
 refine APure_fn (fun N0 => ?_) (by simp)
 refine ACalls_fn tok Try.func48 (by kernel_rfl) rfl Try.ntmps48 Try.results48 rfl ?_
 simp only [argsA, Nat.reduceAdd, hp_next]
 unfold l_toIntS at H
 refine AWP_sr tok [] [0] (fun a σ => a = [(0, .fsl (encL rI p0))] ∧ σ = hp E0 [] (N0 + 1)) (fun K hK => ?_) ?_
 ·
  skip
  simp -dsimp -implicitDefEqProofs (maxDischargeDepth := 6)
  exact hK _ _ ⟨rfl, rfl⟩
 rintro a σ ⟨rfl, rfl⟩
 obtain ⟨l1, hl1, H⟩ := bindE H
 refine AWP_sr tok [] [0, 3] (fun a σ => a = [(0, .fsl (encL rI p0)), (3, .sl (N0 + 3) 0 l1.length)] ∧ σ = hp E0 [(N0 + 3, some ⟨3, 1, encL rI l1⟩)] (N0 + 5)) (fun K hK => ?_) ?_
 ·
  skip
  simp -dsimp -implicitDefEqProofs (maxDischargeDepth := 6) [mak22 hl1]
  exact hK _ _ ⟨rfl, rfl⟩
 rintro a σ ⟨rfl, rfl⟩
 refine AWP_sq [3] fun K1 hK1 => ?_
 refine AWP_sr tok [] [0, 3, 4] (fun a σ => a = [(0, .fsl (encL rI p0)), (3, .sl (N0 + 3) 0 l1.length), (4, .int .i64 0)] ∧ σ = hp E0 [(N0 + 3, some ⟨3, 1, encL rI l1⟩)] (N0 + 6)) (fun K hK => ?_) ?_
 ·
  skip
  simp -dsimp -implicitDefEqProofs (maxDischargeDepth := 6)
  exact hK _ _ ⟨rfl, rfl⟩
 rintro a σ ⟨rfl, rfl⟩
 refine AWP_block (AWP_thenB ?_)
 obtain ⟨e1, hse1, H⟩ := bindE H
 refine AWP_lp [0, 3, 4] (fun s a σ => ∃ M1 o1 : Nat, N0 ≤ M1 ∧ N0 ≤ o1 ∧ o1 < M1 ∧ a = [(0, .fsl (encL rI p0)), (3, .sl o1 0 s.2.length), (4, .int .i64 s.1)] ∧ σ = hp E0 [(o1, some ⟨3, 1, encL rI s.2⟩)] M1) (fun s x a σ => x = .exit 0 ∧ Rc G 22 N0 (fun a σ => ∃ M2 o2 : Nat, N0 ≤ M2 ∧ N0 ≤ o2 ∧ o2 < M2 ∧ a = [(3, .sl o2 0 s.length)] ∧ σ = hp E0 [(o2, some ⟨3, 1, encL rI s⟩)] M2) (AAct.keep a [3]) σ) hse1 ?_ ?_ ?_
 ·
  refine Rc.kp [0, 3, 4] [(0, .fsl (encL rI p0)), (3, .sl (N0 + 3) 0 l1.length), (4, .int .i64 0)] rfl ?_
  exact Rc.fin (AHeap.Sub.refl _) ⟨N0 + 6, (N0 + 3), (by omega), (by omega), (by omega), rfl, rfl⟩
 ·
  clear H hse1
  rintro ⟨s2, s3⟩ fl a σ H ⟨M1, o1, fM1_0, fM1_1, fM1_2, rfl, rfl⟩ K2 O2 hK2 hO2
  unfold l_toIntS_L1 at H; dsimp only at H
  refine AWP_sq [0, 3, 4] fun K3 hK3 => ?_
  refine AWP_sr tok [] [0, 3, 4, 11] (fun a σ => a = [(0, .fsl (encL rI p0)), (3, .sl o1 0 s3.length), (4, .int .i64 s2), (11, .bool (ilt s2 (ilen p0)))] ∧ σ = hp E0 [(o1, some ⟨3, 1, encL rI s3⟩)] (M1 + 4)) (fun K hK => ?_) ?_
  ·
   skip
   simp -dsimp -implicitDefEqProofs (maxDischargeDepth := 6)
   exact hK _ _ ⟨rfl, rfl⟩
  rintro a σ ⟨rfl, rfl⟩
  refine AWP_cond (ilt s2 (ilen p0)) rfl (fun C1 => ?_) (fun C1 => ?_)
  ·
   replace H := ifT C1 H
   refine AWP_skip ?_
   show K3 _ _
   refine keepE (l := [0, 3, 4]) (x := [(0, .fsl (encL rI p0)), (3, .sl o1 0 s3.length), (4, .int .i64 s2)]) rfl fun a' ha => ?_
   refine hK3 _ _ ?_; rw [ha]
   refine Rc.mk ?_
   refine AWP_sq [0, 3, 4] fun K4 hK4 => ?_
   refine AWP_block (AWP_thenB ?_)
   obtain ⟨v5, hv5, H⟩ := bindE H
   obtain ⟨v6, hv6, H⟩ := bindE H
   obtain ⟨l7, hl7, H⟩ := bindE H
   refine AWP_rt tok [] [0, 3, 4] (fun a σ => a = [(0, .fsl (encL rI p0)), (3, .sl o1 0 s3.length), (4, .int .i64 s2)] ∧ σ = hp E0 [(o1, some ⟨3, 1, encL rI l7⟩)] (M1 + 12)) (fun K hK => ?_) ?_
   ·
    skip
    simp -dsimp -implicitDefEqProofs (maxDischargeDepth := 6) [ix22 hv5, ixo22 hv6, (idx_lt3 hv6).2.2, (setx_iff.1 hl7).2.symm]
    exact hK _ _ ⟨rfl, rfl⟩
   rintro a σ ⟨ha, rfl⟩
   (try rw [← setx_len hl7] at ha); (try rw [← setx_len hl7])
   refine hK4 _ _ ?_; rw [ha]
   refine Rc.mk ?_
   refine AWP_rt tok [] [0, 3, 4] (fun a σ => a = [(0, .fsl (encL rI p0)), (3, .sl o1 0 l7.length), (4, .int .i64 (iadd .i64 s2 1))] ∧ σ = hp E0 [(o1, some ⟨3, 1, encL rI l7⟩)] (M1 + 15)) (fun K hK => ?_) ?_
   ·
    skip
    simp -dsimp -implicitDefEqProofs (maxDischargeDepth := 6)
    exact hK _ _ ⟨rfl, rfl⟩
   rintro a σ ⟨ha, rfl⟩
   replace H := Option.some.inj H; subst H
   refine hK2 _ _ _ rfl ?_; rw [ha]
   exact Rc.fin (AHeap.Sub.refl _) ⟨M1 + 15, o1, (by omega), (by omega), (by omega), rfl, rfl⟩
  ·
   replace H := ifF C1 H
   replace H := Option.some.inj H; subst H
   refine AWP_exit (hO2 _ _ _ _ rfl ⟨rfl, ?_⟩)
   refine Rc.rw (l := [3]) (X := [(3, .sl o1 0 s3.length)]) rfl ?_
   exact Rc.fin (AHeap.Sub.refl _) ⟨M1 + 4, o1, (by omega), (by omega), (by omega), rfl, rfl⟩
 ·
  intro x a σ hx
  obtain ⟨y4, rfl⟩ : ∃ x, x = e1 := ⟨_, rfl⟩
  obtain ⟨rfl, b, τ, hr, M2, o2, fM2_0, fM2_1, fM2_2, rfl, rfl⟩ := hx
  dsimp only at H
  show K1 _ _
  refine hK1 _ _ (Rc_ref hr ?_)
  refine Rc.mk ?_
  refine AWP_sr tok [] [2] (fun a σ => a = [(2, .sl o2 0 y4.length)] ∧ σ = hp E0 [(o2, some ⟨3, 1, encL rI y4⟩)] (M2 + 2)) (fun K hK => ?_) ?_
  ·
   skip
   simp -dsimp -implicitDefEqProofs (maxDischargeDepth := 6)
   exact hK _ _ ⟨rfl, rfl⟩
  rintro a σ ⟨rfl, rfl⟩
  replace H := Option.some.inj H; subst H
  refine AWP_kp [2] [(2, .sl o2 0 y4.length)] rfl ?_
  refine AWP_ret ?_
  exact ⟨[.sl o2 0 y4.length], by simp, 4, by simp [encL_nil]⟩
theorem c11 {p0 : gMachine} {r : gMachine} (H : l_toMachine p0 = some r) : APure Try.prog G 11 [.agg [.fsl (encL rI p0.Regs), .int .i64 p0.Pc, .fsl (encL rI p0.Mem)]] (.agg [.fsl (encL rI r.Regs), .int .i64 r.Pc, .fsl (encL rI r.Mem)]) := by
 refine APure_fn (fun N0 => ?_) (by simp)
 refine ACalls_fn tok Try.func11 (by kernel_rfl) rfl Try.ntmps11 Try.results11 rfl ?_
 simp only [argsA, Nat.reduceAdd, hp_next]
 unfold l_toMachine at H
 refine AWP_sr tok [0] [1, 2] (fun a σ => a = [(1, .fptr [.fsl (encL rI p0.Regs), .int .i64 p0.Pc, .fsl (encL rI p0.Mem)] 0), (2, .ptr (N0 + 1) 0 0)] ∧ σ = hp E0 [(N0 + 1, some ⟨28, 3, [[.nilsl, .int .i64 0, .nilsl]]⟩)] (N0 + 2)) (fun K hK => ?_) ?_
 ·
  skip
  simp -dsimp -implicitDefEqProofs (maxDischargeDepth := 6)
  exact hK _ _ ⟨rfl, rfl⟩
 rintro a σ ⟨rfl, rfl⟩
 refine AWP_sr tok [] [1, 2, 3] (fun a σ => a = [(1, .fptr [.fsl (encL rI p0.Regs), .int .i64 p0.Pc, .fsl (encL rI p0.Mem)] 0), (2, .ptr (N0 + 1) 0 0), (3, .ptr (N0 + 2) 0 0)] ∧ σ = hp E0 [(N0 + 1, some ⟨28, 3, [[.nilsl, .int .i64 0, .nilsl]]⟩), (N0 + 2, some ⟨28, 3, [[.nilsl, .int .i64 0, .nilsl]]⟩)] (N0 + 3)) (fun K hK => ?_) ?_
 ·
  skip
  simp -dsimp -implicitDefEqProofs (maxDischargeDepth := 6)
  exact hK _ _ ⟨rfl, rfl⟩
 rintro a σ ⟨rfl, rfl⟩
 refine gWkC AWP_ref (o := (N0 + 1)) (ob := ⟨28, 3, [[.nilsl, .int .i64 0, .nilsl]]⟩) (row := [.nilsl, .int .i64 0, .nilsl]) (r := 0) (i := 0) [(N0 + 1, some ⟨28, 3, [[.fsl [], .int .i64 0, .nilsl]]⟩), (N0 + 2, some ⟨28, 3, [[.nilsl, .int .i64 0, .nilsl]]⟩)] (by simp (disch := omega)) rfl rfl (by simp (disch := omega)) (by simp (disch := omega) [encL_nil, List.set_set, app_set]) ?_
 refine gWkC AWP_ref (o := (N0 + 1)) (ob := ⟨28, 3, [[.fsl [], .int .i64 0, .nilsl]]⟩) (row := [.fsl [], .int .i64 0, .nilsl]) (r := 0) (i := 2) [(N0 + 1, some ⟨28, 3, [[.fsl [], .int .i64 0, .fsl []]]⟩), (N0 + 2, some ⟨28, 3, [[.nilsl, .int .i64 0, .nilsl]]⟩)] (by simp (disch := omega)) rfl rfl (by simp (disch := omega)) (by simp (disch := omega) [encL_nil, List.set_set, app_set]) ?_
 refine gWkC AWP_ref (o := (N0 + 2)) (ob := ⟨28, 3, [[.nilsl, .int .i64 0, .nilsl]]⟩) (row := [.nilsl, .int .i64 0, .nilsl]) (r := 0) (i := 0) [(N0 + 1, some ⟨28, 3, [[.fsl [], .int .i64 0, .fsl []]]⟩), (N0 + 2, some ⟨28, 3, [[.fsl [], .int .i64 0, .nilsl]]⟩)] (by simp (disch := omega)) rfl rfl (by simp (disch := omega)) (by simp (disch := omega) [encL_nil, List.set_set, app_set]) ?_
 refine gWkC AWP_ref (o := (N0 + 2)) (ob := ⟨28, 3, [[.fsl [], .int .i64 0, .nilsl]]⟩) (row := [.fsl [], .int .i64 0, .nilsl]) (r := 0) (i := 2) [(N0 + 1, some ⟨28, 3, [[.fsl [], .int .i64 0, .fsl []]]⟩), (N0 + 2, some ⟨28, 3, [[.fsl [], .int .i64 0, .fsl []]]⟩)] (by simp (disch := omega)) rfl rfl (by simp (disch := omega)) (by simp (disch := omega) [encL_nil, List.set_set, app_set]) ?_
 obtain ⟨r1, hr1, H⟩ := bindE H
 refine AWP_sr tok [] [1, 2, 3] (fun a σ => a = [(1, .fptr [.fsl (encL rI p0.Regs), .int .i64 p0.Pc, .fsl (encL rI p0.Mem)] 0), (2, .ptr (N0 + 1) 0 0), (3, .ptr (N0 + 2) 0 0)] ∧ σ = hp E0 [(N0 + 1, some ⟨28, 3, [[.fsl [], .int .i64 0, .fsl []]]⟩), (N0 + 2, some ⟨28, 3, [[.fsl (encL rI r1), .int .i64 0, .fsl []]]⟩)] (N0 + 8)) (fun K hK => ?_) ?_
 ·
  skip
  simp -dsimp -implicitDefEqProofs (maxDischargeDepth := 6)
  refine (c48 hr1).app ?_; try simp -dsimp -implicitDefEqProofs (maxDischargeDepth := 6)
  exact hK _ _ ⟨rfl, rfl⟩
 rintro a σ ⟨rfl, rfl⟩
 refine AWP_sr tok [] [1, 2, 3] (fun a σ => a = [(1, .fptr [.fsl (encL rI p0.Regs), .int .i64 p0.Pc, .fsl (encL rI p0.Mem)] 0), (2, .ptr (N0 + 1) 0 0), (3, .ptr (N0 + 2) 0 0)] ∧ σ = hp E0 [(N0 + 1, some ⟨28, 3, [[.fsl [], .int .i64 0, .fsl []]]⟩), (N0 + 2, some ⟨28, 3, [[.fsl (encL rI r1), .int .i64 p0.Pc, .fsl []]]⟩)] (N0 + 12)) (fun K hK => ?_) ?_
 ·
  skip
  simp -dsimp -implicitDefEqProofs (maxDischargeDepth := 6)
  exact hK _ _ ⟨rfl, rfl⟩
 rintro a σ ⟨rfl, rfl⟩
 obtain ⟨r2, hr2, H⟩ := bindE H
 refine AWP_sr tok [] [2, 3] (fun a σ => a = [(2, .ptr (N0 + 1) 0 0), (3, .ptr (N0 + 2) 0 0)] ∧ σ = hp E0 [(N0 + 1, some ⟨28, 3, [[.fsl [], .int .i64 0, .fsl []]]⟩), (N0 + 2, some ⟨28, 3, [[.fsl (encL rI r1), .int .i64 p0.Pc, .fsl (encL rI r2)]]⟩)] (N0 + 17)) (fun K hK => ?_) ?_
 ·
  skip
  simp -dsimp -implicitDefEqProofs (maxDischargeDepth := 6)
  refine (c48 hr2).app ?_; try simp -dsimp -implicitDefEqProofs (maxDischargeDepth := 6)
  exact hK _ _ ⟨rfl, rfl⟩
 rintro a σ ⟨rfl, rfl⟩
 refine AWP_sr tok [] [2] (fun a σ => a = [(2, .ptr (N0 + 1) 0 0)] ∧ σ = hp E0 [(N0 + 1, some ⟨28, 3, [[.fsl (encL rI r1), .int .i64 p0.Pc, .fsl (encL rI r2)]]⟩), (N0 + 2, some ⟨28, 3, [[.fsl (encL rI r1), .int .i64 p0.Pc, .fsl (encL rI r2)]]⟩)] (N0 + 19)) (fun K hK => ?_) ?_
 ·
  skip
  simp -dsimp -implicitDefEqProofs (maxDischargeDepth := 6)
  exact hK _ _ ⟨rfl, rfl⟩
 rintro a σ ⟨rfl, rfl⟩
 replace H := Option.some.inj H; subst H
 refine AWP_kp [2] [(2, .ptr (N0 + 1) 0 0)] rfl ?_
 refine AWP_ret ?_
 exact ⟨[.agg [.fsl (encL rI r1), .int .i64 p0.Pc, .fsl (encL rI r2)]], by simp, 4, by simp [encL_nil]⟩
theorem c49 {p0 : gBox} {r : gBox} (H : l_toBox p0 = some r) : APure Try.prog G 49 [.agg [.int .i64 p0.Room, .fsl (encL rI p0.Items)]] (.agg [.int .i64 r.Room, .fsl (encL rI r.Items)]) := by
 refine APure_fn (fun N0 => ?_) (by simp)
 refine ACalls_fn tok Try.func49 (by kernel_rfl) rfl Try.ntmps49 Try.results49 rfl ?_
 simp only [argsA, Nat.reduceAdd, hp_next]
 unfold l_toBox at H
 refine AWP_sr tok [0] [1, 2] (fun a σ => a = [(1, .fptr [.int .i64 p0.Room, .fsl (encL rI p0.Items)] 0), (2, .ptr (N0 + 1) 0 0)] ∧ σ = hp E0 [(N0 + 1, some ⟨64, 2, [[.int .i64 0, .nilsl]]⟩)] (N0 + 2)) (fun K hK => ?_) ?_
 ·
  skip
  simp -dsimp -implicitDefEqProofs (maxDischargeDepth := 6)
  exact hK _ _ ⟨rfl, rfl⟩
 rintro a σ ⟨rfl, rfl⟩
 refine AWP_sr tok [] [1, 2, 3] (fun a σ => a = [(1, .fptr [.int .i64 p0.Room, .fsl (encL rI p0.Items)] 0), (2, .ptr (N0 + 1) 0 0), (3, .ptr (N0 + 2) 0 0)] ∧ σ = hp E0 [(N0 + 1, some ⟨64, 2, [[.int .i64 0, .nilsl]]⟩), (N0 + 2, some ⟨64, 2, [[.int .i64 0, .nilsl]]⟩)] (N0 + 3)) (fun K hK => ?_) ?_
 ·
  skip
  simp -dsimp -implicitDefEqProofs (maxDischargeDepth := 6)
  exact hK _ _ ⟨rfl, rfl⟩
 rintro a σ ⟨rfl, rfl⟩
 refine AWP_sr tok [] [1, 2, 3] (fun a σ => a = [(1, .fptr [.int .i64 p0.Room, .fsl (encL rI p0.Items)] 0), (2, .ptr (N0 + 1) 0 0), (3, .ptr (N0 + 2) 0 0)] ∧ σ = hp E0 [(N0 + 1, some ⟨64, 2, [[.int .i64 0, .nilsl]]⟩), (N0 + 2, some ⟨64, 2, [[.int .i64 p0.Room, .nilsl]]⟩)] (N0 + 7)) (fun K hK => ?_) ?_
 ·
  skip
  simp -dsimp -implicitDefEqProofs (maxDischargeDepth := 6)
  exact hK _ _ ⟨rfl, rfl⟩
 rintro a σ ⟨rfl, rfl⟩
 refine gWkC AWP_ref (o := (N0 + 1)) (ob := ⟨64, 2, [[.int .i64 0, .nilsl]]⟩) (row := [.int .i64 0, .nilsl]) (r := 0) (i := 1) [(N0 + 1, some ⟨64, 2, [[.int .i64 0, .fsl []]]⟩), (N0 + 2, some ⟨64, 2, [[.int .i64 p0.Room, .nilsl]]⟩)] (by simp (disch := omega)) rfl rfl (by simp (disch := omega)) (by simp (disch := omega) [encL_nil, List.set_set, app_set]) ?_
 refine gWkC AWP_ref (o := (N0 + 2)) (ob := ⟨64, 2, [[.int .i64 p0.Room, .nilsl]]⟩) (row := [.int .i64 p0.Room, .nilsl]) (r := 0) (i := 1) [(N0 + 1, some ⟨64, 2, [[.int .i64 0, .fsl []]]⟩), (N0 + 2, some ⟨64, 2, [[.int .i64 p0.Room, .fsl []]]⟩)] (by simp (disch := omega)) rfl rfl (by simp (disch := omega)) (by simp (disch := omega) [encL_nil, List.set_set, app_set]) ?_
 obtain ⟨r1, hr1, H⟩ := bindE H
 refine AWP_sr tok [] [2, 3] (fun a σ => a = [(2, .ptr (N0 + 1) 0 0), (3, .ptr (N0 + 2) 0 0)] ∧ σ = hp E0 [(N0 + 1, some ⟨64, 2, [[.int .i64 0, .fsl []]]⟩), (N0 + 2, some ⟨64, 2, [[.int .i64 p0.Room, .fsl (encL rI r1)]]⟩)] (N0 + 12)) (fun K hK => ?_) ?_
 ·
  skip
  simp -dsimp -implicitDefEqProofs (maxDischargeDepth := 6)
  refine (c48 hr1).app ?_; try simp -dsimp -implicitDefEqProofs (maxDischargeDepth := 6)
  exact hK _ _ ⟨rfl, rfl⟩
 rintro a σ ⟨rfl, rfl⟩
 refine AWP_sr tok [] [2] (fun a σ => a = [(2, .ptr (N0 + 1) 0 0)] ∧ σ = hp E0 [(N0 + 1, some ⟨64, 2, [[.int .i64 p0.Room, .fsl (encL rI r1)]]⟩), (N0 + 2, some ⟨64, 2, [[.int .i64 p0.Room, .fsl (encL rI r1)]]⟩)] (N0 + 14)) (fun K hK => ?_) ?_
 ·
  skip
  simp -dsimp -implicitDefEqProofs (maxDischargeDepth := 6)
  exact hK _ _ ⟨rfl, rfl⟩
 rintro a σ ⟨rfl, rfl⟩
 replace H := Option.some.inj H; subst H
 refine AWP_kp [2] [(2, .ptr (N0 + 1) 0 0)] rfl ?_
 refine AWP_ret ?_
 exact ⟨[.agg [.int .i64 p0.Room, .fsl (encL rI r1)]], by simp, 4, by simp [encL_nil]⟩
theorem c12 {p0 : (List gBox)} {r : (List gBox)} (H : l_toBoxS p0 = some r) : APure Try.prog G 12 [.fsl (encL rBox p0)] (.fsl (encL rBox r)) := by
 refine APure_fn (fun N0 => ?_) (by simp)
 refine ACalls_fn tok Try.func12 (by kernel_rfl) rfl Try.ntmps12 Try.results12 rfl ?_
 simp only [argsA, Nat.reduceAdd, hp_next]
 unfold l_toBoxS at H
 refine AWP_sr tok [] [0] (fun a σ => a = [(0, .fsl (encL rBox p0))] ∧ σ = hp E0 [] (N0 + 1)) (fun K hK => ?_) ?_
 ·
  skip
  simp -dsimp -implicitDefEqProofs (maxDischargeDepth := 6)
  exact hK _ _ ⟨rfl, rfl⟩
 rintro a σ ⟨rfl, rfl⟩
 obtain ⟨l1, hl1, H⟩ := bindE H
 refine AWP_sr tok [] [0, 3] (fun a σ => a = [(0, .fsl (encL rBox p0)), (3, .sl (N0 + 3) 0 l1.length)] ∧ σ = hp E0 [(N0 + 3, some ⟨64, 2, List.replicate (Int.toNat (ilen p0)) [.int .i64 0, .nilsl]⟩)] (N0 + 5)) (fun K hK => ?_) ?_
 ·
  skip
  simp -dsimp -implicitDefEqProofs (maxDischargeDepth := 6) [makr29 hl1]
  exact hK _ _ ⟨rfl, rfl⟩
 rintro a σ ⟨rfl, rfl⟩
 refine AWP_sq [3] fun K1 hK1 => ?_
 refine gRep AWP_ref (o := (N0 + 3)) (ty := 64) (sz := 2) (m := Int.toNat (ilen p0)) (c := [.int .i64 0, .nilsl]) (c' := [.int .i64 0, .fsl []]) (.same (.frz .nil)) [(N0 + 3, some ⟨64, 2, encL rBox l1⟩)] (by simp (disch := omega)) (by rw [mak_rep (f := rBox) (c := [.int .i64 0, .fsl []]) hl1 rfl]; simp) ?_
 refine AWP_sr tok [] [0, 3, 4] (fun a σ => a = [(0, .fsl (encL rBox p0)), (3, .sl (N0 + 3) 0 l1.length), (4, .int .i64 0)] ∧ σ = hp E0 [(N0 + 3, some ⟨64, 2, encL rBox l1⟩)] (N0 + 6)) (fun K hK => ?_) ?_
 ·
  skip
  simp -dsimp -implicitDefEqProofs (maxDischargeDepth := 6)
  exact hK _ _ ⟨rfl, rfl⟩
 rintro a σ ⟨rfl, rfl⟩
 refine AWP_block (AWP_thenB ?_)
 obtain ⟨e1, hse1, H⟩ := bindE H
 refine AWP_lp [0, 3, 4] (fun s a σ => ∃ M1 o1 : Nat, N0 ≤ M1 ∧ N0 ≤ o1 ∧ o1 < M1 ∧ a = [(0, .fsl (encL rBox p0)), (3, .sl o1 0 s.2.length), (4, .int .i64 s.1)] ∧ σ = hp E0 [(o1, some ⟨64, 2, encL rBox s.2⟩)] M1) (fun s x a σ => x = .exit 0 ∧ Rc G 23 N0 (fun a σ => ∃ M2 o2 : Nat, N0 ≤ M2 ∧ N0 ≤ o2 ∧ o2 < M2 ∧ a = [(3, .sl o2 0 s.length)] ∧ σ = hp E0 [(o2, some ⟨64, 2, encL rBox s⟩)] M2) (AAct.keep a [3]) σ) hse1 ?_ ?_ ?_
 ·
  refine Rc.kp [0, 3, 4] [(0, .fsl (encL rBox p0)), (3, .sl (N0 + 3) 0 l1.length), (4, .int .i64 0)] rfl ?_
  exact Rc.fin (AHeap.Sub.refl _) ⟨N0 + 6, (N0 + 3), (by omega), (by omega), (by omega), rfl, rfl⟩
 ·
  clear H hse1
  rintro ⟨s2, s3⟩ fl a σ H ⟨M1, o1, fM1_0, fM1_1, fM1_2, rfl, rfl⟩ K2 O2 hK2 hO2
  unfold l_toBoxS_L1 at H; dsimp only at H
  refine AWP_sq [0, 3, 4] fun K3 hK3 => ?_
  refine AWP_sr tok [] [0, 3, 4, 11] (fun a σ => a = [(0, .fsl (encL rBox p0)), (3, .sl o1 0 s3.length), (4, .int .i64 s2), (11, .bool (ilt s2 (ilen p0)))] ∧ σ = hp E0 [(o1, some ⟨64, 2, encL rBox s3⟩)] (M1 + 4)) (fun K hK => ?_) ?_
  ·
   skip
   simp -dsimp -implicitDefEqProofs (maxDischargeDepth := 6)
   exact hK _ _ ⟨rfl, rfl⟩
  rintro a σ ⟨rfl, rfl⟩
  refine AWP_cond (ilt s2 (ilen p0)) rfl (fun C1 => ?_) (fun C1 => ?_)
  ·
   replace H := ifT C1 H
   refine AWP_skip ?_
   show K3 _ _
   refine keepE (l := [0, 3, 4]) (x := [(0, .fsl (encL rBox p0)), (3, .sl o1 0 s3.length), (4, .int .i64 s2)]) rfl fun a' ha => ?_
   refine hK3 _ _ ?_; rw [ha]
   refine Rc.mk ?_
   refine AWP_sq [0, 3, 4] fun K4 hK4 => ?_
   refine AWP_block (AWP_thenB ?_)
   obtain ⟨v5, hv5, H⟩ := bindE H
   obtain ⟨r6, hr6, H⟩ := bindE H
   obtain ⟨v7, hv7, H⟩ := bindE H
   obtain ⟨l8, hl8, H⟩ := bindE H
   refine AWP_rt tok [] [0, 3, 4] (fun a σ => a = [(0, .fsl (encL rBox p0)), (3, .sl o1 0 s3.length), (4, .int .i64 s2)] ∧ σ = hp E0 [(o1, some ⟨64, 2, encL rBox l8⟩)] (M1 + 13)) (fun K hK => ?_) ?_
   ·
    skip
    simp -dsimp -implicitDefEqProofs (maxDischargeDepth := 6) [ix25 hv5, ixo29 hv7, (idx_lt3 hv7).2.2, (setx_iff.1 hl8).2.symm]
    refine (c49 hr6).app ?_; try simp -dsimp -implicitDefEqProofs (maxDischargeDepth := 6) [ix25 hv5, ixo29 hv7, (idx_lt3 hv7).2.2, (setx_iff.1 hl8).2.symm]
    exact hK _ _ ⟨rfl, rfl⟩
   rintro a σ ⟨ha, rfl⟩
   (try rw [← setx_len hl8] at ha); (try rw [← setx_len hl8])
   refine hK4 _ _ ?_; rw [ha]
   refine Rc.mk ?_
   refine AWP_rt tok [] [0, 3, 4] (fun a σ => a = [(0, .fsl (encL rBox p0)), (3, .sl o1 0 l8.length), (4, .int .i64 (iadd .i64 s2 1))] ∧ σ = hp E0 [(o1, some ⟨64, 2, encL rBox l8⟩)] (M1 + 16)) (fun K hK => ?_) ?_
   ·
    skip
    simp -dsimp -implicitDefEqProofs (maxDischargeDepth := 6)
    exact hK _ _ ⟨rfl, rfl⟩
   rintro a σ ⟨ha, rfl⟩
   replace H := Option.some.inj H; subst H
   refine hK2 _ _ _ rfl ?_; rw [ha]
   exact Rc.fin (AHeap.Sub.refl _) ⟨M1 + 16, o1, (by omega), (by omega), (by omega), rfl, rfl⟩
  ·
   replace H := ifF C1 H
   replace H := Option.some.inj H; subst H
   refine AWP_exit (hO2 _ _ _ _ rfl ⟨rfl, ?_⟩)
   refine Rc.rw (l := [3]) (X := [(3, .sl o1 0 s3.length)]) rfl ?_
   exact Rc.fin (AHeap.Sub.refl _) ⟨M1 + 4, o1, (by omega), (by omega), (by omega), rfl, rfl⟩
 ·
  intro x a σ hx
  obtain ⟨y4, rfl⟩ : ∃ x, x = e1 := ⟨_, rfl⟩
  obtain ⟨rfl, b, τ, hr, M2, o2, fM2_0, fM2_1, fM2_2, rfl, rfl⟩ := hx
  dsimp only at H
  show K1 _ _
  refine hK1 _ _ (Rc_ref hr ?_)
  refine Rc.mk ?_
  refine AWP_sr tok [] [2] (fun a σ => a = [(2, .sl o2 0 y4.length)] ∧ σ = hp E0 [(o2, some ⟨64, 2, encL rBox y4⟩)] (M2 + 2)) (fun K hK => ?_) ?_
  ·
   skip
   simp -dsimp -implicitDefEqProofs (maxDischargeDepth := 6)
   exact hK _ _ ⟨rfl, rfl⟩
  rintro a σ ⟨rfl, rfl⟩
  replace H := Option.some.inj H; subst H
  refine AWP_kp [2] [(2, .sl o2 0 y4.length)] rfl ?_
  refine AWP_ret ?_
  exact ⟨[.sl o2 0 y4.length], by simp, 4, by simp [encL_nil]⟩
theorem c83 {p0 : Int} {p1 : Int} {p2 : Int} {r : Bool} (H : s_l6In p0 p1 p2 = some r) : APure Try.prog G 83 [.int .i64 p0, .int .i64 p1, .int .i64 p2] (.bool r) := by
 refine APure_fn (fun N0 => ?_) (by simp)
 refine ACalls_fn tok Try.func83 (by kernel_rfl) rfl Try.ntmps83 Try.results83 rfl ?_
 simp only [argsA, Nat.reduceAdd, hp_next]
 unfold s_l6In at H
 refine AWP_sr tok [] [0, 1, 2] (fun a σ => a = [(0, .int .i64 p0), (1, .int .i64 p1), (2, .int .i64 p2)] ∧ σ = hp E0 [] (N0 + 1)) (fun K hK => ?_) ?_
 ·
  skip
  simp -dsimp -implicitDefEqProofs (maxDischargeDepth := 6)
  exact hK _ _ ⟨rfl, rfl⟩
 rintro a σ ⟨rfl, rfl⟩
 obtain ⟨g1, hg1, H⟩ := bindE H
 refine AWP_sr tok [] [6] (fun a σ => a = [(6, .bool g1)] ∧ σ = hp E0 [] (N0 + 10)) (fun K hK => ?_) ?_
 ·
  skip
  simp -dsimp -implicitDefEqProofs (maxDischargeDepth := 6)
  cases hbg1 : ige p0 p1
  ·
   replace hg1 := ifF hbg1 hg1
   replace hg1 := Option.some.inj hg1; subst hg1
   try simp -dsimp -implicitDefEqProofs (maxDischargeDepth := 6) [hbg1]
   exact hK _ _ ⟨rfl, rfl⟩
  ·
   replace hg1 := ifT hbg1 hg1
   replace hg1 := Option.some.inj hg1; subst hg1
   try simp -dsimp -implicitDefEqProofs (maxDischargeDepth := 6) [hbg1]
   exact hK _ _ ⟨rfl, rfl⟩
 rintro a σ ⟨rfl, rfl⟩
 replace H := Option.some.inj H; subst H
 refine AWP_kp [6] [(6, .bool g1)] rfl ?_
 refine AWP_ret ?_
 exact ⟨[.bool g1], by simp, 4, by simp [encL_nil]⟩
theorem c81 {p0 : Int} {r : Bool} (H : s_WordValid p0 = some r) : APure Try.prog G 81 [.int .i64 p0] (.bool r) := by
 refine APure_fn (fun N0 => ?_) (by simp)
 refine ACalls_fn tok Try.func81 (by kernel_rfl) rfl Try.ntmps81 Try.results81 rfl ?_
 simp only [argsA, Nat.reduceAdd, hp_next]
 unfold s_WordValid at H
 refine AWP_sr tok [] [0] (fun a σ => a = [(0, .int .i64 p0)] ∧ σ = hp E0 [] (N0 + 1)) (fun K hK => ?_) ?_
 ·
  skip
  simp -dsimp -implicitDefEqProofs (maxDischargeDepth := 6)
  exact hK _ _ ⟨rfl, rfl⟩
 rintro a σ ⟨rfl, rfl⟩
 obtain ⟨r1, hr1, H⟩ := bindE H
 refine AWP_sr tok [] [2] (fun a σ => a = [(2, .bool r1)] ∧ σ = hp E0 [] (N0 + 4)) (fun K hK => ?_) ?_
 ·
  skip
  simp -dsimp -implicitDefEqProofs (maxDischargeDepth := 6)
  refine (c83 hr1).app ?_; try simp -dsimp -implicitDefEqProofs (maxDischargeDepth := 6)
  exact hK _ _ ⟨rfl, rfl⟩
 rintro a σ ⟨rfl, rfl⟩
 replace H := Option.some.inj H; subst H
 refine AWP_kp [2] [(2, .bool r1)] rfl ?_
 refine AWP_ret ?_
 exact ⟨[.bool r1], by simp, 4, by simp [encL_nil]⟩
theorem c80 {p0 : (List Int)} {p1 : Int} {r : Bool} (H : s_l4Words p0 p1 = some r) : APure Try.prog G 80 [.fsl (encL rI p0), .int .i64 p1] (.bool r) := by
 refine APure_fn (fun N0 => ?_) (by simp)
 refine ACalls_fn tok Try.func80 (by kernel_rfl) rfl Try.ntmps80 Try.results80 rfl ?_
 simp only [argsA, Nat.reduceAdd, hp_next]
 unfold s_l4Words at H
 refine AWP_sr tok [] [0, 1] (fun a σ => a = [(0, .fsl (encL rI p0)), (1, .int .i64 p1)] ∧ σ = hp E0 [] (N0 + 1)) (fun K hK => ?_) ?_
 ·
  skip
  simp -dsimp -implicitDefEqProofs (maxDischargeDepth := 6)
  exact hK _ _ ⟨rfl, rfl⟩
 rintro a σ ⟨rfl, rfl⟩
 refine AWP_sq [0] fun K1 hK1 => ?_
 refine AWP_sr tok [] [0, 9] (fun a σ => a = [(0, .fsl (encL rI p0)), (9, .bool (ine (ilen p0) p1))] ∧ σ = hp E0 [] (N0 + 5)) (fun K hK => ?_) ?_
 ·
  skip
  simp -dsimp -implicitDefEqProofs (maxDischargeDepth := 6)
  exact hK _ _ ⟨rfl, rfl⟩
 rintro a σ ⟨rfl, rfl⟩
 refine AWP_cond (ine (ilen p0) p1) rfl (fun C1 => ?_) (fun C1 => ?_)
 ·
  replace H := ifT C1 H
  refine AWP_sr tok [] [4] (fun a σ => a = [(4, .bool false)] ∧ σ = hp E0 [] (N0 + 6)) (fun K hK => ?_) ?_
  ·
   skip
   simp -dsimp -implicitDefEqProofs (maxDischargeDepth := 6)
   exact hK _ _ ⟨rfl, rfl⟩
  rintro a σ ⟨rfl, rfl⟩
  replace H := Option.some.inj H; subst H
  refine AWP_kp [4] [(4, .bool false)] rfl ?_
  refine AWP_ret ?_
  exact ⟨[.bool false], by simp, 4, by simp [encL_nil]⟩
 ·
  replace H := ifF C1 H
  refine AWP_skip ?_
  show K1 _ _
  refine keepE (l := [0]) (x := [(0, .fsl (encL rI p0))]) rfl fun a' ha => ?_
  refine hK1 _ _ ?_; rw [ha]
  refine Rc.mk ?_
  refine AWP_sq [] fun K2 hK2 => ?_
  refine AWP_sr tok [] [0, 5] (fun a σ => a = [(0, .fsl (encL rI p0)), (5, .int .i64 0)] ∧ σ = hp E0 [] (N0 + 6)) (fun K hK => ?_) ?_
  ·
   skip
   simp -dsimp -implicitDefEqProofs (maxDischargeDepth := 6)
   exact hK _ _ ⟨rfl, rfl⟩
  rintro a σ ⟨rfl, rfl⟩
  refine AWP_block (AWP_thenB ?_)
  obtain ⟨e1, hse1, H⟩ := bindE H
  refine AWP_lp [0, 5] (fun s a σ => ∃ M1 : Nat, N0 ≤ M1 ∧ a = [(0, .fsl (encL rI p0)), (5, .int .i64 s)] ∧ σ = hp E0 [] M1) (fun e x a σ => match e with | .inl s => x = .exit 0 ∧ Rc G 22 N0 (fun a σ => ∃ M2 : Nat, N0 ≤ M2 ∧ a = [] ∧ σ = hp E0 [] M2) (AAct.keep a []) σ | .inr s => x = .ret ∧ ∃ vs, resA T σ a [.tmp 4] = some vs ∧ ∃ d, thawA (fun _ => true) σ d (tupA vs) = .bool s) hse1 ?_ ?_ ?_
  ·
   refine Rc.kp [0, 5] [(0, .fsl (encL rI p0)), (5, .int .i64 0)] rfl ?_
   exact Rc.fin (AHeap.Sub.refl _) ⟨N0 + 6, (by omega), rfl, rfl⟩
  ·
   clear H hse1
   rintro s1 fl a σ H ⟨M1, fM1_0, rfl, rfl⟩ K3 O3 hK3 hO3
   unfold s_l4Words_L1 at H; dsimp only at H
   refine AWP_sq [0, 5] fun K4 hK4 => ?_
   refine AWP_sr tok [] [0, 5, 13] (fun a σ => a = [(0, .fsl (encL rI p0)), (5, .int .i64 s1), (13, .bool (ilt s1 (ilen p0)))] ∧ σ = hp E0 [] (M1 + 4)) (fun K hK => ?_) ?_
   ·
    skip
    simp -dsimp -implicitDefEqProofs (maxDischargeDepth := 6)
    exact hK _ _ ⟨rfl, rfl⟩
   rintro a σ ⟨rfl, rfl⟩
   refine AWP_cond (ilt s1 (ilen p0)) rfl (fun C2 => ?_) (fun C2 => ?_)
   ·
    replace H := ifT C2 H
    refine AWP_skip ?_
    show K4 _ _
    refine keepE (l := [0, 5]) (x := [(0, .fsl (encL rI p0)), (5, .int .i64 s1)]) rfl fun a' ha => ?_
    refine hK4 _ _ ?_; rw [ha]
    refine Rc.mk ?_
    refine AWP_sq [0, 5] fun K5 hK5 => ?_
    refine AWP_block (AWP_thenB ?_)
    obtain ⟨v2, hv2, H⟩ := bindE H
    obtain ⟨r3, hr3, H⟩ := bindE H
    refine AWP_sr tok [] [0, 5, 21] (fun a σ => a = [(0, .fsl (encL rI p0)), (5, .int .i64 s1), (21, .bool (bnot r3))] ∧ σ = hp E0 [] (M1 + 10)) (fun K hK => ?_) ?_
    ·
     skip
     simp -dsimp -implicitDefEqProofs (maxDischargeDepth := 6) [ix22 hv2]
     refine (c81 hr3).app ?_; try simp -dsimp -implicitDefEqProofs (maxDischargeDepth := 6) [ix22 hv2]
     exact hK _ _ ⟨rfl, rfl⟩
    rintro a σ ⟨rfl, rfl⟩
    refine AWP_cond (bnot r3) rfl (fun C3 => ?_) (fun C3 => ?_)
    ·
     replace H := ifT C3 H
     refine AWP_sr tok [] [4] (fun a σ => a = [(4, .bool false)] ∧ σ = hp E0 [] (M1 + 11)) (fun K hK => ?_) ?_
     ·
      skip
      simp -dsimp -implicitDefEqProofs (maxDischargeDepth := 6)
      exact hK _ _ ⟨rfl, rfl⟩
     rintro a σ ⟨rfl, rfl⟩
     replace H := Option.some.inj H; subst H
     refine AWP_kp [4] [(4, .bool false)] rfl ?_
     refine AWP_ret (hO3 _ _ _ _ rfl ⟨rfl, ?_⟩)
     exact ⟨[.bool false], by simp, 4, by simp [encL_nil]⟩
    ·
     replace H := ifF C3 H
     refine AWP_skip ?_
     show K5 _ _
     refine keepE (l := [0, 5]) (x := [(0, .fsl (encL rI p0)), (5, .int .i64 s1)]) rfl fun a' ha => ?_
     refine hK5 _ _ ?_; rw [ha]
     refine Rc.mk ?_
     refine AWP_rt tok [] [0, 5] (fun a σ => a = [(0, .fsl (encL rI p0)), (5, .int .i64 (iadd .i64 s1 1))] ∧ σ = hp E0 [] (M1 + 13)) (fun K hK => ?_) ?_
     ·
      skip
      simp -dsimp -implicitDefEqProofs (maxDischargeDepth := 6)
      exact hK _ _ ⟨rfl, rfl⟩
     rintro a σ ⟨ha, rfl⟩
     replace H := Option.some.inj H; subst H
     refine hK3 _ _ _ rfl ?_; rw [ha]
     exact Rc.fin (AHeap.Sub.refl _) ⟨M1 + 13, (by omega), rfl, rfl⟩
   ·
    replace H := ifF C2 H
    replace H := Option.some.inj H; subst H
    refine AWP_exit (hO3 _ _ _ _ rfl ⟨rfl, ?_⟩)
    refine Rc.rw (l := []) (X := []) rfl ?_
    exact Rc.fin (AHeap.Sub.refl _) ⟨M1 + 4, (by omega), rfl, rfl⟩
  ·
   intro x a σ hx
   rcases e1 with ⟨⟩ | r0
   ·
    obtain ⟨rfl, b, τ, hr, M2, fM2_0, rfl, rfl⟩ := hx
    dsimp only at H
    show K2 _ _
    refine hK2 _ _ (Rc_ref hr ?_)
    refine Rc.mk ?_
    refine AWP_sr tok [] [4] (fun a σ => a = [(4, .bool true)] ∧ σ = hp E0 [] (M2 + 1)) (fun K hK => ?_) ?_
    ·
     skip
     simp -dsimp -implicitDefEqProofs (maxDischargeDepth := 6)
     exact hK _ _ ⟨rfl, rfl⟩
    rintro a σ ⟨rfl, rfl⟩
    replace H := Option.some.inj H; subst H
    refine AWP_kp [4] [(4, .bool true)] rfl ?_
    refine AWP_ret ?_
    exact ⟨[.bool true], by simp, 4, by simp [encL_nil]⟩
   ·
    obtain ⟨rfl, hx2⟩ := hx
    dsimp only at H
    replace H := Option.some.inj H; subst H; exact hx2
theorem c42 {p0 : gMachine} {r : Bool} (H : s_MachineValid p0 = some r) : APure Try.prog G 42 [.agg [.fsl (encL rI p0.Regs), .int .i64 p0.Pc, .fsl (encL rI p0.Mem)]] (.bool r) := by
 refine APure_fn (fun N0 => ?_) (by simp)
 refine ACalls_fn tok Try.func42 (by kernel_rfl) rfl Try.ntmps42 Try.results42 rfl ?_
 simp only [argsA, Nat.reduceAdd, hp_next]
 unfold s_MachineValid at H
 refine AWP_sr tok [0] [1] (fun a σ => a = [(1, .fptr [.fsl (encL rI p0.Regs), .int .i64 p0.Pc, .fsl (encL rI p0.Mem)] 0)] ∧ σ = hp E0 [] (N0 + 2)) (fun K hK => ?_) ?_
 ·
  skip
  simp -dsimp -implicitDefEqProofs (maxDischargeDepth := 6)
  exact hK _ _ ⟨rfl, rfl⟩
 rintro a σ ⟨rfl, rfl⟩
 obtain ⟨r1, hr1, H⟩ := bindE H
 obtain ⟨g3, hg3, H⟩ := bindE H
 obtain ⟨g5, hg5, H⟩ := bindE H
 obtain ⟨g6, hg6, H⟩ := bindE H
 obtain ⟨g8, hg8, H⟩ := bindE H
 refine AWP_sr tok [] [2] (fun a σ => a = [(2, .bool g8)] ∧ σ = hp E0 [] (N0 + 32)) (fun K hK => ?_) ?_
 ·
  skip
  simp -dsimp -implicitDefEqProofs (maxDischargeDepth := 6)
  refine (c80 hr1).app ?_; try simp -dsimp -implicitDefEqProofs (maxDischargeDepth := 6)
  cases hbg3 : r1
  ·
   replace hg3 := ifF hbg3 hg3
   replace hg3 := Option.some.inj hg3; subst hg3
   try simp -dsimp -implicitDefEqProofs (maxDischargeDepth := 6) [hbg3]
   replace hg5 := ifF rfl hg5
   replace hg5 := Option.some.inj hg5; subst hg5
   try simp -dsimp -implicitDefEqProofs (maxDischargeDepth := 6) [hbg3]
   replace hg6 := ifF rfl hg6
   replace hg6 := Option.some.inj hg6; subst hg6
   try simp -dsimp -implicitDefEqProofs (maxDischargeDepth := 6) [hbg3]
   replace hg8 := ifF rfl hg8
   replace hg8 := Option.some.inj hg8; subst hg8
   try simp -dsimp -implicitDefEqProofs (maxDischargeDepth := 6) [hbg3]
   exact hK _ _ ⟨rfl, rfl⟩
  ·
   replace hg3 := ifT hbg3 hg3
   obtain ⟨v2, hv2, hg3⟩ := bindE hg3
   replace hg3 := Option.some.inj hg3; subst hg3
   try simp -dsimp -implicitDefEqProofs (maxDischargeDepth := 6) [hbg3, ix22 hv2]
   cases hbg5 : (ieq v2 0)
   ·
    replace hg5 := ifF hbg5 hg5
    replace hg5 := Option.some.inj hg5; subst hg5
    try simp -dsimp -implicitDefEqProofs (maxDischargeDepth := 6) [hbg3, ix22 hv2, hbg5]
    replace hg6 := ifF rfl hg6
    replace hg6 := Option.some.inj hg6; subst hg6
    try simp -dsimp -implicitDefEqProofs (maxDischargeDepth := 6) [hbg3, ix22 hv2, hbg5]
    replace hg8 := ifF rfl hg8
    replace hg8 := Option.some.inj hg8; subst hg8
    try simp -dsimp -implicitDefEqProofs (maxDischargeDepth := 6) [hbg3, ix22 hv2, hbg5]
    exact hK _ _ ⟨rfl, rfl⟩
   ·
    replace hg5 := ifT hbg5 hg5
    obtain ⟨r4, hr4, hg5⟩ := bindE hg5
    replace hg5 := Option.some.inj hg5; subst hg5
    try simp -dsimp -implicitDefEqProofs (maxDischargeDepth := 6) [hbg3, ix22 hv2, hbg5]
    refine (c81 hr4).app ?_; try simp -dsimp -implicitDefEqProofs (maxDischargeDepth := 6) [hbg3, ix22 hv2, hbg5]
    cases hbg6 : r4
    ·
     replace hg6 := ifF hbg6 hg6
     replace hg6 := Option.some.inj hg6; subst hg6
     try simp -dsimp -implicitDefEqProofs (maxDischargeDepth := 6) [hbg3, ix22 hv2, hbg5, hbg6]
     replace hg8 := ifF rfl hg8
     replace hg8 := Option.some.inj hg8; subst hg8
     try simp -dsimp -implicitDefEqProofs (maxDischargeDepth := 6) [hbg3, ix22 hv2, hbg5, hbg6]
     exact hK _ _ ⟨rfl, rfl⟩
    ·
     replace hg6 := ifT hbg6 hg6
     replace hg6 := Option.some.inj hg6; subst hg6
     try simp -dsimp -implicitDefEqProofs (maxDischargeDepth := 6) [hbg3, ix22 hv2, hbg5, hbg6]
     cases hbg8 : (ile (ilen p0.Mem) 10000)
     ·
      replace hg8 := ifF hbg8 hg8
      replace hg8 := Option.some.inj hg8; subst hg8
      try simp -dsimp -implicitDefEqProofs (maxDischargeDepth := 6) [hbg3, ix22 hv2, hbg5, hbg6, hbg8]
      exact hK _ _ ⟨rfl, rfl⟩
     ·
      replace hg8 := ifT hbg8 hg8
      obtain ⟨r7, hr7, hg8⟩ := bindE hg8
      replace hg8 := Option.some.inj hg8; subst hg8
      try simp -dsimp -implicitDefEqProofs (maxDischargeDepth := 6) [hbg3, ix22 hv2, hbg5, hbg6, hbg8]
      refine (c80 hr7).app ?_; try simp -dsimp -implicitDefEqProofs (maxDischargeDepth := 6) [hbg3, ix22 hv2, hbg5, hbg6, hbg8]
      exact hK _ _ ⟨rfl, rfl⟩
 rintro a σ ⟨rfl, rfl⟩
 replace H := Option.some.inj H; subst H
 refine AWP_kp [2] [(2, .bool g8)] rfl ?_
 refine AWP_ret ?_
 exact ⟨[.bool g8], by simp, 4, by simp [encL_nil]⟩
theorem c82 {p0 : gBox} {r : Bool} (H : s_BoxValid p0 = some r) : APure Try.prog G 82 [.agg [.int .i64 p0.Room, .fsl (encL rI p0.Items)]] (.bool r) := by
 refine APure_fn (fun N0 => ?_) (by simp)
 refine ACalls_fn tok Try.func82 (by kernel_rfl) rfl Try.ntmps82 Try.results82 rfl ?_
 simp only [argsA, Nat.reduceAdd, hp_next]
 unfold s_BoxValid at H
 refine AWP_sr tok [0] [1] (fun a σ => a = [(1, .fptr [.int .i64 p0.Room, .fsl (encL rI p0.Items)] 0)] ∧ σ = hp E0 [] (N0 + 2)) (fun K hK => ?_) ?_
 ·
  skip
  simp -dsimp -implicitDefEqProofs (maxDischargeDepth := 6)
  exact hK _ _ ⟨rfl, rfl⟩
 rintro a σ ⟨rfl, rfl⟩
 obtain ⟨r1, hr1, H⟩ := bindE H
 obtain ⟨g2, hg2, H⟩ := bindE H
 obtain ⟨g4, hg4, H⟩ := bindE H
 refine AWP_sr tok [] [2] (fun a σ => a = [(2, .bool g4)] ∧ σ = hp E0 [] (N0 + 22)) (fun K hK => ?_) ?_
 ·
  skip
  simp -dsimp -implicitDefEqProofs (maxDischargeDepth := 6)
  refine (c83 hr1).app ?_; try simp -dsimp -implicitDefEqProofs (maxDischargeDepth := 6)
  cases hbg2 : r1
  ·
   replace hg2 := ifF hbg2 hg2
   replace hg2 := Option.some.inj hg2; subst hg2
   try simp -dsimp -implicitDefEqProofs (maxDischargeDepth := 6) [hbg2]
   replace hg4 := ifF rfl hg4
   replace hg4 := Option.some.inj hg4; subst hg4
   try simp -dsimp -implicitDefEqProofs (maxDischargeDepth := 6) [hbg2]
   exact hK _ _ ⟨rfl, rfl⟩
  ·
   replace hg2 := ifT hbg2 hg2
   replace hg2 := Option.some.inj hg2; subst hg2
   try simp -dsimp -implicitDefEqProofs (maxDischargeDepth := 6) [hbg2]
   cases hbg4 : (ile (ilen p0.Items) p0.Room)
   ·
    replace hg4 := ifF hbg4 hg4
    replace hg4 := Option.some.inj hg4; subst hg4
    try simp -dsimp -implicitDefEqProofs (maxDischargeDepth := 6) [hbg2, hbg4]
    exact hK _ _ ⟨rfl, rfl⟩
   ·
    replace hg4 := ifT hbg4 hg4
    obtain ⟨r3, hr3, hg4⟩ := bindE hg4
    replace hg4 := Option.some.inj hg4; subst hg4
    try simp -dsimp -implicitDefEqProofs (maxDischargeDepth := 6) [hbg2, hbg4]
    refine (c80 hr3).app ?_; try simp -dsimp -implicitDefEqProofs (maxDischargeDepth := 6) [hbg2, hbg4]
    exact hK _ _ ⟨rfl, rfl⟩
 rintro a σ ⟨rfl, rfl⟩
 replace H := Option.some.inj H; subst H
 refine AWP_kp [2] [(2, .bool g4)] rfl ?_
 refine AWP_ret ?_
 exact ⟨[.bool g4], by simp, 4, by simp [encL_nil]⟩
theorem c43 {p0 : (List gBox)} {r : Bool} (H : s_l15Boxes p0 = some r) : APure Try.prog G 43 [.fsl (encL rBox p0)] (.bool r) := by
 refine APure_fn (fun N0 => ?_) (by simp)
 refine ACalls_fn tok Try.func43 (by kernel_rfl) rfl Try.ntmps43 Try.results43 rfl ?_
 simp only [argsA, Nat.reduceAdd, hp_next]
 unfold s_l15Boxes at H
 refine AWP_sr tok [] [0] (fun a σ => a = [(0, .fsl (encL rBox p0))] ∧ σ = hp E0 [] (N0 + 1)) (fun K hK => ?_) ?_
 ·
  skip
  simp -dsimp -implicitDefEqProofs (maxDischargeDepth := 6)
  exact hK _ _ ⟨rfl, rfl⟩
 rintro a σ ⟨rfl, rfl⟩
 refine AWP_sq [0] fun K1 hK1 => ?_
 refine AWP_sr tok [] [0, 3] (fun a σ => a = [(0, .fsl (encL rBox p0)), (3, .int .i64 0)] ∧ σ = hp E0 [] (N0 + 2)) (fun K hK => ?_) ?_
 ·
  skip
  simp -dsimp -implicitDefEqProofs (maxDischargeDepth := 6)
  exact hK _ _ ⟨rfl, rfl⟩
 rintro a σ ⟨rfl, rfl⟩
 refine AWP_block (AWP_thenB ?_)
 obtain ⟨e1, hse1, H⟩ := bindE H
 refine AWP_lp [0, 3] (fun s a σ => ∃ M1 : Nat, N0 ≤ M1 ∧ a = [(0, .fsl (encL rBox p0)), (3, .int .i64 s)] ∧ σ = hp E0 [] M1) (fun e x a σ => match e with | .inl s => x = .exit 0 ∧ Rc G 19 N0 (fun a σ => ∃ M2 : Nat, N0 ≤ M2 ∧ a = [(0, .fsl (encL rBox p0))] ∧ σ = hp E0 [] M2) (AAct.keep a [0]) σ | .inr s => x = .ret ∧ ∃ vs, resA T σ a [.tmp 2] = some vs ∧ ∃ d, thawA (fun _ => true) σ d (tupA vs) = .bool s) hse1 ?_ ?_ ?_
 ·
  refine Rc.kp [0, 3] [(0, .fsl (encL rBox p0)), (3, .int .i64 0)] rfl ?_
  exact Rc.fin (AHeap.Sub.refl _) ⟨N0 + 2, (by omega), rfl, rfl⟩
 ·
  clear H hse1
  rintro s1 fl a σ H ⟨M1, fM1_0, rfl, rfl⟩ K2 O2 hK2 hO2
  unfold s_l15Boxes_L1 at H; dsimp only at H
  refine AWP_sq [0, 3] fun K3 hK3 => ?_
  refine AWP_sr tok [] [0, 3, 7] (fun a σ => a = [(0, .fsl (encL rBox p0)), (3, .int .i64 s1), (7, .bool (ilt s1 (ilen p0)))] ∧ σ = hp E0 [] (M1 + 4)) (fun K hK => ?_) ?_
  ·
   skip
   simp -dsimp -implicitDefEqProofs (maxDischargeDepth := 6)
   exact hK _ _ ⟨rfl, rfl⟩
  rintro a σ ⟨rfl, rfl⟩
  refine AWP_cond (ilt s1 (ilen p0)) rfl (fun C1 => ?_) (fun C1 => ?_)
  ·
   replace H := ifT C1 H
   refine AWP_skip ?_
   show K3 _ _
   refine keepE (l := [0, 3]) (x := [(0, .fsl (encL rBox p0)), (3, .int .i64 s1)]) rfl fun a' ha => ?_
   refine hK3 _ _ ?_; rw [ha]
   refine Rc.mk ?_
   refine AWP_sq [0, 3] fun K4 hK4 => ?_
   refine AWP_block (AWP_thenB ?_)
   obtain ⟨v2, hv2, H⟩ := bindE H
   obtain ⟨r3, hr3, H⟩ := bindE H
   refine AWP_sr tok [] [0, 3, 15] (fun a σ => a = [(0, .fsl (encL rBox p0)), (3, .int .i64 s1), (15, .bool (bnot r3))] ∧ σ = hp E0 [] (M1 + 10)) (fun K hK => ?_) ?_
   ·
    skip
    simp -dsimp -implicitDefEqProofs (maxDischargeDepth := 6) [ix29 hv2]
    refine (c82 hr3).app ?_; try simp -dsimp -implicitDefEqProofs (maxDischargeDepth := 6) [ix29 hv2]
    exact hK _ _ ⟨rfl, rfl⟩
   rintro a σ ⟨rfl, rfl⟩
   refine AWP_cond (bnot r3) rfl (fun C2 => ?_) (fun C2 => ?_)
   ·
    replace H := ifT C2 H
    refine AWP_sr tok [] [2] (fun a σ => a = [(2, .bool false)] ∧ σ = hp E0 [] (M1 + 11)) (fun K hK => ?_) ?_
    ·
     skip
     simp -dsimp -implicitDefEqProofs (maxDischargeDepth := 6)
     exact hK _ _ ⟨rfl, rfl⟩
    rintro a σ ⟨rfl, rfl⟩
    replace H := Option.some.inj H; subst H
    refine AWP_kp [2] [(2, .bool false)] rfl ?_
    refine AWP_ret (hO2 _ _ _ _ rfl ⟨rfl, ?_⟩)
    exact ⟨[.bool false], by simp, 4, by simp [encL_nil]⟩
   ·
    replace H := ifF C2 H
    refine AWP_skip ?_
    show K4 _ _
    refine keepE (l := [0, 3]) (x := [(0, .fsl (encL rBox p0)), (3, .int .i64 s1)]) rfl fun a' ha => ?_
    refine hK4 _ _ ?_; rw [ha]
    refine Rc.mk ?_
    refine AWP_rt tok [] [0, 3] (fun a σ => a = [(0, .fsl (encL rBox p0)), (3, .int .i64 (iadd .i64 s1 1))] ∧ σ = hp E0 [] (M1 + 13)) (fun K hK => ?_) ?_
    ·
     skip
     simp -dsimp -implicitDefEqProofs (maxDischargeDepth := 6)
     exact hK _ _ ⟨rfl, rfl⟩
    rintro a σ ⟨ha, rfl⟩
    replace H := Option.some.inj H; subst H
    refine hK2 _ _ _ rfl ?_; rw [ha]
    exact Rc.fin (AHeap.Sub.refl _) ⟨M1 + 13, (by omega), rfl, rfl⟩
  ·
   replace H := ifF C1 H
   replace H := Option.some.inj H; subst H
   refine AWP_exit (hO2 _ _ _ _ rfl ⟨rfl, ?_⟩)
   refine Rc.rw (l := [0]) (X := [(0, .fsl (encL rBox p0))]) rfl ?_
   exact Rc.fin (AHeap.Sub.refl _) ⟨M1 + 4, (by omega), rfl, rfl⟩
 ·
  intro x a σ hx
  rcases e1 with ⟨⟩ | r0
  ·
   obtain ⟨rfl, b, τ, hr, M2, fM2_0, rfl, rfl⟩ := hx
   dsimp only at H
   show K1 _ _
   refine hK1 _ _ (Rc_ref hr ?_)
   refine Rc.mk ?_
   refine AWP_sr tok [] [2] (fun a σ => a = [(2, .bool (ile (ilen p0) 3))] ∧ σ = hp E0 [] (M2 + 4)) (fun K hK => ?_) ?_
   ·
    skip
    simp -dsimp -implicitDefEqProofs (maxDischargeDepth := 6)
    exact hK _ _ ⟨rfl, rfl⟩
   rintro a σ ⟨rfl, rfl⟩
   replace H := Option.some.inj H; subst H
   refine AWP_kp [2] [(2, .bool (ile (ilen p0) 3))] rfl ?_
   refine AWP_ret ?_
   exact ⟨[.bool (ile (ilen p0) 3)], by simp, 4, by simp [encL_nil]⟩
  ·
   obtain ⟨rfl, hx2⟩ := hx
   dsimp only at H
   replace H := Option.some.inj H; subst H; exact hx2
theorem c78 {p0 : Int} {r : Bool} (H : i_WordValid p0 = some r) : APure Try.prog G 78 [.int .i64 p0] (.bool r) := by
 refine APure_fn (fun N0 => ?_) (by simp)
 refine ACalls_fn tok Try.func78 (by kernel_rfl) rfl Try.ntmps78 Try.results78 rfl ?_
 simp only [argsA, Nat.reduceAdd, hp_next]
 unfold i_WordValid at H
 refine AWP_sr tok [] [0] (fun a σ => a = [(0, .int .i64 p0)] ∧ σ = hp E0 [] (N0 + 1)) (fun K hK => ?_) ?_
 ·
  skip
  simp -dsimp -implicitDefEqProofs (maxDischargeDepth := 6)
  exact hK _ _ ⟨rfl, rfl⟩
 rintro a σ ⟨rfl, rfl⟩
 obtain ⟨g1, hg1, H⟩ := bindE H
 refine AWP_sr tok [] [2] (fun a σ => a = [(2, .bool g1)] ∧ σ = hp E0 [] (N0 + 8)) (fun K hK => ?_) ?_
 ·
  skip
  simp -dsimp -implicitDefEqProofs (maxDischargeDepth := 6)
  cases hbg1 : ige p0 (-2147483648)
  ·
   replace hg1 := ifF hbg1 hg1
   replace hg1 := Option.some.inj hg1; subst hg1
   try simp -dsimp -implicitDefEqProofs (maxDischargeDepth := 6) [hbg1]
   exact hK _ _ ⟨rfl, rfl⟩
  ·
   replace hg1 := ifT hbg1 hg1
   replace hg1 := Option.some.inj hg1; subst hg1
   try simp -dsimp -implicitDefEqProofs (maxDischargeDepth := 6) [hbg1]
   exact hK _ _ ⟨rfl, rfl⟩
 rintro a σ ⟨rfl, rfl⟩
 replace H := Option.some.inj H; subst H
 refine AWP_kp [2] [(2, .bool g1)] rfl ?_
 refine AWP_ret ?_
 exact ⟨[.bool g1], by simp, 4, by simp [encL_nil]⟩
theorem c85 {p0 : (List Int)} {r : Bool} (H : i_areWords p0 = some r) : APure Try.prog G 85 [.fsl (encL rI p0)] (.bool r) := by
 refine APure_fn (fun N0 => ?_) (by simp)
 refine ACalls_fn tok Try.func85 (by kernel_rfl) rfl Try.ntmps85 Try.results85 rfl ?_
 simp only [argsA, Nat.reduceAdd, hp_next]
 unfold i_areWords at H
 refine AWP_sr tok [] [0] (fun a σ => a = [(0, .fsl (encL rI p0))] ∧ σ = hp E0 [] (N0 + 1)) (fun K hK => ?_) ?_
 ·
  skip
  simp -dsimp -implicitDefEqProofs (maxDischargeDepth := 6)
  exact hK _ _ ⟨rfl, rfl⟩
 rintro a σ ⟨rfl, rfl⟩
 refine AWP_sq [] fun K1 hK1 => ?_
 refine AWP_sr tok [] [5, 6, 7] (fun a σ => a = [(5, .fsl (encL rI p0)), (6, .int .i64 (ilen p0)), (7, .int .i64 0)] ∧ σ = hp E0 [] (N0 + 4)) (fun K hK => ?_) ?_
 ·
  skip
  simp -dsimp -implicitDefEqProofs (maxDischargeDepth := 6)
  exact hK _ _ ⟨rfl, rfl⟩
 rintro a σ ⟨rfl, rfl⟩
 refine AWP_block (AWP_thenB ?_)
 obtain ⟨e1, hse1, H⟩ := bindE H
 refine AWP_lp [5, 6, 7] (fun s a σ => ∃ M1 : Nat, N0 ≤ M1 ∧ a = [(5, .fsl (encL rI p0)), (6, .int .i64 (ilen p0)), (7, .int .i64 s)] ∧ σ = hp E0 [] M1) (fun e x a σ => match e with | .inl s => x = .exit 0 ∧ Rc G 15 N0 (fun a σ => ∃ M2 : Nat, N0 ≤ M2 ∧ a = [] ∧ σ = hp E0 [] M2) (AAct.keep a []) σ | .inr s => x = .ret ∧ ∃ vs, resA T σ a [.tmp 2] = some vs ∧ ∃ d, thawA (fun _ => true) σ d (tupA vs) = .bool s) hse1 ?_ ?_ ?_
 ·
  refine Rc.kp [5, 6, 7] [(5, .fsl (encL rI p0)), (6, .int .i64 (ilen p0)), (7, .int .i64 0)] rfl ?_
  exact Rc.fin (AHeap.Sub.refl _) ⟨N0 + 4, (by omega), rfl, rfl⟩
 ·
  clear H hse1
  rintro s1 fl a σ H ⟨M1, fM1_0, rfl, rfl⟩ K2 O2 hK2 hO2
  unfold i_areWords_L1 at H; dsimp only at H
  refine AWP_sr tok [] [5, 6, 7, 8] (fun a σ => a = [(5, .fsl (encL rI p0)), (6, .int .i64 (ilen p0)), (7, .int .i64 s1), (8, .bool (ilt s1 (ilen p0)))] ∧ σ = hp E0 [] (M1 + 1)) (fun K hK => ?_) ?_
  ·
   skip
   simp -dsimp -implicitDefEqProofs (maxDischargeDepth := 6)
   exact hK _ _ ⟨rfl, rfl⟩
  rintro a σ ⟨rfl, rfl⟩
  refine AWP_sq [5, 6, 7] fun K3 hK3 => ?_
  refine AWP_cond (ilt s1 (ilen p0)) rfl (fun C1 => ?_) (fun C1 => ?_)
  ·
   replace H := ifT C1 H
   refine AWP_skip ?_
   show K3 _ _
   refine keepE (l := [5, 6, 7]) (x := [(5, .fsl (encL rI p0)), (6, .int .i64 (ilen p0)), (7, .int .i64 s1)]) rfl fun a' ha => ?_
   refine hK3 _ _ ?_; rw [ha]
   refine Rc.mk ?_
   refine AWP_sq [5, 6, 7] fun K4 hK4 => ?_
   refine AWP_block (AWP_thenB ?_)
   obtain ⟨v2, hv2, H⟩ := bindE H
   refine AWP_sr tok [] [4, 5, 6, 7] (fun a σ => a = [(4, .int .i64 v2), (5, .fsl (encL rI p0)), (6, .int .i64 (ilen p0)), (7, .int .i64 s1)] ∧ σ = hp E0 [] (M1 + 4)) (fun K hK => ?_) ?_
   ·
    skip
    simp -dsimp -implicitDefEqProofs (maxDischargeDepth := 6) [ix22 hv2]
    exact hK _ _ ⟨rfl, rfl⟩
   rintro a σ ⟨rfl, rfl⟩
   obtain ⟨r3, hr3, H⟩ := bindE H
   refine AWP_sr tok [] [5, 6, 7, 13] (fun a σ => a = [(5, .fsl (encL rI p0)), (6, .int .i64 (ilen p0)), (7, .int .i64 s1), (13, .bool (bnot r3))] ∧ σ = hp E0 [] (M1 + 7)) (fun K hK => ?_) ?_
   ·
    skip
    simp -dsimp -implicitDefEqProofs (maxDischargeDepth := 6)
    refine (c78 hr3).app ?_; try simp -dsimp -implicitDefEqProofs (maxDischargeDepth := 6)
    exact hK _ _ ⟨rfl, rfl⟩
   rintro a σ ⟨rfl, rfl⟩
   refine AWP_cond (bnot r3) rfl (fun C2 => ?_) (fun C2 => ?_)
   ·
    replace H := ifT C2 H
    refine AWP_sr tok [] [2] (fun a σ => a = [(2, .bool false)] ∧ σ = hp E0 [] (M1 + 8)) (fun K hK => ?_) ?_
    ·
     skip
     simp -dsimp -implicitDefEqProofs (maxDischargeDepth := 6)
     exact hK _ _ ⟨rfl, rfl⟩
    rintro a σ ⟨rfl, rfl⟩
    replace H := Option.some.inj H; subst H
    refine AWP_kp [2] [(2, .bool false)] rfl ?_
    refine AWP_ret (hO2 _ _ _ _ rfl ⟨rfl, ?_⟩)
    exact ⟨[.bool false], by simp, 4, by simp [encL_nil]⟩
   ·
    replace H := ifF C2 H
    refine AWP_skip ?_
    show K4 _ _
    refine keepE (l := [5, 6, 7]) (x := [(5, .fsl (encL rI p0)), (6, .int .i64 (ilen p0)), (7, .int .i64 s1)]) rfl fun a' ha => ?_
    refine hK4 _ _ ?_; rw [ha]
    refine Rc.mk ?_
    refine AWP_rt tok [] [5, 6, 7] (fun a σ => a = [(5, .fsl (encL rI p0)), (6, .int .i64 (ilen p0)), (7, .int .i64 (iadd .i64 s1 1))] ∧ σ = hp E0 [] (M1 + 9)) (fun K hK => ?_) ?_
    ·
     skip
     simp -dsimp -implicitDefEqProofs (maxDischargeDepth := 6)
     exact hK _ _ ⟨rfl, rfl⟩
    rintro a σ ⟨ha, rfl⟩
    replace H := Option.some.inj H; subst H
    refine hK2 _ _ _ rfl ?_; rw [ha]
    exact Rc.fin (AHeap.Sub.refl _) ⟨M1 + 9, (by omega), rfl, rfl⟩
  ·
   replace H := ifF C1 H
   replace H := Option.some.inj H; subst H
   refine AWP_exit (hO2 _ _ _ _ rfl ⟨rfl, ?_⟩)
   refine Rc.rw (l := []) (X := []) rfl ?_
   exact Rc.fin (AHeap.Sub.refl _) ⟨M1 + 1, (by omega), rfl, rfl⟩
 ·
  intro x a σ hx
  rcases e1 with ⟨⟩ | r0
  ·
   obtain ⟨rfl, b, τ, hr, M2, fM2_0, rfl, rfl⟩ := hx
   dsimp only at H
   show K1 _ _
   refine hK1 _ _ (Rc_ref hr ?_)
   refine Rc.mk ?_
   refine AWP_sr tok [] [2] (fun a σ => a = [(2, .bool true)] ∧ σ = hp E0 [] (M2 + 1)) (fun K hK => ?_) ?_
   ·
    skip
    simp -dsimp -implicitDefEqProofs (maxDischargeDepth := 6)
    exact hK _ _ ⟨rfl, rfl⟩
   rintro a σ ⟨rfl, rfl⟩
   replace H := Option.some.inj H; subst H
   refine AWP_kp [2] [(2, .bool true)] rfl ?_
   refine AWP_ret ?_
   exact ⟨[.bool true], by simp, 4, by simp [encL_nil]⟩
  ·
   obtain ⟨rfl, hx2⟩ := hx
   dsimp only at H
   replace H := Option.some.inj H; subst H; exact hx2
theorem c50 {p0 : gMachine} {r : Bool} (H : i_MachineValid p0 = some r) : APure Try.prog G 50 [.agg [.fsl (encL rI p0.Regs), .int .i64 p0.Pc, .fsl (encL rI p0.Mem)]] (.bool r) := by
 refine APure_fn (fun N0 => ?_) (by simp)
 refine ACalls_fn tok Try.func50 (by kernel_rfl) rfl Try.ntmps50 Try.results50 rfl ?_
 simp only [argsA, Nat.reduceAdd, hp_next]
 unfold i_MachineValid at H
 refine AWP_sr tok [0] [1] (fun a σ => a = [(1, .fptr [.fsl (encL rI p0.Regs), .int .i64 p0.Pc, .fsl (encL rI p0.Mem)] 0)] ∧ σ = hp E0 [] (N0 + 2)) (fun K hK => ?_) ?_
 ·
  skip
  simp -dsimp -implicitDefEqProofs (maxDischargeDepth := 6)
  exact hK _ _ ⟨rfl, rfl⟩
 rintro a σ ⟨rfl, rfl⟩
 obtain ⟨g2, hg2, H⟩ := bindE H
 obtain ⟨g4, hg4, H⟩ := bindE H
 obtain ⟨g6, hg6, H⟩ := bindE H
 obtain ⟨g7, hg7, H⟩ := bindE H
 obtain ⟨g9, hg9, H⟩ := bindE H
 refine AWP_sr tok [] [2] (fun a σ => a = [(2, .bool g9)] ∧ σ = hp E0 [] (N0 + 35)) (fun K hK => ?_) ?_
 ·
  skip
  simp -dsimp -implicitDefEqProofs (maxDischargeDepth := 6)
  cases hbg2 : ieq (ilen p0.Regs) 32
  ·
   replace hg2 := ifF hbg2 hg2
   replace hg2 := Option.some.inj hg2; subst hg2
   try simp -dsimp -implicitDefEqProofs (maxDischargeDepth := 6) [hbg2]
   replace hg4 := ifF rfl hg4
   replace hg4 := Option.some.inj hg4; subst hg4
   try simp -dsimp -implicitDefEqProofs (maxDischargeDepth := 6) [hbg2]
   replace hg6 := ifF rfl hg6
   replace hg6 := Option.some.inj hg6; subst hg6
   try simp -dsimp -implicitDefEqProofs (maxDischargeDepth := 6) [hbg2]
   replace hg7 := ifF rfl hg7
   replace hg7 := Option.some.inj hg7; subst hg7
   try simp -dsimp -implicitDefEqProofs (maxDischargeDepth := 6) [hbg2]
   replace hg9 := ifF rfl hg9
   replace hg9 := Option.some.inj hg9; subst hg9
   try simp -dsimp -implicitDefEqProofs (maxDischargeDepth := 6) [hbg2]
   exact hK _ _ ⟨rfl, rfl⟩
  ·
   replace hg2 := ifT hbg2 hg2
   obtain ⟨r1, hr1, hg2⟩ := bindE hg2
   replace hg2 := Option.some.inj hg2; subst hg2
   try simp -dsimp -implicitDefEqProofs (maxDischargeDepth := 6) [hbg2]
   refine (c85 hr1).app ?_; try simp -dsimp -implicitDefEqProofs (maxDischargeDepth := 6) [hbg2]
   cases hbg4 : r1
   ·
    replace hg4 := ifF hbg4 hg4
    replace hg4 := Option.some.inj hg4; subst hg4
    try simp -dsimp -implicitDefEqProofs (maxDischargeDepth := 6) [hbg2, hbg4]
    replace hg6 := ifF rfl hg6
    replace hg6 := Option.some.inj hg6; subst hg6
    try simp -dsimp -implicitDefEqProofs (maxDischargeDepth := 6) [hbg2, hbg4]
    replace hg7 := ifF rfl hg7
    replace hg7 := Option.some.inj hg7; subst hg7
    try simp -dsimp -implicitDefEqProofs (maxDischargeDepth := 6) [hbg2, hbg4]
    replace hg9 := ifF rfl hg9
    replace hg9 := Option.some.inj hg9; subst hg9
    try simp -dsimp -implicitDefEqProofs (maxDischargeDepth := 6) [hbg2, hbg4]
    exact hK _ _ ⟨rfl, rfl⟩
   ·
    replace hg4 := ifT hbg4 hg4
    obtain ⟨v3, hv3, hg4⟩ := bindE hg4
    replace hg4 := Option.some.inj hg4; subst hg4
    try simp -dsimp -implicitDefEqProofs (maxDischargeDepth := 6) [hbg2, hbg4, ix22 hv3]
    cases hbg6 : (ieq v3 0)
    ·
     replace hg6 := ifF hbg6 hg6
     replace hg6 := Option.some.inj hg6; subst hg6
     try simp -dsimp -implicitDefEqProofs (maxDischargeDepth := 6) [hbg2, hbg4, ix22 hv3, hbg6]
     replace hg7 := ifF rfl hg7
     replace hg7 := Option.some.inj hg7; subst hg7
     try simp -dsimp -implicitDefEqProofs (maxDischargeDepth := 6) [hbg2, hbg4, ix22 hv3, hbg6]
     replace hg9 := ifF rfl hg9
     replace hg9 := Option.some.inj hg9; subst hg9
     try simp -dsimp -implicitDefEqProofs (maxDischargeDepth := 6) [hbg2, hbg4, ix22 hv3, hbg6]
     exact hK _ _ ⟨rfl, rfl⟩
    ·
     replace hg6 := ifT hbg6 hg6
     obtain ⟨r5, hr5, hg6⟩ := bindE hg6
     replace hg6 := Option.some.inj hg6; subst hg6
     try simp -dsimp -implicitDefEqProofs (maxDischargeDepth := 6) [hbg2, hbg4, ix22 hv3, hbg6]
     refine (c78 hr5).app ?_; try simp -dsimp -implicitDefEqProofs (maxDischargeDepth := 6) [hbg2, hbg4, ix22 hv3, hbg6]
     cases hbg7 : r5
     ·
      replace hg7 := ifF hbg7 hg7
      replace hg7 := Option.some.inj hg7; subst hg7
      try simp -dsimp -implicitDefEqProofs (maxDischargeDepth := 6) [hbg2, hbg4, ix22 hv3, hbg6, hbg7]
      replace hg9 := ifF rfl hg9
      replace hg9 := Option.some.inj hg9; subst hg9
      try simp -dsimp -implicitDefEqProofs (maxDischargeDepth := 6) [hbg2, hbg4, ix22 hv3, hbg6, hbg7]
      exact hK _ _ ⟨rfl, rfl⟩
     ·
      replace hg7 := ifT hbg7 hg7
      replace hg7 := Option.some.inj hg7; subst hg7
      try simp -dsimp -implicitDefEqProofs (maxDischargeDepth := 6) [hbg2, hbg4, ix22 hv3, hbg6, hbg7]
      cases hbg9 : (ile (ilen p0.Mem) 10000)
      ·
       replace hg9 := ifF hbg9 hg9
       replace hg9 := Option.some.inj hg9; subst hg9
       try simp -dsimp -implicitDefEqProofs (maxDischargeDepth := 6) [hbg2, hbg4, ix22 hv3, hbg6, hbg7, hbg9]
       exact hK _ _ ⟨rfl, rfl⟩
      ·
       replace hg9 := ifT hbg9 hg9
       obtain ⟨r8, hr8, hg9⟩ := bindE hg9
       replace hg9 := Option.some.inj hg9; subst hg9
       try simp -dsimp -implicitDefEqProofs (maxDischargeDepth := 6) [hbg2, hbg4, ix22 hv3, hbg6, hbg7, hbg9]
       refine (c85 hr8).app ?_; try simp -dsimp -implicitDefEqProofs (maxDischargeDepth := 6) [hbg2, hbg4, ix22 hv3, hbg6, hbg7, hbg9]
       exact hK _ _ ⟨rfl, rfl⟩
 rintro a σ ⟨rfl, rfl⟩
 replace H := Option.some.inj H; subst H
 refine AWP_kp [2] [(2, .bool g9)] rfl ?_
 refine AWP_ret ?_
 exact ⟨[.bool g9], by simp, 4, by simp [encL_nil]⟩
theorem c77 {p0 : gBox} {r : Bool} (H : i_BoxValid p0 = some r) : APure Try.prog G 77 [.agg [.int .i64 p0.Room, .fsl (encL rI p0.Items)]] (.bool r) := by
 refine APure_fn (fun N0 => ?_) (by simp)
 refine ACalls_fn tok Try.func77 (by kernel_rfl) rfl Try.ntmps77 Try.results77 rfl ?_
 simp only [argsA, Nat.reduceAdd, hp_next]
 unfold i_BoxValid at H
 refine AWP_sr tok [0] [1] (fun a σ => a = [(1, .fptr [.int .i64 p0.Room, .fsl (encL rI p0.Items)] 0)] ∧ σ = hp E0 [] (N0 + 2)) (fun K hK => ?_) ?_
 ·
  skip
  simp -dsimp -implicitDefEqProofs (maxDischargeDepth := 6)
  exact hK _ _ ⟨rfl, rfl⟩
 rintro a σ ⟨rfl, rfl⟩
 obtain ⟨g1, hg1, H⟩ := bindE H
 obtain ⟨g2, hg2, H⟩ := bindE H
 obtain ⟨g4, hg4, H⟩ := bindE H
 refine AWP_sr tok [] [2] (fun a σ => a = [(2, .bool g4)] ∧ σ = hp E0 [] (N0 + 24)) (fun K hK => ?_) ?_
 ·
  skip
  simp -dsimp -implicitDefEqProofs (maxDischargeDepth := 6)
  cases hbg1 : ige p0.Room 1
  ·
   replace hg1 := ifF hbg1 hg1
   replace hg1 := Option.some.inj hg1; subst hg1
   try simp -dsimp -implicitDefEqProofs (maxDischargeDepth := 6) [hbg1]
   replace hg2 := ifF rfl hg2
   replace hg2 := Option.some.inj hg2; subst hg2
   try simp -dsimp -implicitDefEqProofs (maxDischargeDepth := 6) [hbg1]
   replace hg4 := ifF rfl hg4
   replace hg4 := Option.some.inj hg4; subst hg4
   try simp -dsimp -implicitDefEqProofs (maxDischargeDepth := 6) [hbg1]
   exact hK _ _ ⟨rfl, rfl⟩
  ·
   replace hg1 := ifT hbg1 hg1
   replace hg1 := Option.some.inj hg1; subst hg1
   try simp -dsimp -implicitDefEqProofs (maxDischargeDepth := 6) [hbg1]
   cases hbg2 : (ile p0.Room 4)
   ·
    replace hg2 := ifF hbg2 hg2
    replace hg2 := Option.some.inj hg2; subst hg2
    try simp -dsimp -implicitDefEqProofs (maxDischargeDepth := 6) [hbg1, hbg2]
    replace hg4 := ifF rfl hg4
    replace hg4 := Option.some.inj hg4; subst hg4
    try simp -dsimp -implicitDefEqProofs (maxDischargeDepth := 6) [hbg1, hbg2]
    exact hK _ _ ⟨rfl, rfl⟩
   ·
    replace hg2 := ifT hbg2 hg2
    replace hg2 := Option.some.inj hg2; subst hg2
    try simp -dsimp -implicitDefEqProofs (maxDischargeDepth := 6) [hbg1, hbg2]
    cases hbg4 : (ile (ilen p0.Items) p0.Room)
    ·
     replace hg4 := ifF hbg4 hg4
     replace hg4 := Option.some.inj hg4; subst hg4
     try simp -dsimp -implicitDefEqProofs (maxDischargeDepth := 6) [hbg1, hbg2, hbg4]
     exact hK _ _ ⟨rfl, rfl⟩
    ·
     replace hg4 := ifT hbg4 hg4
     obtain ⟨r3, hr3, hg4⟩ := bindE hg4
     replace hg4 := Option.some.inj hg4; subst hg4
     try simp -dsimp -implicitDefEqProofs (maxDischargeDepth := 6) [hbg1, hbg2, hbg4]
     refine (c85 hr3).app ?_; try simp -dsimp -implicitDefEqProofs (maxDischargeDepth := 6) [hbg1, hbg2, hbg4]
     exact hK _ _ ⟨rfl, rfl⟩
 rintro a σ ⟨rfl, rfl⟩
 replace H := Option.some.inj H; subst H
 refine AWP_kp [2] [(2, .bool g4)] rfl ?_
 refine AWP_ret ?_
 exact ⟨[.bool g4], by simp, 4, by simp [encL_nil]⟩
theorem c51 {p0 : (List gBox)} {r : Bool} (H : i_boxesValid p0 = some r) : APure Try.prog G 51 [.fsl (encL rBox p0)] (.bool r) := by
 refine APure_fn (fun N0 => ?_) (by simp)
 refine ACalls_fn tok Try.func51 (by kernel_rfl) rfl Try.ntmps51 Try.results51 rfl ?_
 simp only [argsA, Nat.reduceAdd, hp_next]
 unfold i_boxesValid at H
 refine AWP_sr tok [] [0] (fun a σ => a = [(0, .fsl (encL rBox p0))] ∧ σ = hp E0 [] (N0 + 1)) (fun K hK => ?_) ?_
 ·
  skip
  simp -dsimp -implicitDefEqProofs (maxDischargeDepth := 6)
  exact hK _ _ ⟨rfl, rfl⟩
 rintro a σ ⟨rfl, rfl⟩
 refine AWP_sq [0] fun K1 hK1 => ?_
 refine AWP_sr tok [] [0, 5, 6, 7] (fun a σ => a = [(0, .fsl (encL rBox p0)), (5, .fsl (encL rBox p0)), (6, .int .i64 (ilen p0)), (7, .int .i64 0)] ∧ σ = hp E0 [] (N0 + 4)) (fun K hK => ?_) ?_
 ·
  skip
  simp -dsimp -implicitDefEqProofs (maxDischargeDepth := 6)
  exact hK _ _ ⟨rfl, rfl⟩
 rintro a σ ⟨rfl, rfl⟩
 refine AWP_block (AWP_thenB ?_)
 obtain ⟨e1, hse1, H⟩ := bindE H
 refine AWP_lp [0, 5, 6, 7] (fun s a σ => ∃ M1 : Nat, N0 ≤ M1 ∧ a = [(0, .fsl (encL rBox p0)), (5, .fsl (encL rBox p0)), (6, .int .i64 (ilen p0)), (7, .int .i64 s)] ∧ σ = hp E0 [] M1) (fun e x a σ => match e with | .inl s => x = .exit 0 ∧ Rc G 18 N0 (fun a σ => ∃ M2 : Nat, N0 ≤ M2 ∧ a = [(0, .fsl (encL rBox p0))] ∧ σ = hp E0 [] M2) (AAct.keep a [0]) σ | .inr s => x = .ret ∧ ∃ vs, resA T σ a [.tmp 2] = some vs ∧ ∃ d, thawA (fun _ => true) σ d (tupA vs) = .bool s) hse1 ?_ ?_ ?_
 ·
  refine Rc.kp [0, 5, 6, 7] [(0, .fsl (encL rBox p0)), (5, .fsl (encL rBox p0)), (6, .int .i64 (ilen p0)), (7, .int .i64 0)] rfl ?_
  exact Rc.fin (AHeap.Sub.refl _) ⟨N0 + 4, (by omega), rfl, rfl⟩
 ·
  clear H hse1
  rintro s1 fl a σ H ⟨M1, fM1_0, rfl, rfl⟩ K2 O2 hK2 hO2
  unfold i_boxesValid_L1 at H; dsimp only at H
  refine AWP_sr tok [] [0, 5, 6, 7, 8] (fun a σ => a = [(0, .fsl (encL rBox p0)), (5, .fsl (encL rBox p0)), (6, .int .i64 (ilen p0)), (7, .int .i64 s1), (8, .bool (ilt s1 (ilen p0)))] ∧ σ = hp E0 [] (M1 + 1)) (fun K hK => ?_) ?_
  ·
   skip
   simp -dsimp -implicitDefEqProofs (maxDischargeDepth := 6)
   exact hK _ _ ⟨rfl, rfl⟩
  rintro a σ ⟨rfl, rfl⟩
  refine AWP_sq [0, 5, 6, 7] fun K3 hK3 => ?_
  refine AWP_cond (ilt s1 (ilen p0)) rfl (fun C1 => ?_) (fun C1 => ?_)
  ·
   replace H := ifT C1 H
   refine AWP_skip ?_
   show K3 _ _
   refine keepE (l := [0, 5, 6, 7]) (x := [(0, .fsl (encL rBox p0)), (5, .fsl (encL rBox p0)), (6, .int .i64 (ilen p0)), (7, .int .i64 s1)]) rfl fun a' ha => ?_
   refine hK3 _ _ ?_; rw [ha]
   refine Rc.mk ?_
   refine AWP_sq [0, 5, 6, 7] fun K4 hK4 => ?_
   refine AWP_block (AWP_thenB ?_)
   obtain ⟨v2, hv2, H⟩ := bindE H
   refine AWP_sr tok [] [0, 4, 5, 6, 7] (fun a σ => a = [(0, .fsl (encL rBox p0)), (4, .ptr (M1 + 3) 0 0), (5, .fsl (encL rBox p0)), (6, .int .i64 (ilen p0)), (7, .int .i64 s1)] ∧ σ = hp E0 [(M1 + 3, some ⟨64, 2, [[.int .i64 v2.Room, .fsl (encL rI v2.Items)]]⟩)] (M1 + 5)) (fun K hK => ?_) ?_
   ·
    skip
    simp -dsimp -implicitDefEqProofs (maxDischargeDepth := 6) [ix29 hv2]
    exact hK _ _ ⟨rfl, rfl⟩
   rintro a σ ⟨rfl, rfl⟩
   obtain ⟨r3, hr3, H⟩ := bindE H
   refine AWP_sr tok [] [0, 5, 6, 7, 13] (fun a σ => a = [(0, .fsl (encL rBox p0)), (5, .fsl (encL rBox p0)), (6, .int .i64 (ilen p0)), (7, .int .i64 s1), (13, .bool (bnot r3))] ∧ σ = hp E0 [(M1 + 3, some ⟨64, 2, [[.int .i64 v2.Room, .fsl (encL rI v2.Items)]]⟩)] (M1 + 8)) (fun K hK => ?_) ?_
   ·
    skip
    simp -dsimp -implicitDefEqProofs (maxDischargeDepth := 6)
    refine (c77 hr3).app ?_; try simp -dsimp -implicitDefEqProofs (maxDischargeDepth := 6)
    exact hK _ _ ⟨rfl, rfl⟩
   rintro a σ ⟨rfl, rfl⟩
   refine AWP_cond (bnot r3) rfl (fun C2 => ?_) (fun C2 => ?_)
   ·
    replace H := ifT C2 H
    refine AWP_sr tok [] [2] (fun a σ => a = [(2, .bool false)] ∧ σ = hp E0 [(M1 + 3, some ⟨64, 2, [[.int .i64 v2.Room, .fsl (encL rI v2.Items)]]⟩)] (M1 + 9)) (fun K hK => ?_) ?_
    ·
     skip
     simp -dsimp -implicitDefEqProofs (maxDischargeDepth := 6)
     exact hK _ _ ⟨rfl, rfl⟩
    rintro a σ ⟨rfl, rfl⟩
    replace H := Option.some.inj H; subst H
    refine AWP_kp [2] [(2, .bool false)] rfl ?_
    refine AWP_ret (hO2 _ _ _ _ rfl ⟨rfl, ?_⟩)
    exact ⟨[.bool false], by simp, 4, by simp [encL_nil]⟩
   ·
    replace H := ifF C2 H
    refine AWP_skip ?_
    show K4 _ _
    refine keepE (l := [0, 5, 6, 7]) (x := [(0, .fsl (encL rBox p0)), (5, .fsl (encL rBox p0)), (6, .int .i64 (ilen p0)), (7, .int .i64 s1)]) rfl fun a' ha => ?_
    refine hK4 _ _ ?_; rw [ha]
    refine Rc.mk ?_
    refine AWP_rt tok [] [0, 5, 6, 7] (fun a σ => a = [(0, .fsl (encL rBox p0)), (5, .fsl (encL rBox p0)), (6, .int .i64 (ilen p0)), (7, .int .i64 (iadd .i64 s1 1))] ∧ σ = hp E0 [(M1 + 3, some ⟨64, 2, [[.int .i64 v2.Room, .fsl (encL rI v2.Items)]]⟩)] (M1 + 10)) (fun K hK => ?_) ?_
    ·
     skip
     simp -dsimp -implicitDefEqProofs (maxDischargeDepth := 6)
     exact hK _ _ ⟨rfl, rfl⟩
    rintro a σ ⟨ha, rfl⟩
    replace H := Option.some.inj H; subst H
    refine hK2 _ _ _ rfl ?_; rw [ha]
    exact Rc.fin (AHeap.Sub.trans (AHeap.Sub.refl _) (hp_drop rfl (by simp; try omega))) ⟨M1 + 10, (by omega), rfl, rfl⟩
  ·
   replace H := ifF C1 H
   replace H := Option.some.inj H; subst H
   refine AWP_exit (hO2 _ _ _ _ rfl ⟨rfl, ?_⟩)
   refine Rc.rw (l := [0]) (X := [(0, .fsl (encL rBox p0))]) rfl ?_
   exact Rc.fin (AHeap.Sub.refl _) ⟨M1 + 1, (by omega), rfl, rfl⟩
 ·
  intro x a σ hx
  rcases e1 with ⟨⟩ | r0
  ·
   obtain ⟨rfl, b, τ, hr, M2, fM2_0, rfl, rfl⟩ := hx
   dsimp only at H
   show K1 _ _
   refine hK1 _ _ (Rc_ref hr ?_)
   refine Rc.mk ?_
   refine AWP_sr tok [] [2] (fun a σ => a = [(2, .bool (ile (ilen p0) 3))] ∧ σ = hp E0 [] (M2 + 4)) (fun K hK => ?_) ?_
   ·
    skip
    simp -dsimp -implicitDefEqProofs (maxDischargeDepth := 6)
    exact hK _ _ ⟨rfl, rfl⟩
   rintro a σ ⟨rfl, rfl⟩
   replace H := Option.some.inj H; subst H
   refine AWP_kp [2] [(2, .bool (ile (ilen p0) 3))] rfl ?_
   refine AWP_ret ?_
   exact ⟨[.bool (ile (ilen p0) 3)], by simp, 4, by simp [encL_nil]⟩
  ·
   obtain ⟨rfl, hx2⟩ := hx
   dsimp only at H
   replace H := Option.some.inj H; subst H; exact hx2
theorem c79 {p0 : (List Int)} {r : (List Int)} (H : slices_Clone_int_int p0 = some r) : APure Try.prog G 79 [.fsl (encL rI p0)] (.fsl (encL rI r)) := by
 refine APure_fn (fun N0 => ?_) (by simp)
 refine ACalls_fn tok Try.func79 (by kernel_rfl) rfl Try.ntmps79 Try.results79 rfl ?_
 simp only [argsA, Nat.reduceAdd, hp_next]
 unfold slices_Clone_int_int at H
 refine AWP_sr tok [] [0] (fun a σ => a = [(0, .fsl (encL rI p0))] ∧ σ = hp E0 [] (N0 + 1)) (fun K hK => ?_) ?_
 ·
  skip
  simp -dsimp -implicitDefEqProofs (maxDischargeDepth := 6)
  exact hK _ _ ⟨rfl, rfl⟩
 rintro a σ ⟨rfl, rfl⟩
 refine AWP_sq [0] fun K1 hK1 => ?_
 refine AWP_isnil tok [4, 0] ([(0, .fsl (encL rI p0))]) rfl rfl (by decide) (by decide) (by decide) (fun _ => rfl) (fun n0 => ?_) ?_
 ·
  replace n0 : p0 = [] := encL_isnil n0
  replace H : (if true = true then   some ([] : List Int) else   (appx 8 ([] : List Int) p0).bind fun l2 =>   some l2 : Option ((List Int))) = some r := by simpa [n0, appx] using H
  refine AWP_cond true rfl (fun C2 => ?_) (fun C2 => ?_)
  ·
   replace H := ifT C2 H
   refine AWP_sr tok [] [2] (fun a σ => a = [(2, .nilsl)] ∧ σ = hp E0 [] (N0 + 2)) (fun K hK => ?_) ?_
   ·
    skip
    simp -dsimp -implicitDefEqProofs (maxDischargeDepth := 6)
    exact hK _ _ ⟨rfl, rfl⟩
   rintro a σ ⟨rfl, rfl⟩
   replace H := Option.some.inj H; subst H
   refine AWP_kp [2] [(2, .nilsl)] rfl ?_
   refine AWP_ret ?_
   exact ⟨[.nilsl], by simp, 4, by simp [encL_nil]⟩
  ·
   replace H := ifF C2 H
   refine AWP_skip ?_
   show K1 _ _
   refine keepE (l := [0]) (x := [(0, .fsl (encL rI p0))]) rfl fun a' ha => ?_
   refine hK1 _ _ ?_; rw [ha]
   refine Rc.mk ?_
   obtain ⟨l2, hl2, H⟩ := bindE H
   have q2 : ∀ σ i, buildSliceA T 22 true i 0 [] σ = some (.esl, σ) := fun _ _ => rfl
   refine AWP_sr tok [0, 2] [2] (fun a σ => a = [(2, .fsl (encL rI l2))] ∧ σ = hp E0 [] (N0 + 5)) (fun K hK => ?_) ?_
   ·
    skip
    simp -dsimp -implicitDefEqProofs (maxDischargeDepth := 6) [q2, appf22 hl2]
    exact hK _ _ ⟨rfl, rfl⟩
   rintro a σ ⟨rfl, rfl⟩
   replace H := Option.some.inj H; subst H
   refine AWP_kp [2] [(2, .fsl (encL rI l2))] rfl ?_
   refine AWP_ret ?_
   exact ⟨[.fsl (encL rI l2)], by simp, 4, by simp [encL_nil]⟩
 ·
  refine AWP_cond false rfl (fun C1 => ?_) (fun C1 => ?_)
  ·
   replace H := ifT C1 H
   refine AWP_sr tok [] [2] (fun a σ => a = [(2, .nilsl)] ∧ σ = hp E0 [] (N0 + 2)) (fun K hK => ?_) ?_
   ·
    skip
    simp -dsimp -implicitDefEqProofs (maxDischargeDepth := 6)
    exact hK _ _ ⟨rfl, rfl⟩
   rintro a σ ⟨rfl, rfl⟩
   replace H := Option.some.inj H; subst H
   refine AWP_kp [2] [(2, .nilsl)] rfl ?_
   refine AWP_ret ?_
   exact ⟨[.nilsl], by simp, 4, by simp [encL_nil]⟩
  ·
   replace H := ifF C1 H
   refine AWP_skip ?_
   show K1 _ _
   refine keepE (l := [0]) (x := [(0, .fsl (encL rI p0))]) rfl fun a' ha => ?_
   refine hK1 _ _ ?_; rw [ha]
   refine Rc.mk ?_
   obtain ⟨l1, hl1, H⟩ := bindE H
   have q1 : ∀ σ i, buildSliceA T 22 true i 0 [] σ = some (.esl, σ) := fun _ _ => rfl
   refine AWP_sr tok [0, 2] [2] (fun a σ => a = [(2, .fsl (encL rI l1))] ∧ σ = hp E0 [] (N0 + 5)) (fun K hK => ?_) ?_
   ·
    skip
    simp -dsimp -implicitDefEqProofs (maxDischargeDepth := 6) [q1, appf22 hl1]
    exact hK _ _ ⟨rfl, rfl⟩
   rintro a σ ⟨rfl, rfl⟩
   replace H := Option.some.inj H; subst H
   refine AWP_kp [2] [(2, .fsl (encL rI l1))] rfl ?_
   refine AWP_ret ?_
   exact ⟨[.fsl (encL rI l1)], by simp, 4, by simp [encL_nil]⟩
theorem c79_o {p0 : (List Int)} {r : (List Int)} (H : slices_Clone_int_int_o p0 = some r) {σ : AHeap} : ACalls Try.prog G 79 [.fsl (encL rI p0)] σ (fun v σ' => ∃ M n0 : Nat, σ.next ≤ M ∧ σ.next ≤ n0 ∧ n0 < M ∧ v = .sl n0 0 r.length ∧ σ' = hp σ.objs [(n0, some ⟨3, 1, encL rI r⟩)] M) := by
 refine ACalls_fr (L := []) (Q1 := fun v σ' => ∃ M n0 : Nat, σ.next ≤ M ∧ σ.next ≤ n0 ∧ n0 < M ∧ v = .sl n0 0 r.length ∧ σ' = hp E0 [(n0, some ⟨3, 1, encL rI r⟩)] M) (by simp []) (fun hlt => ?_) ?_ ⟨_, Try.func79, rfl, rfl⟩
 rotate_left
 ·
  rintro v σ1 ⟨M, n0, h0, h1, h2, rfl, rfl⟩
  exact ⟨_, M, rfl, by simp, by simp; try omega, M, n0, h0, h1, h2, rfl, rfl⟩
 generalize σ.next = N0 at hlt ⊢
 refine ACalls_fn tok Try.func79 (by kernel_rfl) rfl Try.ntmps79 Try.results79 rfl ?_
 simp only [argsA, Nat.reduceAdd, hp_next]
 unfold slices_Clone_int_int_o at H
 refine AWP_sr tok [] [0] (fun a σ => a = [(0, .fsl (encL rI p0))] ∧ σ = hp E0 [] (N0 + 1)) (fun K hK => ?_) ?_
 ·
  skip
  simp -dsimp -implicitDefEqProofs (maxDischargeDepth := 6)
  exact hK _ _ ⟨rfl, rfl⟩
 rintro a σ ⟨rfl, rfl⟩
 refine AWP_sq [0] fun K1 hK1 => ?_
 refine AWP_isnil tok [4, 0] ([(0, .fsl (encL rI p0))]) rfl rfl (by decide) (by decide) (by decide) (fun _ => rfl) (fun n0 => ?_) ?_
 ·
  replace n0 : p0 = [] := encL_isnil n0
  replace H : (if true = true then   some ([] : List Int) else   (appx 8 ([] : List Int) p0).bind fun l2 =>   some l2 : Option ((List Int))) = some r := by simpa [n0, appx] using H
  refine AWP_cond true rfl (fun C2 => ?_) (fun C2 => ?_)
  ·
   replace H := ifT C2 H
   refine AWP_sr tok [] [2] (fun a σ => a = [(2, .nilsl)] ∧ σ = hp E0 [] (N0 + 2)) (fun K hK => ?_) ?_
   ·
    skip
    simp -dsimp -implicitDefEqProofs (maxDischargeDepth := 6)
    exact hK _ _ ⟨rfl, rfl⟩
   rintro a σ ⟨rfl, rfl⟩
   replace H := Option.some.inj H; subst H
   refine AWP_kp [2] [(2, .nilsl)] rfl ?_
   refine gNilS AWP_ref 2 3 1 [(N0 + 2, some ⟨3, 1, encL rI ([] : List Int)⟩)] [(2, .sl (N0 + 2) 0 ([] : List Int).length)] (by simp (disch := omega)) (by simp (disch := omega) [encL_nil]) [2] rfl ?_
   refine AWP_ret ?_
   refine ⟨[.sl (N0 + 2) 0 ([] : List Int).length], by simp, N0 + 3, N0 + 2, by omega, by omega, by omega, ?_, ?_⟩
   ·
    simp [encL_nil]
   ·
    first | rfl | simp [List.set_set]
  ·
   replace H := ifF C2 H
   refine AWP_skip ?_
   show K1 _ _
   refine keepE (l := [0]) (x := [(0, .fsl (encL rI p0))]) rfl fun a' ha => ?_
   refine hK1 _ _ ?_; rw [ha]
   refine Rc.mk ?_
   obtain ⟨l2, hl2, H⟩ := bindE H
   have q2 : ∀ σ i, buildSliceA T 22 true i 0 [] σ = some (.esl, σ) := fun _ _ => rfl
   refine AWP_sr tok [0] [2] (fun a σ => a = [(2, .sl (N0 + 3) 0 l2.length)] ∧ σ = hp E0 [(N0 + 3, some ⟨3, 1, encL rI l2⟩)] (N0 + 5)) (fun K hK => ?_) ?_
   ·
    skip
    simp -dsimp -implicitDefEqProofs (maxDischargeDepth := 6) [q2, appe22 hl2]
    exact hK _ _ ⟨rfl, rfl⟩
   rintro a σ ⟨rfl, rfl⟩
   replace H := Option.some.inj H; subst H
   refine AWP_kp [2] [(2, .sl (N0 + 3) 0 l2.length)] rfl ?_
   refine AWP_ret ?_
   refine ⟨[.sl (N0 + 3) 0 l2.length], by simp, N0 + 5, N0 + 3, by omega, by omega, by omega, ?_, ?_⟩
   ·
    simp [encL_nil]
   ·
    first | rfl | simp [List.set_set]
 ·
  refine AWP_cond false rfl (fun C1 => ?_) (fun C1 => ?_)
  ·
   replace H := ifT C1 H
   refine AWP_sr tok [] [2] (fun a σ => a = [(2, .nilsl)] ∧ σ = hp E0 [] (N0 + 2)) (fun K hK => ?_) ?_
   ·
    skip
    simp -dsimp -implicitDefEqProofs (maxDischargeDepth := 6)
    exact hK _ _ ⟨rfl, rfl⟩
   rintro a σ ⟨rfl, rfl⟩
   replace H := Option.some.inj H; subst H
   refine AWP_kp [2] [(2, .nilsl)] rfl ?_
   refine gNilS AWP_ref 2 3 1 [(N0 + 2, some ⟨3, 1, encL rI ([] : List Int)⟩)] [(2, .sl (N0 + 2) 0 ([] : List Int).length)] (by simp (disch := omega)) (by simp (disch := omega) [encL_nil]) [2] rfl ?_
   refine AWP_ret ?_
   refine ⟨[.sl (N0 + 2) 0 ([] : List Int).length], by simp, N0 + 3, N0 + 2, by omega, by omega, by omega, ?_, ?_⟩
   ·
    simp [encL_nil]
   ·
    first | rfl | simp [List.set_set]
  ·
   replace H := ifF C1 H
   refine AWP_skip ?_
   show K1 _ _
   refine keepE (l := [0]) (x := [(0, .fsl (encL rI p0))]) rfl fun a' ha => ?_
   refine hK1 _ _ ?_; rw [ha]
   refine Rc.mk ?_
   obtain ⟨l1, hl1, H⟩ := bindE H
   have q1 : ∀ σ i, buildSliceA T 22 true i 0 [] σ = some (.esl, σ) := fun _ _ => rfl
   refine AWP_sr tok [0] [2] (fun a σ => a = [(2, .sl (N0 + 3) 0 l1.length)] ∧ σ = hp E0 [(N0 + 3, some ⟨3, 1, encL rI l1⟩)] (N0 + 5)) (fun K hK => ?_) ?_
   ·
    skip
    simp -dsimp -implicitDefEqProofs (maxDischargeDepth := 6) [q1, appe22 hl1]
    exact hK _ _ ⟨rfl, rfl⟩
   rintro a σ ⟨rfl, rfl⟩
   replace H := Option.some.inj H; subst H
   refine AWP_kp [2] [(2, .sl (N0 + 3) 0 l1.length)] rfl ?_
   refine AWP_ret ?_
   refine ⟨[.sl (N0 + 3) 0 l1.length], by simp, N0 + 5, N0 + 3, by omega, by omega, by omega, ?_, ?_⟩
   ·
    simp [encL_nil]
   ·
    first | rfl | simp [List.set_set]
theorem c16 {p0 : (List Int)} {p1 : (List Int)} {r : Bool} (H : l_eqIntS p0 p1 = some r) : APure Try.prog G 16 [.fsl (encL rI p0), .fsl (encL rI p1)] (.bool r) := by
 refine APure_fn (fun N0 => ?_) (by simp)
 refine ACalls_fn tok Try.func16 (by kernel_rfl) rfl Try.ntmps16 Try.results16 rfl ?_
 simp only [argsA, Nat.reduceAdd, hp_next]
 unfold l_eqIntS at H
 refine AWP_sr tok [] [0, 1] (fun a σ => a = [(0, .fsl (encL rI p0)), (1, .fsl (encL rI p1))] ∧ σ = hp E0 [] (N0 + 1)) (fun K hK => ?_) ?_
 ·
  skip
  simp -dsimp -implicitDefEqProofs (maxDischargeDepth := 6)
  exact hK _ _ ⟨rfl, rfl⟩
 rintro a σ ⟨rfl, rfl⟩
 refine AWP_sq [0, 1] fun K1 hK1 => ?_
 refine AWP_sr tok [] [0, 1, 10] (fun a σ => a = [(0, .fsl (encL rI p0)), (1, .fsl (encL rI p1)), (10, .bool (ine (ilen p0) (ilen p1)))] ∧ σ = hp E0 [] (N0 + 6)) (fun K hK => ?_) ?_
 ·
  skip
  simp -dsimp -implicitDefEqProofs (maxDischargeDepth := 6)
  exact hK _ _ ⟨rfl, rfl⟩
 rintro a σ ⟨rfl, rfl⟩
 refine AWP_cond (ine (ilen p0) (ilen p1)) rfl (fun C1 => ?_) (fun C1 => ?_)
 ·
  replace H := ifT C1 H
  refine AWP_sr tok [] [4] (fun a σ => a = [(4, .bool false)] ∧ σ = hp E0 [] (N0 + 7)) (fun K hK => ?_) ?_
  ·
   skip
   simp -dsimp -implicitDefEqProofs (maxDischargeDepth := 6)
   exact hK _ _ ⟨rfl, rfl⟩
  rintro a σ ⟨rfl, rfl⟩
  replace H := Option.some.inj H; subst H
  refine AWP_kp [4] [(4, .bool false)] rfl ?_
  refine AWP_ret ?_
  exact ⟨[.bool false], by simp, 4, by simp [encL_nil]⟩
 ·
  replace H := ifF C1 H
  refine AWP_skip ?_
  show K1 _ _
  refine keepE (l := [0, 1]) (x := [(0, .fsl (encL rI p0)), (1, .fsl (encL rI p1))]) rfl fun a' ha => ?_
  refine hK1 _ _ ?_; rw [ha]
  refine Rc.mk ?_
  refine AWP_sq [] fun K2 hK2 => ?_
  refine AWP_sr tok [] [0, 1, 5] (fun a σ => a = [(0, .fsl (encL rI p0)), (1, .fsl (encL rI p1)), (5, .int .i64 0)] ∧ σ = hp E0 [] (N0 + 7)) (fun K hK => ?_) ?_
  ·
   skip
   simp -dsimp -implicitDefEqProofs (maxDischargeDepth := 6)
   exact hK _ _ ⟨rfl, rfl⟩
  rintro a σ ⟨rfl, rfl⟩
  refine AWP_block (AWP_thenB ?_)
  obtain ⟨e1, hse1, H⟩ := bindE H
  refine AWP_lp [0, 1, 5] (fun s a σ => ∃ M1 : Nat, N0 ≤ M1 ∧ a = [(0, .fsl (encL rI p0)), (1, .fsl (encL rI p1)), (5, .int .i64 s)] ∧ σ = hp E0 [] M1) (fun e x a σ => match e with | .inl s => x = .exit 0 ∧ Rc G 26 N0 (fun a σ => ∃ M2 : Nat, N0 ≤ M2 ∧ a = [] ∧ σ = hp E0 [] M2) (AAct.keep a []) σ | .inr s => x = .ret ∧ ∃ vs, resA T σ a [.tmp 4] = some vs ∧ ∃ d, thawA (fun _ => true) σ d (tupA vs) = .bool s) hse1 ?_ ?_ ?_
  ·
   refine Rc.kp [0, 1, 5] [(0, .fsl (encL rI p0)), (1, .fsl (encL rI p1)), (5, .int .i64 0)] rfl ?_
   exact Rc.fin (AHeap.Sub.refl _) ⟨N0 + 7, (by omega), rfl, rfl⟩
  ·
   clear H hse1
   rintro s1 fl a σ H ⟨M1, fM1_0, rfl, rfl⟩ K3 O3 hK3 hO3
   unfold l_eqIntS_L1 at H; dsimp only at H
   refine AWP_sq [0, 1, 5] fun K4 hK4 => ?_
   refine AWP_sr tok [] [0, 1, 5, 14] (fun a σ => a = [(0, .fsl (encL rI p0)), (1, .fsl (encL rI p1)), (5, .int .i64 s1), (14, .bool (ilt s1 (ilen p0)))] ∧ σ = hp E0 [] (M1 + 4)) (fun K hK => ?_) ?_
   ·
    skip
    simp -dsimp -implicitDefEqProofs (maxDischargeDepth := 6)
    exact hK _ _ ⟨rfl, rfl⟩
   rintro a σ ⟨rfl, rfl⟩
   refine AWP_cond (ilt s1 (ilen p0)) rfl (fun C2 => ?_) (fun C2 => ?_)
   ·
    replace H := ifT C2 H
    refine AWP_skip ?_
    show K4 _ _
    refine keepE (l := [0, 1, 5]) (x := [(0, .fsl (encL rI p0)), (1, .fsl (encL rI p1)), (5, .int .i64 s1)]) rfl fun a' ha => ?_
    refine hK4 _ _ ?_; rw [ha]
    refine Rc.mk ?_
    refine AWP_sq [0, 1, 5] fun K5 hK5 => ?_
    refine AWP_block (AWP_thenB ?_)
    obtain ⟨v2, hv2, H⟩ := bindE H
    obtain ⟨v3, hv3, H⟩ := bindE H
    refine AWP_sd tok tokM [] [] [0, 1, 2, 3, 4, 5, 6, 7, 8] [0, 1, 5, 25] (fun a σ => a = [(0, .fsl (encL rI p0)), (1, .fsl (encL rI p1)), (5, .int .i64 s1), (25, .bool (ine v2 v3))] ∧ σ = hp E0 [] (M1 + 13)) (by decide) (fun K hK => ?_) ?_
    ·
     simp only [pickL, nthO_succ, nthO_zero]
     simp -dsimp -implicitDefEqProofs (maxDischargeDepth := 6) [ix22 hv2, ix22 hv3]
     exact hK _ _ ⟨rfl, rfl⟩
    rintro a σ ⟨rfl, rfl⟩
    refine AWP_cond (ine v2 v3) rfl (fun C3 => ?_) (fun C3 => ?_)
    ·
     replace H := ifT C3 H
     refine AWP_sr tok [] [4] (fun a σ => a = [(4, .bool false)] ∧ σ = hp E0 [] (M1 + 14)) (fun K hK => ?_) ?_
     ·
      skip
      simp -dsimp -implicitDefEqProofs (maxDischargeDepth := 6)
      exact hK _ _ ⟨rfl, rfl⟩
     rintro a σ ⟨rfl, rfl⟩
     replace H := Option.some.inj H; subst H
     refine AWP_kp [4] [(4, .bool false)] rfl ?_
     refine AWP_ret (hO3 _ _ _ _ rfl ⟨rfl, ?_⟩)
     exact ⟨[.bool false], by simp, 4, by simp [encL_nil]⟩
    ·
     replace H := ifF C3 H
     refine AWP_skip ?_
     show K5 _ _
     refine keepE (l := [0, 1, 5]) (x := [(0, .fsl (encL rI p0)), (1, .fsl (encL rI p1)), (5, .int .i64 s1)]) rfl fun a' ha => ?_
     refine hK5 _ _ ?_; rw [ha]
     refine Rc.mk ?_
     refine AWP_rt tok [] [0, 1, 5] (fun a σ => a = [(0, .fsl (encL rI p0)), (1, .fsl (encL rI p1)), (5, .int .i64 (iadd .i64 s1 1))] ∧ σ = hp E0 [] (M1 + 16)) (fun K hK => ?_) ?_
     ·
      skip
      simp -dsimp -implicitDefEqProofs (maxDischargeDepth := 6)
      exact hK _ _ ⟨rfl, rfl⟩
     rintro a σ ⟨ha, rfl⟩
     replace H := Option.some.inj H; subst H
     refine hK3 _ _ _ rfl ?_; rw [ha]
     exact Rc.fin (AHeap.Sub.refl _) ⟨M1 + 16, (by omega), rfl, rfl⟩
   ·
    replace H := ifF C2 H
    replace H := Option.some.inj H; subst H
    refine AWP_exit (hO3 _ _ _ _ rfl ⟨rfl, ?_⟩)
    refine Rc.rw (l := []) (X := []) rfl ?_
    exact Rc.fin (AHeap.Sub.refl _) ⟨M1 + 4, (by omega), rfl, rfl⟩
  ·
   intro x a σ hx
   rcases e1 with ⟨⟩ | r0
   ·
    obtain ⟨rfl, b, τ, hr, M2, fM2_0, rfl, rfl⟩ := hx
    dsimp only at H
    show K2 _ _
    refine hK2 _ _ (Rc_ref hr ?_)
    refine Rc.mk ?_
    refine AWP_sr tok [] [4] (fun a σ => a = [(4, .bool true)] ∧ σ = hp E0 [] (M2 + 1)) (fun K hK => ?_) ?_
    ·
     skip
     simp -dsimp -implicitDefEqProofs (maxDischargeDepth := 6)
     exact hK _ _ ⟨rfl, rfl⟩
    rintro a σ ⟨rfl, rfl⟩
    replace H := Option.some.inj H; subst H
    refine AWP_kp [4] [(4, .bool true)] rfl ?_
    refine AWP_ret ?_
    exact ⟨[.bool true], by simp, 4, by simp [encL_nil]⟩
   ·
    obtain ⟨rfl, hx2⟩ := hx
    dsimp only at H
    replace H := Option.some.inj H; subst H; exact hx2
theorem c14 {p0 : gMachine} {p1 : gMachine} {r : Bool} (H : l_eqMachine p0 p1 = some r) : APure Try.prog G 14 [.agg [.fsl (encL rI p0.Regs), .int .i64 p0.Pc, .fsl (encL rI p0.Mem)], .agg [.fsl (encL rI p1.Regs), .int .i64 p1.Pc, .fsl (encL rI p1.Mem)]] (.bool r) := by
 refine APure_fn (fun N0 => ?_) (by simp)
 refine ACalls_fn tok Try.func14 (by kernel_rfl) rfl Try.ntmps14 Try.results14 rfl ?_
 simp only [argsA, Nat.reduceAdd, hp_next]
 unfold l_eqMachine at H
 refine AWP_sr tok [0, 1] [2, 3] (fun a σ => a = [(2, .fptr [.fsl (encL rI p0.Regs), .int .i64 p0.Pc, .fsl (encL rI p0.Mem)] 0), (3, .fptr [.fsl (encL rI p1.Regs), .int .i64 p1.Pc, .fsl (encL rI p1.Mem)] 0)] ∧ σ = hp E0 [] (N0 + 3)) (fun K hK => ?_) ?_
 ·
  skip
  simp -dsimp -implicitDefEqProofs (maxDischargeDepth := 6)
  exact hK _ _ ⟨rfl, rfl⟩
 rintro a σ ⟨rfl, rfl⟩
 refine AWP_sq [2, 3] fun K1 hK1 => ?_
 obtain ⟨r1, hr1, H⟩ := bindE H
 refine AWP_sr tok [] [2, 3, 10] (fun a σ => a = [(2, .fptr [.fsl (encL rI p0.Regs), .int .i64 p0.Pc, .fsl (encL rI p0.Mem)] 0), (3, .fptr [.fsl (encL rI p1.Regs), .int .i64 p1.Pc, .fsl (encL rI p1.Mem)] 0), (10, .bool (bnot r1))] ∧ σ = hp E0 [] (N0 + 9)) (fun K hK => ?_) ?_
 ·
  skip
  simp -dsimp -implicitDefEqProofs (maxDischargeDepth := 6)
  refine (c16 hr1).app ?_; try simp -dsimp -implicitDefEqProofs (maxDischargeDepth := 6)
  exact hK _ _ ⟨rfl, rfl⟩
 rintro a σ ⟨rfl, rfl⟩
 refine AWP_cond (bnot r1) rfl (fun C1 => ?_) (fun C1 => ?_)
 ·
  replace H := ifT C1 H
  refine AWP_sr tok [] [4] (fun a σ => a = [(4, .bool false)] ∧ σ = hp E0 [] (N0 + 10)) (fun K hK => ?_) ?_
  ·
   skip
   simp -dsimp -implicitDefEqProofs (maxDischargeDepth := 6)
   exact hK _ _ ⟨rfl, rfl⟩
  rintro a σ ⟨rfl, rfl⟩
  replace H := Option.some.inj H; subst H
  refine AWP_kp [4] [(4, .bool false)] rfl ?_
  refine AWP_ret ?_
  exact ⟨[.bool false], by simp, 4, by simp [encL_nil]⟩
 ·
  replace H := ifF C1 H
  refine AWP_skip ?_
  show K1 _ _
  refine keepE (l := [2, 3]) (x := [(2, .fptr [.fsl (encL rI p0.Regs), .int .i64 p0.Pc, .fsl (encL rI p0.Mem)] 0), (3, .fptr [.fsl (encL rI p1.Regs), .int .i64 p1.Pc, .fsl (encL rI p1.Mem)] 0)]) rfl fun a' ha => ?_
  refine hK1 _ _ ?_; rw [ha]
  refine Rc.mk ?_
  refine AWP_sq [2, 3] fun K2 hK2 => ?_
  refine AWP_sr tok [] [2, 3, 15] (fun a σ => a = [(2, .fptr [.fsl (encL rI p0.Regs), .int .i64 p0.Pc, .fsl (encL rI p0.Mem)] 0), (3, .fptr [.fsl (encL rI p1.Regs), .int .i64 p1.Pc, .fsl (encL rI p1.Mem)] 0), (15, .bool (ine p0.Pc p1.Pc))] ∧ σ = hp E0 [] (N0 + 14)) (fun K hK => ?_) ?_
  ·
   skip
   simp -dsimp -implicitDefEqProofs (maxDischargeDepth := 6)
   exact hK _ _ ⟨rfl, rfl⟩
  rintro a σ ⟨rfl, rfl⟩
  refine AWP_cond (ine p0.Pc p1.Pc) rfl (fun C2 => ?_) (fun C2 => ?_)
  ·
   replace H := ifT C2 H
   refine AWP_sr tok [] [4] (fun a σ => a = [(4, .bool false)] ∧ σ = hp E0 [] (N0 + 15)) (fun K hK => ?_) ?_
   ·
    skip
    simp -dsimp -implicitDefEqProofs (maxDischargeDepth := 6)
    exact hK _ _ ⟨rfl, rfl⟩
   rintro a σ ⟨rfl, rfl⟩
   replace H := Option.some.inj H; subst H
   refine AWP_kp [4] [(4, .bool false)] rfl ?_
   refine AWP_ret ?_
   exact ⟨[.bool false], by simp, 4, by simp [encL_nil]⟩
  ·
   replace H := ifF C2 H
   refine AWP_skip ?_
   show K2 _ _
   refine keepE (l := [2, 3]) (x := [(2, .fptr [.fsl (encL rI p0.Regs), .int .i64 p0.Pc, .fsl (encL rI p0.Mem)] 0), (3, .fptr [.fsl (encL rI p1.Regs), .int .i64 p1.Pc, .fsl (encL rI p1.Mem)] 0)]) rfl fun a' ha => ?_
   refine hK2 _ _ ?_; rw [ha]
   refine Rc.mk ?_
   refine AWP_sq [] fun K3 hK3 => ?_
   obtain ⟨r2, hr2, H⟩ := bindE H
   refine AWP_sr tok [] [21] (fun a σ => a = [(21, .bool (bnot r2))] ∧ σ = hp E0 [] (N0 + 20)) (fun K hK => ?_) ?_
   ·
    skip
    simp -dsimp -implicitDefEqProofs (maxDischargeDepth := 6)
    refine (c16 hr2).app ?_; try simp -dsimp -implicitDefEqProofs (maxDischargeDepth := 6)
    exact hK _ _ ⟨rfl, rfl⟩
   rintro a σ ⟨rfl, rfl⟩
   refine AWP_cond (bnot r2) rfl (fun C3 => ?_) (fun C3 => ?_)
   ·
    replace H := ifT C3 H
    refine AWP_sr tok [] [4] (fun a σ => a = [(4, .bool false)] ∧ σ = hp E0 [] (N0 + 21)) (fun K hK => ?_) ?_
    ·
     skip
     simp -dsimp -implicitDefEqProofs (maxDischargeDepth := 6)
     exact hK _ _ ⟨rfl, rfl⟩
    rintro a σ ⟨rfl, rfl⟩
    replace H := Option.some.inj H; subst H
    refine AWP_kp [4] [(4, .bool false)] rfl ?_
    refine AWP_ret ?_
    exact ⟨[.bool false], by simp, 4, by simp [encL_nil]⟩
   ·
    replace H := ifF C3 H
    refine AWP_skip ?_
    show K3 _ _
    refine keepE (l := []) (x := []) rfl fun a' ha => ?_
    refine hK3 _ _ ?_; rw [ha]
    refine Rc.mk ?_
    refine AWP_sr tok [] [4] (fun a σ => a = [(4, .bool true)] ∧ σ = hp E0 [] (N0 + 21)) (fun K hK => ?_) ?_
    ·
     skip
     simp -dsimp -implicitDefEqProofs (maxDischargeDepth := 6)
     exact hK _ _ ⟨rfl, rfl⟩
    rintro a σ ⟨rfl, rfl⟩
    replace H := Option.some.inj H; subst H
    refine AWP_kp [4] [(4, .bool true)] rfl ?_
    refine AWP_ret ?_
    exact ⟨[.bool true], by simp, 4, by simp [encL_nil]⟩
theorem c55 {p0 : gBox} {p1 : gBox} {r : Bool} (H : l_eqBox p0 p1 = some r) : APure Try.prog G 55 [.agg [.int .i64 p0.Room, .fsl (encL rI p0.Items)], .agg [.int .i64 p1.Room, .fsl (encL rI p1.Items)]] (.bool r) := by
 refine APure_fn (fun N0 => ?_) (by simp)
 refine ACalls_fn tok Try.func55 (by kernel_rfl) rfl Try.ntmps55 Try.results55 rfl ?_
 simp only [argsA, Nat.reduceAdd, hp_next]
 unfold l_eqBox at H
 refine AWP_sr tok [0, 1] [2, 3] (fun a σ => a = [(2, .fptr [.int .i64 p0.Room, .fsl (encL rI p0.Items)] 0), (3, .fptr [.int .i64 p1.Room, .fsl (encL rI p1.Items)] 0)] ∧ σ = hp E0 [] (N0 + 3)) (fun K hK => ?_) ?_
 ·
  skip
  simp -dsimp -implicitDefEqProofs (maxDischargeDepth := 6)
  exact hK _ _ ⟨rfl, rfl⟩
 rintro a σ ⟨rfl, rfl⟩
 refine AWP_sq [2, 3] fun K1 hK1 => ?_
 refine AWP_sr tok [] [2, 3, 9] (fun a σ => a = [(2, .fptr [.int .i64 p0.Room, .fsl (encL rI p0.Items)] 0), (3, .fptr [.int .i64 p1.Room, .fsl (encL rI p1.Items)] 0), (9, .bool (ine p0.Room p1.Room))] ∧ σ = hp E0 [] (N0 + 8)) (fun K hK => ?_) ?_
 ·
  skip
  simp -dsimp -implicitDefEqProofs (maxDischargeDepth := 6)
  exact hK _ _ ⟨rfl, rfl⟩
 rintro a σ ⟨rfl, rfl⟩
 refine AWP_cond (ine p0.Room p1.Room) rfl (fun C1 => ?_) (fun C1 => ?_)
 ·
  replace H := ifT C1 H
  refine AWP_sr tok [] [4] (fun a σ => a = [(4, .bool false)] ∧ σ = hp E0 [] (N0 + 9)) (fun K hK => ?_) ?_
  ·
   skip
   simp -dsimp -implicitDefEqProofs (maxDischargeDepth := 6)
   exact hK _ _ ⟨rfl, rfl⟩
  rintro a σ ⟨rfl, rfl⟩
  replace H := Option.some.inj H; subst H
  refine AWP_kp [4] [(4, .bool false)] rfl ?_
  refine AWP_ret ?_
  exact ⟨[.bool false], by simp, 4, by simp [encL_nil]⟩
 ·
  replace H := ifF C1 H
  refine AWP_skip ?_
  show K1 _ _
  refine keepE (l := [2, 3]) (x := [(2, .fptr [.int .i64 p0.Room, .fsl (encL rI p0.Items)] 0), (3, .fptr [.int .i64 p1.Room, .fsl (encL rI p1.Items)] 0)]) rfl fun a' ha => ?_
  refine hK1 _ _ ?_; rw [ha]
  refine Rc.mk ?_
  refine AWP_sq [] fun K2 hK2 => ?_
  obtain ⟨r1, hr1, H⟩ := bindE H
  refine AWP_sr tok [] [15] (fun a σ => a = [(15, .bool (bnot r1))] ∧ σ = hp E0 [] (N0 + 14)) (fun K hK => ?_) ?_
  ·
   skip
   simp -dsimp -implicitDefEqProofs (maxDischargeDepth := 6)
   refine (c16 hr1).app ?_; try simp -dsimp -implicitDefEqProofs (maxDischargeDepth := 6)
   exact hK _ _ ⟨rfl, rfl⟩
  rintro a σ ⟨rfl, rfl⟩
  refine AWP_cond (bnot r1) rfl (fun C2 => ?_) (fun C2 => ?_)
  ·
   replace H := ifT C2 H
   refine AWP_sr tok [] [4] (fun a σ => a = [(4, .bool false)] ∧ σ = hp E0 [] (N0 + 15)) (fun K hK => ?_) ?_
   ·
    skip
    simp -dsimp -implicitDefEqProofs (maxDischargeDepth := 6)
    exact hK _ _ ⟨rfl, rfl⟩
   rintro a σ ⟨rfl, rfl⟩
   replace H := Option.some.inj H; subst H
   refine AWP_kp [4] [(4, .bool false)] rfl ?_
   refine AWP_ret ?_
   exact ⟨[.bool false], by simp, 4, by simp [encL_nil]⟩
  ·
   replace H := ifF C2 H
   refine AWP_skip ?_
   show K2 _ _
   refine keepE (l := []) (x := []) rfl fun a' ha => ?_
   refine hK2 _ _ ?_; rw [ha]
   refine Rc.mk ?_
   refine AWP_sr tok [] [4] (fun a σ => a = [(4, .bool true)] ∧ σ = hp E0 [] (N0 + 15)) (fun K hK => ?_) ?_
   ·
    skip
    simp -dsimp -implicitDefEqProofs (maxDischargeDepth := 6)
    exact hK _ _ ⟨rfl, rfl⟩
   rintro a σ ⟨rfl, rfl⟩
   replace H := Option.some.inj H; subst H
   refine AWP_kp [4] [(4, .bool true)] rfl ?_
   refine AWP_ret ?_
   exact ⟨[.bool true], by simp, 4, by simp [encL_nil]⟩
theorem c15 {p0 : (List gBox)} {p1 : (List gBox)} {r : Bool} (H : l_eqBoxS p0 p1 = some r) : APure Try.prog G 15 [.fsl (encL rBox p0), .fsl (encL rBox p1)] (.bool r) := by
 refine APure_fn (fun N0 => ?_) (by simp)
 refine ACalls_fn tok Try.func15 (by kernel_rfl) rfl Try.ntmps15 Try.results15 rfl ?_
 simp only [argsA, Nat.reduceAdd, hp_next]
 unfold l_eqBoxS at H
 refine AWP_sr tok [] [0, 1] (fun a σ => a = [(0, .fsl (encL rBox p0)), (1, .fsl (encL rBox p1))] ∧ σ = hp E0 [] (N0 + 1)) (fun K hK => ?_) ?_
 ·
  skip
  simp -dsimp -implicitDefEqProofs (maxDischargeDepth := 6)
  exact hK _ _ ⟨rfl, rfl⟩
 rintro a σ ⟨rfl, rfl⟩
 refine AWP_sq [0, 1] fun K1 hK1 => ?_
 refine AWP_sr tok [] [0, 1, 10] (fun a σ => a = [(0, .fsl (encL rBox p0)), (1, .fsl (encL rBox p1)), (10, .bool (ine (ilen p0) (ilen p1)))] ∧ σ = hp E0 [] (N0 + 6)) (fun K hK => ?_) ?_
 ·
  skip
  simp -dsimp -implicitDefEqProofs (maxDischargeDepth := 6)
  exact hK _ _ ⟨rfl, rfl⟩
 rintro a σ ⟨rfl, rfl⟩
 refine AWP_cond (ine (ilen p0) (ilen p1)) rfl (fun C1 => ?_) (fun C1 => ?_)
 ·
  replace H := ifT C1 H
  refine AWP_sr tok [] [4] (fun a σ => a = [(4, .bool false)] ∧ σ = hp E0 [] (N0 + 7)) (fun K hK => ?_) ?_
  ·
   skip
   simp -dsimp -implicitDefEqProofs (maxDischargeDepth := 6)
   exact hK _ _ ⟨rfl, rfl⟩
  rintro a σ ⟨rfl, rfl⟩
  replace H := Option.some.inj H; subst H
  refine AWP_kp [4] [(4, .bool false)] rfl ?_
  refine AWP_ret ?_
  exact ⟨[.bool false], by simp, 4, by simp [encL_nil]⟩
 ·
  replace H := ifF C1 H
  refine AWP_skip ?_
  show K1 _ _
  refine keepE (l := [0, 1]) (x := [(0, .fsl (encL rBox p0)), (1, .fsl (encL rBox p1))]) rfl fun a' ha => ?_
  refine hK1 _ _ ?_; rw [ha]
  refine Rc.mk ?_
  refine AWP_sq [] fun K2 hK2 => ?_
  refine AWP_sr tok [] [0, 1, 5] (fun a σ => a = [(0, .fsl (encL rBox p0)), (1, .fsl (encL rBox p1)), (5, .int .i64 0)] ∧ σ = hp E0 [] (N0 + 7)) (fun K hK => ?_) ?_
  ·
   skip
   simp -dsimp -implicitDefEqProofs (maxDischargeDepth := 6)
   exact hK _ _ ⟨rfl, rfl⟩
  rintro a σ ⟨rfl, rfl⟩
  refine AWP_block (AWP_thenB ?_)
  obtain ⟨e1, hse1, H⟩ := bindE H
  refine AWP_lp [0, 1, 5] (fun s a σ => ∃ M1 : Nat, N0 ≤ M1 ∧ a = [(0, .fsl (encL rBox p0)), (1, .fsl (encL rBox p1)), (5, .int .i64 s)] ∧ σ = hp E0 [] M1) (fun e x a σ => match e with | .inl s => x = .exit 0 ∧ Rc G 27 N0 (fun a σ => ∃ M2 : Nat, N0 ≤ M2 ∧ a = [] ∧ σ = hp E0 [] M2) (AAct.keep a []) σ | .inr s => x = .ret ∧ ∃ vs, resA T σ a [.tmp 4] = some vs ∧ ∃ d, thawA (fun _ => true) σ d (tupA vs) = .bool s) hse1 ?_ ?_ ?_
  ·
   refine Rc.kp [0, 1, 5] [(0, .fsl (encL rBox p0)), (1, .fsl (encL rBox p1)), (5, .int .i64 0)] rfl ?_
   exact Rc.fin (AHeap.Sub.refl _) ⟨N0 + 7, (by omega), rfl, rfl⟩
  ·
   clear H hse1
   rintro s1 fl a σ H ⟨M1, fM1_0, rfl, rfl⟩ K3 O3 hK3 hO3
   unfold l_eqBoxS_L1 at H; dsimp only at H
   refine AWP_sq [0, 1, 5] fun K4 hK4 => ?_
   refine AWP_sr tok [] [0, 1, 5, 14] (fun a σ => a = [(0, .fsl (encL rBox p0)), (1, .fsl (encL rBox p1)), (5, .int .i64 s1), (14, .bool (ilt s1 (ilen p0)))] ∧ σ = hp E0 [] (M1 + 4)) (fun K hK => ?_) ?_
   ·
    skip
    simp -dsimp -implicitDefEqProofs (maxDischargeDepth := 6)
    exact hK _ _ ⟨rfl, rfl⟩
   rintro a σ ⟨rfl, rfl⟩
   refine AWP_cond (ilt s1 (ilen p0)) rfl (fun C2 => ?_) (fun C2 => ?_)
   ·
    replace H := ifT C2 H
    refine AWP_skip ?_
    show K4 _ _
    refine keepE (l := [0, 1, 5]) (x := [(0, .fsl (encL rBox p0)), (1, .fsl (encL rBox p1)), (5, .int .i64 s1)]) rfl fun a' ha => ?_
    refine hK4 _ _ ?_; rw [ha]
    refine Rc.mk ?_
    refine AWP_sq [0, 1, 5] fun K5 hK5 => ?_
    refine AWP_block (AWP_thenB ?_)
    obtain ⟨v2, hv2, H⟩ := bindE H
    obtain ⟨v3, hv3, H⟩ := bindE H
    obtain ⟨r4, hr4, H⟩ := bindE H
    refine AWP_sd tok tokM [] [] [0, 1, 2, 3, 4, 5, 6, 7, 8, 9] [0, 1, 5, 26] (fun a σ => a = [(0, .fsl (encL rBox p0)), (1, .fsl (encL rBox p1)), (5, .int .i64 s1), (26, .bool (bnot r4))] ∧ σ = hp E0 [] (M1 + 14)) (by decide) (fun K hK => ?_) ?_
    ·
     simp only [pickL, nthO_succ, nthO_zero]
     simp -dsimp -implicitDefEqProofs (maxDischargeDepth := 6) [ix29 hv2, ix29 hv3]
     refine Pc.mk (c55 hr4) ?_; try simp -dsimp -implicitDefEqProofs (maxDischargeDepth := 6) [ix29 hv2, ix29 hv3]
     exact hK _ _ ⟨rfl, rfl⟩
    rintro a σ ⟨rfl, rfl⟩
    refine AWP_cond (bnot r4) rfl (fun C3 => ?_) (fun C3 => ?_)
    ·
     replace H := ifT C3 H
     refine AWP_sr tok [] [4] (fun a σ => a = [(4, .bool false)] ∧ σ = hp E0 [] (M1 + 15)) (fun K hK => ?_) ?_
     ·
      skip
      simp -dsimp -implicitDefEqProofs (maxDischargeDepth := 6)
      exact hK _ _ ⟨rfl, rfl⟩
     rintro a σ ⟨rfl, rfl⟩
     replace H := Option.some.inj H; subst H
     refine AWP_kp [4] [(4, .bool false)] rfl ?_
     refine AWP_ret (hO3 _ _ _ _ rfl ⟨rfl, ?_⟩)
     exact ⟨[.bool false], by simp, 4, by simp [encL_nil]⟩
    ·
     replace H := ifF C3 H
     refine AWP_skip ?_
     show K5 _ _
     refine keepE (l := [0, 1, 5]) (x := [(0, .fsl (encL rBox p0)), (1, .fsl (encL rBox p1)), (5, .int .i64 s1)]) rfl fun a' ha => ?_
     refine hK5 _ _ ?_; rw [ha]
     refine Rc.mk ?_
     refine AWP_rt tok [] [0, 1, 5] (fun a σ => a = [(0, .fsl (encL rBox p0)), (1, .fsl (encL rBox p1)), (5, .int .i64 (iadd .i64 s1 1))] ∧ σ = hp E0 [] (M1 + 17)) (fun K hK => ?_) ?_
     ·
      skip
      simp -dsimp -implicitDefEqProofs (maxDischargeDepth := 6)
      exact hK _ _ ⟨rfl, rfl⟩
     rintro a σ ⟨ha, rfl⟩
     replace H := Option.some.inj H; subst H
     refine hK3 _ _ _ rfl ?_; rw [ha]
     exact Rc.fin (AHeap.Sub.refl _) ⟨M1 + 17, (by omega), rfl, rfl⟩
   ·
    replace H := ifF C2 H
    replace H := Option.some.inj H; subst H
    refine AWP_exit (hO3 _ _ _ _ rfl ⟨rfl, ?_⟩)
    refine Rc.rw (l := []) (X := []) rfl ?_
    exact Rc.fin (AHeap.Sub.refl _) ⟨M1 + 4, (by omega), rfl, rfl⟩
  ·
   intro x a σ hx
   rcases e1 with ⟨⟩ | r0
   ·
    obtain ⟨rfl, b, τ, hr, M2, fM2_0, rfl, rfl⟩ := hx
    dsimp only at H
    show K2 _ _
    refine hK2 _ _ (Rc_ref hr ?_)
    refine Rc.mk ?_
    refine AWP_sr tok [] [4] (fun a σ => a = [(4, .bool true)] ∧ σ = hp E0 [] (M2 + 1)) (fun K hK => ?_) ?_
    ·
     skip
     simp -dsimp -implicitDefEqProofs (maxDischargeDepth := 6)
     exact hK _ _ ⟨rfl, rfl⟩
    rintro a σ ⟨rfl, rfl⟩
    replace H := Option.some.inj H; subst H
    refine AWP_kp [4] [(4, .bool true)] rfl ?_
    refine AWP_ret ?_
    exact ⟨[.bool true], by simp, 4, by simp [encL_nil]⟩
   ·
    obtain ⟨rfl, hx2⟩ := hx
    dsimp only at H
    replace H := Option.some.inj H; subst H; exact hx2
theorem c19 {p0 : (List Int)} {p1 : Int} {r : Int × (List Int)} (H : l_markIntS p0 p1 = some r) {σ : AHeap} {w0 : Nat} (q0 : σ.objs w0 = some ⟨3, 1, encL rI p0⟩) : ACalls Try.prog G 19 [.sl w0 0 p0.length, .int .i64 p1] σ (fun v σ' => ∃ M : Nat, σ.next ≤ M ∧ r.2.length = p0.length ∧ v = .int .i64 r.1 ∧ σ' = hp σ.objs [(w0, some ⟨3, 1, encL rI r.2⟩)] M) := by
 refine ACalls_fr (L := [(w0, some ⟨3, 1, encL rI p0⟩)]) (Q1 := fun v σ' => ∃ M : Nat, σ.next ≤ M ∧ r.2.length = p0.length ∧ v = .int .i64 r.1 ∧ σ' = hp E0 [(w0, some ⟨3, 1, encL rI r.2⟩)] M) (by simp [q0]) (fun hlt => ?_) ?_ ⟨_, Try.func19, rfl, rfl⟩
 rotate_left
 ·
  rintro v σ1 ⟨M, h0, h1, rfl, rfl⟩
  exact ⟨_, M, rfl, by simp, by simp; try omega, M, h0, h1, rfl, rfl⟩
 generalize σ.next = N0 at hlt ⊢
 have lw0 : w0 < N0 := hlt _ (.head _) rfl
 refine ACalls_fn tok Try.func19 (by kernel_rfl) rfl Try.ntmps19 Try.results19 rfl ?_
 simp only [argsA, Nat.reduceAdd, hp_next]
 unfold l_markIntS at H
 refine AWP_sr tok [] [0, 1] (fun a σ => a = [(0, .sl w0 0 p0.length), (1, .int .i64 p1)] ∧ σ = hp E0 [(w0, some ⟨3, 1, encL rI p0⟩)] (N0 + 1)) (fun K hK => ?_) ?_
 ·
  skip
  simp -dsimp -implicitDefEqProofs (maxDischargeDepth := 6)
  exact hK _ _ ⟨rfl, rfl⟩
 rintro a σ ⟨rfl, rfl⟩
 refine AWP_sq [1] fun K1 hK1 => ?_
 refine AWP_sr tok [] [0, 1, 5] (fun a σ => a = [(0, .sl w0 0 p0.length), (1, .int .i64 p1), (5, .int .i64 0)] ∧ σ = hp E0 [(w0, some ⟨3, 1, encL rI p0⟩)] (N0 + 2)) (fun K hK => ?_) ?_
 ·
  skip
  simp -dsimp -implicitDefEqProofs (maxDischargeDepth := 6)
  exact hK _ _ ⟨rfl, rfl⟩
 rintro a σ ⟨rfl, rfl⟩
 refine AWP_block (AWP_thenB ?_)
 obtain ⟨e1, hse1, H⟩ := bindE H
 refine AWP_lp [0, 1, 5] (fun s a σ => ∃ M1 : Nat, N0 ≤ M1 ∧ s.2.2.length = p0.length ∧ a = [(0, .sl w0 0 s.2.2.length), (1, .int .i64 s.1), (5, .int .i64 s.2.1)] ∧ σ = hp E0 [(w0, some ⟨3, 1, encL rI s.2.2⟩)] M1) (fun s x a σ => x = .exit 0 ∧ Rc G 19 N0 (fun a σ => ∃ M2 : Nat, N0 ≤ M2 ∧ s.2.length = p0.length ∧ a = [(1, .int .i64 s.1)] ∧ σ = hp E0 [(w0, some ⟨3, 1, encL rI s.2⟩)] M2) (AAct.keep a [1]) σ) hse1 ?_ ?_ ?_
 ·
  refine Rc.kp [0, 1, 5] [(0, .sl w0 0 p0.length), (1, .int .i64 p1), (5, .int .i64 0)] rfl ?_
  exact Rc.fin (AHeap.Sub.refl _) ⟨N0 + 2, (by omega), (by first | rfl | exact rfl | omega), rfl, rfl⟩
 ·
  clear H hse1
  rintro ⟨s1, s2, s3⟩ fl a σ H ⟨M1, fM1_0, fM1_1, rfl, rfl⟩ K2 O2 hK2 hO2
  unfold l_markIntS_L1 at H; dsimp only at H
  refine AWP_sq [0, 1, 5] fun K3 hK3 => ?_
  refine AWP_sr tok [] [0, 1, 5, 9] (fun a σ => a = [(0, .sl w0 0 s3.length), (1, .int .i64 s1), (5, .int .i64 s2), (9, .bool (ilt s2 (ilen s3)))] ∧ σ = hp E0 [(w0, some ⟨3, 1, encL rI s3⟩)] (M1 + 4)) (fun K hK => ?_) ?_
  ·
   skip
   simp -dsimp -implicitDefEqProofs (maxDischargeDepth := 6)
   exact hK _ _ ⟨rfl, rfl⟩
  rintro a σ ⟨rfl, rfl⟩
  refine AWP_cond (ilt s2 (ilen s3)) rfl (fun C1 => ?_) (fun C1 => ?_)
  ·
   replace H := ifT C1 H
   refine AWP_skip ?_
   show K3 _ _
   refine keepE (l := [0, 1, 5]) (x := [(0, .sl w0 0 s3.length), (1, .int .i64 s1), (5, .int .i64 s2)]) rfl fun a' ha => ?_
   refine hK3 _ _ ?_; rw [ha]
   refine Rc.mk ?_
   refine AWP_sq [0, 1, 5] fun K4 hK4 => ?_
   refine AWP_block (AWP_thenB ?_)
   obtain ⟨v6, hv6, H⟩ := bindE H
   obtain ⟨l7, hl7, H⟩ := bindE H
   refine AWP_sr tok [] [0, 1, 5] (fun a σ => a = [(0, .sl w0 0 s3.length), (1, .int .i64 s1), (5, .int .i64 s2)] ∧ σ = hp E0 [(w0, some ⟨3, 1, encL rI l7⟩)] (M1 + 9)) (fun K hK => ?_) ?_
   ·
    skip
    simp -dsimp -implicitDefEqProofs (maxDischargeDepth := 6) [ixo22 hv6, (idx_lt3 hv6).2.2, (setx_iff.1 hl7).2.symm]
    exact hK _ _ ⟨rfl, rfl⟩
   rintro a σ ⟨rfl, rfl⟩
   try rw [← setx_len hl7]
   refine AWP_rt tok [] [0, 1, 5] (fun a σ => a = [(0, .sl w0 0 l7.length), (1, .int .i64 (iadd .i64 s1 1)), (5, .int .i64 s2)] ∧ σ = hp E0 [(w0, some ⟨3, 1, encL rI l7⟩)] (M1 + 12)) (fun K hK => ?_) ?_
   ·
    skip
    simp -dsimp -implicitDefEqProofs (maxDischargeDepth := 6)
    exact hK _ _ ⟨rfl, rfl⟩
   rintro a σ ⟨ha, rfl⟩
   refine hK4 _ _ ?_; rw [ha]
   refine Rc.mk ?_
   refine AWP_rt tok [] [0, 1, 5] (fun a σ => a = [(0, .sl w0 0 l7.length), (1, .int .i64 (iadd .i64 s1 1)), (5, .int .i64 (iadd .i64 s2 1))] ∧ σ = hp E0 [(w0, some ⟨3, 1, encL rI l7⟩)] (M1 + 15)) (fun K hK => ?_) ?_
   ·
    skip
    simp -dsimp -implicitDefEqProofs (maxDischargeDepth := 6)
    exact hK _ _ ⟨rfl, rfl⟩
   rintro a σ ⟨ha, rfl⟩
   replace H := Option.some.inj H; subst H
   refine hK2 _ _ _ rfl ?_; rw [ha]
   exact Rc.fin (AHeap.Sub.refl _) ⟨M1 + 15, (by omega), (by first | rfl | exact ((setx_len hl7).trans fM1_1) | omega), rfl, rfl⟩
  ·
   replace H := ifF C1 H
   replace H := Option.some.inj H; subst H
   refine AWP_exit (hO2 _ _ _ _ rfl ⟨rfl, ?_⟩)
   refine Rc.rw (l := [1]) (X := [(1, .int .i64 s1)]) rfl ?_
   exact Rc.fin (AHeap.Sub.refl _) ⟨M1 + 4, (by omega), (by first | rfl | exact fM1_1 | omega), rfl, rfl⟩
 ·
  intro x a σ hx
  obtain ⟨y4, y5⟩ := e1
  obtain ⟨rfl, b, τ, hr, M2, fM2_0, fM2_1, rfl, rfl⟩ := hx
  dsimp only at H
  show K1 _ _
  refine hK1 _ _ (Rc_ref hr ?_)
  refine Rc.mk ?_
  refine AWP_sr tok [] [4] (fun a σ => a = [(4, .int .i64 y4)] ∧ σ = hp E0 [(w0, some ⟨3, 1, encL rI y5⟩)] (M2 + 2)) (fun K hK => ?_) ?_
  ·
   skip
   simp -dsimp -implicitDefEqProofs (maxDischargeDepth := 6)
   exact hK _ _ ⟨rfl, rfl⟩
  rintro a σ ⟨rfl, rfl⟩
  replace H := Option.some.inj H; subst H
  refine AWP_kp [4] [(4, .int .i64 y4)] rfl ?_
  refine AWP_ret ?_
  refine ⟨[.int .i64 y4], by simp, M2 + 2, by omega, by first | rfl | exact fM2_1 | omega, ?_, ?_⟩
  ·
   simp [encL_nil]
  ·
   first | rfl | simp [List.set_set]
end Go.Proofs.Ytoklfbdcghgmlaa
