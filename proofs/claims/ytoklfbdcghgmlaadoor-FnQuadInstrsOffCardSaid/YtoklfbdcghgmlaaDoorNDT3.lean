/- The contracts of functions of the program, part 3: each computes what its mirror computes. No conditions. -/
import Derived.Test.YtoklfbdcghgmlaaDoorNDT2
set_option linter.unusedSimpArgs false
set_option linter.unusedVariables false
set_option maxRecDepth 20000
set_option maxHeartbeats 4000000
namespace Go.Proofs.YtoklfbdcghgmlaaDoor
open Go Go.Abs Go.RowKit

theorem c63 {p0 : gInstr} {p1 : gInstr} {r : Bool} (H : l_eqInstr p0 p1 = some r) : APure Tryd.prog G 63 [.agg [.int .i64 p0.Op, .int .i64 p0.Rd, .int .i64 p0.Rs, .int .i64 p0.Rt, .int .i64 p0.Imm], .agg [.int .i64 p1.Op, .int .i64 p1.Rd, .int .i64 p1.Rs, .int .i64 p1.Rt, .int .i64 p1.Imm]] (.bool r) := by
 refine APure_fn (fun N0 => ?_) (by simp)
 refine ACalls_fn tok Tryd.func63 (by kernel_rfl) rfl Tryd.ntmps63 Tryd.results63 rfl ?_
 simp only [argsA, Nat.reduceAdd, hp_next]
 unfold l_eqInstr at H
 refine AWP_sr tok [0, 1] [2, 3] (fun a σ => a = [(2, .fptr [.int .i64 p0.Op, .int .i64 p0.Rd, .int .i64 p0.Rs, .int .i64 p0.Rt, .int .i64 p0.Imm] 0), (3, .fptr [.int .i64 p1.Op, .int .i64 p1.Rd, .int .i64 p1.Rs, .int .i64 p1.Rt, .int .i64 p1.Imm] 0)] ∧ σ = hp E0 [] (N0 + 3)) (fun K hK => ?_) ?_
 ·
  skip
  simp -dsimp -implicitDefEqProofs (maxDischargeDepth := 6)
  exact hK _ _ ⟨rfl, rfl⟩
 rintro a σ ⟨rfl, rfl⟩
 refine AWP_sq [2, 3] fun K1 hK1 => ?_
 refine AWP_sr tok [] [2, 3, 9] (fun a σ => a = [(2, .fptr [.int .i64 p0.Op, .int .i64 p0.Rd, .int .i64 p0.Rs, .int .i64 p0.Rt, .int .i64 p0.Imm] 0), (3, .fptr [.int .i64 p1.Op, .int .i64 p1.Rd, .int .i64 p1.Rs, .int .i64 p1.Rt, .int .i64 p1.Imm] 0), (9, .bool (ine p0.Op p1.Op))] ∧ σ = hp E0 [] (N0 + 8)) (fun K hK => ?_) ?_
 ·
  skip
  simp -dsimp -implicitDefEqProofs (maxDischargeDepth := 6)
  exact hK _ _ ⟨rfl, rfl⟩
 rintro a σ ⟨rfl, rfl⟩
 refine AWP_cond (ine p0.Op p1.Op) rfl (fun C1 => ?_) (fun C1 => ?_)
 ·
  replace H := ifT C1 H
  refine AWP_sr tok [] [4] (fun a σ => a = [(4, .bool false)] ∧ σ = hp E0 [] (N0 + 9)) (fun K hK => ?_) ?_
  ·
   skip
   simp -dsimp -implicitDefEqProofs (maxDischargeDepth := 6)
   exact hK _ _ ⟨rfl, rfl⟩
  rintro a σ ⟨rfl, rfl⟩
  replace H := Option.some.inj H; subst H
  refine AWP_kp [4] [(4, .bool false)] rfl ?_
  refine AWP_ret ?_
  exact ⟨[.bool false], by simp, 4, by simp [encL_nil]⟩
 ·
  replace H := ifF C1 H
  refine AWP_skip ?_
  show K1 _ _
  refine keepE (l := [2, 3]) (x := [(2, .fptr [.int .i64 p0.Op, .int .i64 p0.Rd, .int .i64 p0.Rs, .int .i64 p0.Rt, .int .i64 p0.Imm] 0), (3, .fptr [.int .i64 p1.Op, .int .i64 p1.Rd, .int .i64 p1.Rs, .int .i64 p1.Rt, .int .i64 p1.Imm] 0)]) rfl fun a' ha => ?_
  refine hK1 _ _ ?_; rw [ha]
  refine Rc.mk ?_
  refine AWP_sq [2, 3] fun K2 hK2 => ?_
  refine AWP_sr tok [] [2, 3, 14] (fun a σ => a = [(2, .fptr [.int .i64 p0.Op, .int .i64 p0.Rd, .int .i64 p0.Rs, .int .i64 p0.Rt, .int .i64 p0.Imm] 0), (3, .fptr [.int .i64 p1.Op, .int .i64 p1.Rd, .int .i64 p1.Rs, .int .i64 p1.Rt, .int .i64 p1.Imm] 0), (14, .bool (ine p0.Rd p1.Rd))] ∧ σ = hp E0 [] (N0 + 13)) (fun K hK => ?_) ?_
  ·
   skip
   simp -dsimp -implicitDefEqProofs (maxDischargeDepth := 6)
   exact hK _ _ ⟨rfl, rfl⟩
  rintro a σ ⟨rfl, rfl⟩
  refine AWP_cond (ine p0.Rd p1.Rd) rfl (fun C2 => ?_) (fun C2 => ?_)
  ·
   replace H := ifT C2 H
   refine AWP_sr tok [] [4] (fun a σ => a = [(4, .bool false)] ∧ σ = hp E0 [] (N0 + 14)) (fun K hK => ?_) ?_
   ·
    skip
    simp -dsimp -implicitDefEqProofs (maxDischargeDepth := 6)
    exact hK _ _ ⟨rfl, rfl⟩
   rintro a σ ⟨rfl, rfl⟩
   replace H := Option.some.inj H; subst H
   refine AWP_kp [4] [(4, .bool false)] rfl ?_
   refine AWP_ret ?_
   exact ⟨[.bool false], by simp, 4, by simp [encL_nil]⟩
  ·
   replace H := ifF C2 H
   refine AWP_skip ?_
   show K2 _ _
   refine keepE (l := [2, 3]) (x := [(2, .fptr [.int .i64 p0.Op, .int .i64 p0.Rd, .int .i64 p0.Rs, .int .i64 p0.Rt, .int .i64 p0.Imm] 0), (3, .fptr [.int .i64 p1.Op, .int .i64 p1.Rd, .int .i64 p1.Rs, .int .i64 p1.Rt, .int .i64 p1.Imm] 0)]) rfl fun a' ha => ?_
   refine hK2 _ _ ?_; rw [ha]
   refine Rc.mk ?_
   refine AWP_sq [2, 3] fun K3 hK3 => ?_
   refine AWP_sr tok [] [2, 3, 19] (fun a σ => a = [(2, .fptr [.int .i64 p0.Op, .int .i64 p0.Rd, .int .i64 p0.Rs, .int .i64 p0.Rt, .int .i64 p0.Imm] 0), (3, .fptr [.int .i64 p1.Op, .int .i64 p1.Rd, .int .i64 p1.Rs, .int .i64 p1.Rt, .int .i64 p1.Imm] 0), (19, .bool (ine p0.Rs p1.Rs))] ∧ σ = hp E0 [] (N0 + 18)) (fun K hK => ?_) ?_
   ·
    skip
    simp -dsimp -implicitDefEqProofs (maxDischargeDepth := 6)
    exact hK _ _ ⟨rfl, rfl⟩
   rintro a σ ⟨rfl, rfl⟩
   refine AWP_cond (ine p0.Rs p1.Rs) rfl (fun C3 => ?_) (fun C3 => ?_)
   ·
    replace H := ifT C3 H
    refine AWP_sr tok [] [4] (fun a σ => a = [(4, .bool false)] ∧ σ = hp E0 [] (N0 + 19)) (fun K hK => ?_) ?_
    ·
     skip
     simp -dsimp -implicitDefEqProofs (maxDischargeDepth := 6)
     exact hK _ _ ⟨rfl, rfl⟩
    rintro a σ ⟨rfl, rfl⟩
    replace H := Option.some.inj H; subst H
    refine AWP_kp [4] [(4, .bool false)] rfl ?_
    refine AWP_ret ?_
    exact ⟨[.bool false], by simp, 4, by simp [encL_nil]⟩
   ·
    replace H := ifF C3 H
    refine AWP_skip ?_
    show K3 _ _
    refine keepE (l := [2, 3]) (x := [(2, .fptr [.int .i64 p0.Op, .int .i64 p0.Rd, .int .i64 p0.Rs, .int .i64 p0.Rt, .int .i64 p0.Imm] 0), (3, .fptr [.int .i64 p1.Op, .int .i64 p1.Rd, .int .i64 p1.Rs, .int .i64 p1.Rt, .int .i64 p1.Imm] 0)]) rfl fun a' ha => ?_
    refine hK3 _ _ ?_; rw [ha]
    refine Rc.mk ?_
    refine AWP_sq [2, 3] fun K4 hK4 => ?_
    refine AWP_sr tok [] [2, 3, 24] (fun a σ => a = [(2, .fptr [.int .i64 p0.Op, .int .i64 p0.Rd, .int .i64 p0.Rs, .int .i64 p0.Rt, .int .i64 p0.Imm] 0), (3, .fptr [.int .i64 p1.Op, .int .i64 p1.Rd, .int .i64 p1.Rs, .int .i64 p1.Rt, .int .i64 p1.Imm] 0), (24, .bool (ine p0.Rt p1.Rt))] ∧ σ = hp E0 [] (N0 + 23)) (fun K hK => ?_) ?_
    ·
     skip
     simp -dsimp -implicitDefEqProofs (maxDischargeDepth := 6)
     exact hK _ _ ⟨rfl, rfl⟩
    rintro a σ ⟨rfl, rfl⟩
    refine AWP_cond (ine p0.Rt p1.Rt) rfl (fun C4 => ?_) (fun C4 => ?_)
    ·
     replace H := ifT C4 H
     refine AWP_sr tok [] [4] (fun a σ => a = [(4, .bool false)] ∧ σ = hp E0 [] (N0 + 24)) (fun K hK => ?_) ?_
     ·
      skip
      simp -dsimp -implicitDefEqProofs (maxDischargeDepth := 6)
      exact hK _ _ ⟨rfl, rfl⟩
     rintro a σ ⟨rfl, rfl⟩
     replace H := Option.some.inj H; subst H
     refine AWP_kp [4] [(4, .bool false)] rfl ?_
     refine AWP_ret ?_
     exact ⟨[.bool false], by simp, 4, by simp [encL_nil]⟩
    ·
     replace H := ifF C4 H
     refine AWP_skip ?_
     show K4 _ _
     refine keepE (l := [2, 3]) (x := [(2, .fptr [.int .i64 p0.Op, .int .i64 p0.Rd, .int .i64 p0.Rs, .int .i64 p0.Rt, .int .i64 p0.Imm] 0), (3, .fptr [.int .i64 p1.Op, .int .i64 p1.Rd, .int .i64 p1.Rs, .int .i64 p1.Rt, .int .i64 p1.Imm] 0)]) rfl fun a' ha => ?_
     refine hK4 _ _ ?_; rw [ha]
     refine Rc.mk ?_
     refine AWP_sq [] fun K5 hK5 => ?_
     refine AWP_sr tok [] [29] (fun a σ => a = [(29, .bool (ine p0.Imm p1.Imm))] ∧ σ = hp E0 [] (N0 + 28)) (fun K hK => ?_) ?_
     ·
      skip
      simp -dsimp -implicitDefEqProofs (maxDischargeDepth := 6)
      exact hK _ _ ⟨rfl, rfl⟩
     rintro a σ ⟨rfl, rfl⟩
     refine AWP_cond (ine p0.Imm p1.Imm) rfl (fun C5 => ?_) (fun C5 => ?_)
     ·
      replace H := ifT C5 H
      refine AWP_sr tok [] [4] (fun a σ => a = [(4, .bool false)] ∧ σ = hp E0 [] (N0 + 29)) (fun K hK => ?_) ?_
      ·
       skip
       simp -dsimp -implicitDefEqProofs (maxDischargeDepth := 6)
       exact hK _ _ ⟨rfl, rfl⟩
      rintro a σ ⟨rfl, rfl⟩
      replace H := Option.some.inj H; subst H
      refine AWP_kp [4] [(4, .bool false)] rfl ?_
      refine AWP_ret ?_
      exact ⟨[.bool false], by simp, 4, by simp [encL_nil]⟩
     ·
      replace H := ifF C5 H
      refine AWP_skip ?_
      show K5 _ _
      refine keepE (l := []) (x := []) rfl fun a' ha => ?_
      refine hK5 _ _ ?_; rw [ha]
      refine Rc.mk ?_
      refine AWP_sr tok [] [4] (fun a σ => a = [(4, .bool true)] ∧ σ = hp E0 [] (N0 + 29)) (fun K hK => ?_) ?_
      ·
       skip
       simp -dsimp -implicitDefEqProofs (maxDischargeDepth := 6)
       exact hK _ _ ⟨rfl, rfl⟩
      rintro a σ ⟨rfl, rfl⟩
      replace H := Option.some.inj H; subst H
      refine AWP_kp [4] [(4, .bool true)] rfl ?_
      refine AWP_ret ?_
      exact ⟨[.bool true], by simp, 4, by simp [encL_nil]⟩
theorem c19 {p0 : (List gInstr)} {p1 : (List gInstr)} {r : Bool} (H : l_eqInstrS p0 p1 = some r) : APure Tryd.prog G 19 [.fsl (encL rInstr p0), .fsl (encL rInstr p1)] (.bool r) := by
 refine APure_fn (fun N0 => ?_) (by simp)
 refine ACalls_fn tok Tryd.func19 (by kernel_rfl) rfl Tryd.ntmps19 Tryd.results19 rfl ?_
 simp only [argsA, Nat.reduceAdd, hp_next]
 unfold l_eqInstrS at H
 refine AWP_sr tok [] [0, 1] (fun a σ => a = [(0, .fsl (encL rInstr p0)), (1, .fsl (encL rInstr p1))] ∧ σ = hp E0 [] (N0 + 1)) (fun K hK => ?_) ?_
 ·
  skip
  simp -dsimp -implicitDefEqProofs (maxDischargeDepth := 6)
  exact hK _ _ ⟨rfl, rfl⟩
 rintro a σ ⟨rfl, rfl⟩
 refine AWP_sq [0, 1] fun K1 hK1 => ?_
 refine AWP_sr tok [] [0, 1, 10] (fun a σ => a = [(0, .fsl (encL rInstr p0)), (1, .fsl (encL rInstr p1)), (10, .bool (ine (ilen p0) (ilen p1)))] ∧ σ = hp E0 [] (N0 + 6)) (fun K hK => ?_) ?_
 ·
  skip
  simp -dsimp -implicitDefEqProofs (maxDischargeDepth := 6)
  exact hK _ _ ⟨rfl, rfl⟩
 rintro a σ ⟨rfl, rfl⟩
 refine AWP_cond (ine (ilen p0) (ilen p1)) rfl (fun C1 => ?_) (fun C1 => ?_)
 ·
  replace H := ifT C1 H
  refine AWP_sr tok [] [4] (fun a σ => a = [(4, .bool false)] ∧ σ = hp E0 [] (N0 + 7)) (fun K hK => ?_) ?_
  ·
   skip
   simp -dsimp -implicitDefEqProofs (maxDischargeDepth := 6)
   exact hK _ _ ⟨rfl, rfl⟩
  rintro a σ ⟨rfl, rfl⟩
  replace H := Option.some.inj H; subst H
  refine AWP_kp [4] [(4, .bool false)] rfl ?_
  refine AWP_ret ?_
  exact ⟨[.bool false], by simp, 4, by simp [encL_nil]⟩
 ·
  replace H := ifF C1 H
  refine AWP_skip ?_
  show K1 _ _
  refine keepE (l := [0, 1]) (x := [(0, .fsl (encL rInstr p0)), (1, .fsl (encL rInstr p1))]) rfl fun a' ha => ?_
  refine hK1 _ _ ?_; rw [ha]
  refine Rc.mk ?_
  refine AWP_sq [] fun K2 hK2 => ?_
  refine AWP_sr tok [] [0, 1, 5] (fun a σ => a = [(0, .fsl (encL rInstr p0)), (1, .fsl (encL rInstr p1)), (5, .int .i64 0)] ∧ σ = hp E0 [] (N0 + 7)) (fun K hK => ?_) ?_
  ·
   skip
   simp -dsimp -implicitDefEqProofs (maxDischargeDepth := 6)
   exact hK _ _ ⟨rfl, rfl⟩
  rintro a σ ⟨rfl, rfl⟩
  refine AWP_block (AWP_thenB ?_)
  obtain ⟨e1, hse1, H⟩ := bindE H
  refine AWP_lp [0, 1, 5] (fun s a σ => ∃ M1 : Nat, N0 ≤ M1 ∧ a = [(0, .fsl (encL rInstr p0)), (1, .fsl (encL rInstr p1)), (5, .int .i64 s)] ∧ σ = hp E0 [] M1) (fun e x a σ => match e with | .inl s => x = .exit 0 ∧ Rc G 27 N0 (fun a σ => ∃ M2 : Nat, N0 ≤ M2 ∧ a = [] ∧ σ = hp E0 [] M2) (AAct.keep a []) σ | .inr s => x = .ret ∧ ∃ vs, resA T σ a [.tmp 4] = some vs ∧ ∃ d, thawA (fun _ => true) σ d (tupA vs) = .bool s) hse1 ?_ ?_ ?_
  ·
   refine Rc.kp [0, 1, 5] [(0, .fsl (encL rInstr p0)), (1, .fsl (encL rInstr p1)), (5, .int .i64 0)] rfl ?_
   exact Rc.fin (AHeap.Sub.refl _) ⟨N0 + 7, (by omega), rfl, rfl⟩
  ·
   clear H hse1
   rintro s1 fl a σ H ⟨M1, fM1_0, rfl, rfl⟩ K3 O3 hK3 hO3
   unfold l_eqInstrS_L1 at H; dsimp only at H
   refine AWP_sq [0, 1, 5] fun K4 hK4 => ?_
   refine AWP_sr tok [] [0, 1, 5, 14] (fun a σ => a = [(0, .fsl (encL rInstr p0)), (1, .fsl (encL rInstr p1)), (5, .int .i64 s1), (14, .bool (ilt s1 (ilen p0)))] ∧ σ = hp E0 [] (M1 + 4)) (fun K hK => ?_) ?_
   ·
    skip
    simp -dsimp -implicitDefEqProofs (maxDischargeDepth := 6)
    exact hK _ _ ⟨rfl, rfl⟩
   rintro a σ ⟨rfl, rfl⟩
   refine AWP_cond (ilt s1 (ilen p0)) rfl (fun C2 => ?_) (fun C2 => ?_)
   ·
    replace H := ifT C2 H
    refine AWP_skip ?_
    show K4 _ _
    refine keepE (l := [0, 1, 5]) (x := [(0, .fsl (encL rInstr p0)), (1, .fsl (encL rInstr p1)), (5, .int .i64 s1)]) rfl fun a' ha => ?_
    refine hK4 _ _ ?_; rw [ha]
    refine Rc.mk ?_
    refine AWP_sq [0, 1, 5] fun K5 hK5 => ?_
    refine AWP_block (AWP_thenB ?_)
    obtain ⟨v2, hv2, H⟩ := bindE H
    obtain ⟨v3, hv3, H⟩ := bindE H
    obtain ⟨r4, hr4, H⟩ := bindE H
    refine AWP_sd tok tokM [] [] [0, 1, 2, 3, 4, 5, 6, 7, 8, 9] [0, 1, 5, 26] (fun a σ => a = [(0, .fsl (encL rInstr p0)), (1, .fsl (encL rInstr p1)), (5, .int .i64 s1), (26, .bool (bnot r4))] ∧ σ = hp E0 [] (M1 + 14)) (by decide) (fun K hK => ?_) ?_
    ·
     simp only [pickL, nthO_succ, nthO_zero]
     simp -dsimp -implicitDefEqProofs (maxDischargeDepth := 6) [ix29 hv2, ix29 hv3]
     refine Pc.mk (c63 hr4) ?_; try simp -dsimp -implicitDefEqProofs (maxDischargeDepth := 6) [ix29 hv2, ix29 hv3]
     exact hK _ _ ⟨rfl, rfl⟩
    rintro a σ ⟨rfl, rfl⟩
    refine AWP_cond (bnot r4) rfl (fun C3 => ?_) (fun C3 => ?_)
    ·
     replace H := ifT C3 H
     refine AWP_sr tok [] [4] (fun a σ => a = [(4, .bool false)] ∧ σ = hp E0 [] (M1 + 15)) (fun K hK => ?_) ?_
     ·
      skip
      simp -dsimp -implicitDefEqProofs (maxDischargeDepth := 6)
      exact hK _ _ ⟨rfl, rfl⟩
     rintro a σ ⟨rfl, rfl⟩
     replace H := Option.some.inj H; subst H
     refine AWP_kp [4] [(4, .bool false)] rfl ?_
     refine AWP_ret (hO3 _ _ _ _ rfl ⟨rfl, ?_⟩)
     exact ⟨[.bool false], by simp, 4, by simp [encL_nil]⟩
    ·
     replace H := ifF C3 H
     refine AWP_skip ?_
     show K5 _ _
     refine keepE (l := [0, 1, 5]) (x := [(0, .fsl (encL rInstr p0)), (1, .fsl (encL rInstr p1)), (5, .int .i64 s1)]) rfl fun a' ha => ?_
     refine hK5 _ _ ?_; rw [ha]
     refine Rc.mk ?_
     refine AWP_rt tok [] [0, 1, 5] (fun a σ => a = [(0, .fsl (encL rInstr p0)), (1, .fsl (encL rInstr p1)), (5, .int .i64 (iadd .i64 s1 1))] ∧ σ = hp E0 [] (M1 + 17)) (fun K hK => ?_) ?_
     ·
      skip
      simp -dsimp -implicitDefEqProofs (maxDischargeDepth := 6)
      exact hK _ _ ⟨rfl, rfl⟩
     rintro a σ ⟨ha, rfl⟩
     replace H := Option.some.inj H; subst H
     refine hK3 _ _ _ rfl ?_; rw [ha]
     exact Rc.fin (AHeap.Sub.refl _) ⟨M1 + 17, (by omega), rfl, rfl⟩
   ·
    replace H := ifF C2 H
    replace H := Option.some.inj H; subst H
    refine AWP_exit (hO3 _ _ _ _ rfl ⟨rfl, ?_⟩)
    refine Rc.rw (l := []) (X := []) rfl ?_
    exact Rc.fin (AHeap.Sub.refl _) ⟨M1 + 4, (by omega), rfl, rfl⟩
  ·
   intro x a σ hx
   rcases e1 with ⟨⟩ | r0
   ·
    obtain ⟨rfl, b, τ, hr, M2, fM2_0, rfl, rfl⟩ := hx
    dsimp only at H
    show K2 _ _
    refine hK2 _ _ (Rc_ref hr ?_)
    refine Rc.mk ?_
    refine AWP_sr tok [] [4] (fun a σ => a = [(4, .bool true)] ∧ σ = hp E0 [] (M2 + 1)) (fun K hK => ?_) ?_
    ·
     skip
     simp -dsimp -implicitDefEqProofs (maxDischargeDepth := 6)
     exact hK _ _ ⟨rfl, rfl⟩
    rintro a σ ⟨rfl, rfl⟩
    replace H := Option.some.inj H; subst H
    refine AWP_kp [4] [(4, .bool true)] rfl ?_
    refine AWP_ret ?_
    exact ⟨[.bool true], by simp, 4, by simp [encL_nil]⟩
   ·
    obtain ⟨rfl, hx2⟩ := hx
    dsimp only at H
    replace H := Option.some.inj H; subst H; exact hx2
theorem c20 {p0 : (List gInstr)} {p1 : Int} {r : Int × (List gInstr)} (H : l_markInstrS p0 p1 = some r) {σ : AHeap} {w0 : Nat} (q0 : σ.objs w0 = some ⟨47, 5, encL rInstr p0⟩) : ACalls Tryd.prog G 20 [.sl w0 0 p0.length, .int .i64 p1] σ (fun v σ' => ∃ M : Nat, σ.next ≤ M ∧ r.2.length = p0.length ∧ v = .int .i64 r.1 ∧ σ' = hp σ.objs [(w0, some ⟨47, 5, encL rInstr r.2⟩)] M) := by
 refine ACalls_fr (L := [(w0, some ⟨47, 5, encL rInstr p0⟩)]) (Q1 := fun v σ' => ∃ M : Nat, σ.next ≤ M ∧ r.2.length = p0.length ∧ v = .int .i64 r.1 ∧ σ' = hp E0 [(w0, some ⟨47, 5, encL rInstr r.2⟩)] M) (by simp [q0]) (fun hlt => ?_) ?_ ⟨_, Tryd.func20, rfl, rfl⟩
 rotate_left
 ·
  rintro v σ1 ⟨M, h0, h1, rfl, rfl⟩
  exact ⟨_, M, rfl, by simp, by simp; try omega, M, h0, h1, rfl, rfl⟩
 generalize σ.next = N0 at hlt ⊢
 have lw0 : w0 < N0 := hlt _ (.head _) rfl
 refine ACalls_fn tok Tryd.func20 (by kernel_rfl) rfl Tryd.ntmps20 Tryd.results20 rfl ?_
 simp only [argsA, Nat.reduceAdd, hp_next]
 unfold l_markInstrS at H
 refine AWP_sr tok [] [0, 1] (fun a σ => a = [(0, .sl w0 0 p0.length), (1, .int .i64 p1)] ∧ σ = hp E0 [(w0, some ⟨47, 5, encL rInstr p0⟩)] (N0 + 1)) (fun K hK => ?_) ?_
 ·
  skip
  simp -dsimp -implicitDefEqProofs (maxDischargeDepth := 6)
  exact hK _ _ ⟨rfl, rfl⟩
 rintro a σ ⟨rfl, rfl⟩
 refine AWP_sq [1] fun K1 hK1 => ?_
 refine AWP_sr tok [] [0, 1, 5] (fun a σ => a = [(0, .sl w0 0 p0.length), (1, .int .i64 p1), (5, .int .i64 0)] ∧ σ = hp E0 [(w0, some ⟨47, 5, encL rInstr p0⟩)] (N0 + 2)) (fun K hK => ?_) ?_
 ·
  skip
  simp -dsimp -implicitDefEqProofs (maxDischargeDepth := 6)
  exact hK _ _ ⟨rfl, rfl⟩
 rintro a σ ⟨rfl, rfl⟩
 refine AWP_block (AWP_thenB ?_)
 obtain ⟨e1, hse1, H⟩ := bindE H
 refine AWP_lp [0, 1, 5] (fun s a σ => ∃ M1 : Nat, N0 ≤ M1 ∧ s.2.2.length = p0.length ∧ a = [(0, .sl w0 0 s.2.2.length), (1, .int .i64 s.1), (5, .int .i64 s.2.1)] ∧ σ = hp E0 [(w0, some ⟨47, 5, encL rInstr s.2.2⟩)] M1) (fun s x a σ => x = .exit 0 ∧ Rc G 48 N0 (fun a σ => ∃ M2 : Nat, N0 ≤ M2 ∧ s.2.length = p0.length ∧ a = [(1, .int .i64 s.1)] ∧ σ = hp E0 [(w0, some ⟨47, 5, encL rInstr s.2⟩)] M2) (AAct.keep a [1]) σ) hse1 ?_ ?_ ?_
 ·
  refine Rc.kp [0, 1, 5] [(0, .sl w0 0 p0.length), (1, .int .i64 p1), (5, .int .i64 0)] rfl ?_
  exact Rc.fin (AHeap.Sub.refl _) ⟨N0 + 2, (by omega), (by first | rfl | exact rfl | omega), rfl, rfl⟩
 ·
  clear H hse1
  rintro ⟨s1, s2, s3⟩ fl a σ H ⟨M1, fM1_0, fM1_1, rfl, rfl⟩ K2 O2 hK2 hO2
  unfold l_markInstrS_L1 at H; dsimp only at H
  refine AWP_sq [0, 1, 5] fun K3 hK3 => ?_
  refine AWP_sr tok [] [0, 1, 5, 9] (fun a σ => a = [(0, .sl w0 0 s3.length), (1, .int .i64 s1), (5, .int .i64 s2), (9, .bool (ilt s2 (ilen s3)))] ∧ σ = hp E0 [(w0, some ⟨47, 5, encL rInstr s3⟩)] (M1 + 4)) (fun K hK => ?_) ?_
  ·
   skip
   simp -dsimp -implicitDefEqProofs (maxDischargeDepth := 6)
   exact hK _ _ ⟨rfl, rfl⟩
  rintro a σ ⟨rfl, rfl⟩
  refine AWP_cond (ilt s2 (ilen s3)) rfl (fun C1 => ?_) (fun C1 => ?_)
  ·
   replace H := ifT C1 H
   refine AWP_skip ?_
   show K3 _ _
   refine keepE (l := [0, 1, 5]) (x := [(0, .sl w0 0 s3.length), (1, .int .i64 s1), (5, .int .i64 s2)]) rfl fun a' ha => ?_
   refine hK3 _ _ ?_; rw [ha]
   refine Rc.mk ?_
   refine AWP_sq [0, 1, 5] fun K4 hK4 => ?_
   refine AWP_block (AWP_thenB ?_)
   obtain ⟨v6, hv6, H⟩ := bindE H
   obtain ⟨l7, hl7, H⟩ := bindE H
   refine AWP_sr tok [] [0, 1, 5] (fun a σ => a = [(0, .sl w0 0 s3.length), (1, .int .i64 s1), (5, .int .i64 s2)] ∧ σ = hp E0 [(w0, some ⟨47, 5, encL rInstr l7⟩)] (M1 + 10)) (fun K hK => ?_) ?_
   ·
    skip
    simp -dsimp -implicitDefEqProofs (maxDischargeDepth := 6) [ixo29 hv6, (idx_lt3 hv6).2.2, (setx_iff.1 hl7).2.symm]
    exact hK _ _ ⟨rfl, rfl⟩
   rintro a σ ⟨rfl, rfl⟩
   try rw [← setx_len hl7]
   refine AWP_sr tok [] [0, 1, 5] (fun a σ => a = [(0, .sl w0 0 l7.length), (1, .int .i64 (iadd .i64 s1 1)), (5, .int .i64 s2)] ∧ σ = hp E0 [(w0, some ⟨47, 5, encL rInstr l7⟩)] (M1 + 13)) (fun K hK => ?_) ?_
   ·
    skip
    simp -dsimp -implicitDefEqProofs (maxDischargeDepth := 6)
    exact hK _ _ ⟨rfl, rfl⟩
   rintro a σ ⟨rfl, rfl⟩
   obtain ⟨v8, hv8, H⟩ := bindE H
   obtain ⟨l9, hl9, H⟩ := bindE H
   refine AWP_sr tok [] [0, 1, 5] (fun a σ => a = [(0, .sl w0 0 l7.length), (1, .int .i64 (iadd .i64 s1 1)), (5, .int .i64 s2)] ∧ σ = hp E0 [(w0, some ⟨47, 5, encL rInstr l9⟩)] (M1 + 19)) (fun K hK => ?_) ?_
   ·
    skip
    simp -dsimp -implicitDefEqProofs (maxDischargeDepth := 6) [ixo29 hv8, (idx_lt3 hv8).2.2, (setx_iff.1 hl9).2.symm]
    exact hK _ _ ⟨rfl, rfl⟩
   rintro a σ ⟨rfl, rfl⟩
   try rw [← setx_len hl9]
   refine AWP_sr tok [] [0, 1, 5] (fun a σ => a = [(0, .sl w0 0 l9.length), (1, .int .i64 (iadd .i64 (iadd .i64 s1 1) 1)), (5, .int .i64 s2)] ∧ σ = hp E0 [(w0, some ⟨47, 5, encL rInstr l9⟩)] (M1 + 22)) (fun K hK => ?_) ?_
   ·
    skip
    simp -dsimp -implicitDefEqProofs (maxDischargeDepth := 6)
    exact hK _ _ ⟨rfl, rfl⟩
   rintro a σ ⟨rfl, rfl⟩
   obtain ⟨v10, hv10, H⟩ := bindE H
   obtain ⟨l11, hl11, H⟩ := bindE H
   refine AWP_sr tok [] [0, 1, 5] (fun a σ => a = [(0, .sl w0 0 l9.length), (1, .int .i64 (iadd .i64 (iadd .i64 s1 1) 1)), (5, .int .i64 s2)] ∧ σ = hp E0 [(w0, some ⟨47, 5, encL rInstr l11⟩)] (M1 + 28)) (fun K hK => ?_) ?_
   ·
    skip
    simp -dsimp -implicitDefEqProofs (maxDischargeDepth := 6) [ixo29 hv10, (idx_lt3 hv10).2.2, (setx_iff.1 hl11).2.symm]
    exact hK _ _ ⟨rfl, rfl⟩
   rintro a σ ⟨rfl, rfl⟩
   try rw [← setx_len hl11]
   refine AWP_sr tok [] [0, 1, 5] (fun a σ => a = [(0, .sl w0 0 l11.length), (1, .int .i64 (iadd .i64 (iadd .i64 (iadd .i64 s1 1) 1) 1)), (5, .int .i64 s2)] ∧ σ = hp E0 [(w0, some ⟨47, 5, encL rInstr l11⟩)] (M1 + 31)) (fun K hK => ?_) ?_
   ·
    skip
    simp -dsimp -implicitDefEqProofs (maxDischargeDepth := 6)
    exact hK _ _ ⟨rfl, rfl⟩
   rintro a σ ⟨rfl, rfl⟩
   obtain ⟨v12, hv12, H⟩ := bindE H
   obtain ⟨l13, hl13, H⟩ := bindE H
   refine AWP_sr tok [] [0, 1, 5] (fun a σ => a = [(0, .sl w0 0 l11.length), (1, .int .i64 (iadd .i64 (iadd .i64 (iadd .i64 s1 1) 1) 1)), (5, .int .i64 s2)] ∧ σ = hp E0 [(w0, some ⟨47, 5, encL rInstr l13⟩)] (M1 + 37)) (fun K hK => ?_) ?_
   ·
    skip
    simp -dsimp -implicitDefEqProofs (maxDischargeDepth := 6) [ixo29 hv12, (idx_lt3 hv12).2.2, (setx_iff.1 hl13).2.symm]
    exact hK _ _ ⟨rfl, rfl⟩
   rintro a σ ⟨rfl, rfl⟩
   try rw [← setx_len hl13]
   refine AWP_sr tok [] [0, 1, 5] (fun a σ => a = [(0, .sl w0 0 l13.length), (1, .int .i64 (iadd .i64 (iadd .i64 (iadd .i64 (iadd .i64 s1 1) 1) 1) 1)), (5, .int .i64 s2)] ∧ σ = hp E0 [(w0, some ⟨47, 5, encL rInstr l13⟩)] (M1 + 40)) (fun K hK => ?_) ?_
   ·
    skip
    simp -dsimp -implicitDefEqProofs (maxDischargeDepth := 6)
    exact hK _ _ ⟨rfl, rfl⟩
   rintro a σ ⟨rfl, rfl⟩
   obtain ⟨v14, hv14, H⟩ := bindE H
   obtain ⟨l15, hl15, H⟩ := bindE H
   refine AWP_sr tok [] [0, 1, 5] (fun a σ => a = [(0, .sl w0 0 l13.length), (1, .int .i64 (iadd .i64 (iadd .i64 (iadd .i64 (iadd .i64 s1 1) 1) 1) 1)), (5, .int .i64 s2)] ∧ σ = hp E0 [(w0, some ⟨47, 5, encL rInstr l15⟩)] (M1 + 46)) (fun K hK => ?_) ?_
   ·
    skip
    simp -dsimp -implicitDefEqProofs (maxDischargeDepth := 6) [ixo29 hv14, (idx_lt3 hv14).2.2, (setx_iff.1 hl15).2.symm]
    exact hK _ _ ⟨rfl, rfl⟩
   rintro a σ ⟨rfl, rfl⟩
   try rw [← setx_len hl15]
   refine AWP_rt tok [] [0, 1, 5] (fun a σ => a = [(0, .sl w0 0 l15.length), (1, .int .i64 (iadd .i64 (iadd .i64 (iadd .i64 (iadd .i64 (iadd .i64 s1 1) 1) 1) 1) 1)), (5, .int .i64 s2)] ∧ σ = hp E0 [(w0, some ⟨47, 5, encL rInstr l15⟩)] (M1 + 49)) (fun K hK => ?_) ?_
   ·
    skip
    simp -dsimp -implicitDefEqProofs (maxDischargeDepth := 6)
    exact hK _ _ ⟨rfl, rfl⟩
   rintro a σ ⟨ha, rfl⟩
   refine hK4 _ _ ?_; rw [ha]
   refine Rc.mk ?_
   refine AWP_rt tok [] [0, 1, 5] (fun a σ => a = [(0, .sl w0 0 l15.length), (1, .int .i64 (iadd .i64 (iadd .i64 (iadd .i64 (iadd .i64 (iadd .i64 s1 1) 1) 1) 1) 1)), (5, .int .i64 (iadd .i64 s2 1))] ∧ σ = hp E0 [(w0, some ⟨47, 5, encL rInstr l15⟩)] (M1 + 52)) (fun K hK => ?_) ?_
   ·
    skip
    simp -dsimp -implicitDefEqProofs (maxDischargeDepth := 6)
    exact hK _ _ ⟨rfl, rfl⟩
   rintro a σ ⟨ha, rfl⟩
   replace H := Option.some.inj H; subst H
   refine hK2 _ _ _ rfl ?_; rw [ha]
   exact Rc.fin (AHeap.Sub.refl _) ⟨M1 + 52, (by omega), (by first | rfl | exact ((setx_len hl15).trans ((setx_len hl13).trans ((setx_len hl11).trans ((setx_len hl9).trans ((setx_len hl7).trans fM1_1))))) | omega), rfl, rfl⟩
  ·
   replace H := ifF C1 H
   replace H := Option.some.inj H; subst H
   refine AWP_exit (hO2 _ _ _ _ rfl ⟨rfl, ?_⟩)
   refine Rc.rw (l := [1]) (X := [(1, .int .i64 s1)]) rfl ?_
   exact Rc.fin (AHeap.Sub.refl _) ⟨M1 + 4, (by omega), (by first | rfl | exact fM1_1 | omega), rfl, rfl⟩
 ·
  intro x a σ hx
  obtain ⟨y4, y5⟩ := e1
  obtain ⟨rfl, b, τ, hr, M2, fM2_0, fM2_1, rfl, rfl⟩ := hx
  dsimp only at H
  show K1 _ _
  refine hK1 _ _ (Rc_ref hr ?_)
  refine Rc.mk ?_
  refine AWP_sr tok [] [4] (fun a σ => a = [(4, .int .i64 y4)] ∧ σ = hp E0 [(w0, some ⟨47, 5, encL rInstr y5⟩)] (M2 + 2)) (fun K hK => ?_) ?_
  ·
   skip
   simp -dsimp -implicitDefEqProofs (maxDischargeDepth := 6)
   exact hK _ _ ⟨rfl, rfl⟩
  rintro a σ ⟨rfl, rfl⟩
  replace H := Option.some.inj H; subst H
  refine AWP_kp [4] [(4, .int .i64 y4)] rfl ?_
  refine AWP_ret ?_
  refine ⟨[.int .i64 y4], by simp, M2 + 2, by omega, by first | rfl | exact fM2_1 | omega, ?_, ?_⟩
  ·
   simp [encL_nil]
  ·
   first | rfl | simp [List.set_set]
theorem c68_o {p0 : gQuad} {p1 : Int} {p2 : Int} {r : (List gInstr)} (H : i_quadInstrs_o p0 p1 p2 = some r) {σ : AHeap} : ACalls Tryd.prog G 68 [.agg [.int .i64 p0.Op, .int .i64 p0.Dst, .int .i64 p0.A, .int .i64 p0.B, .int .i64 p0.N], .int .i64 p1, .int .i64 p2] σ (fun v σ' => ∃ M n0 : Nat, σ.next ≤ M ∧ σ.next ≤ n0 ∧ n0 < M ∧ v = .sl n0 0 r.length ∧ σ' = hp σ.objs [(n0, some ⟨47, 5, encL rInstr r⟩)] M) := by
 refine ACalls_fr (L := []) (Q1 := fun v σ' => ∃ M n0 : Nat, σ.next ≤ M ∧ σ.next ≤ n0 ∧ n0 < M ∧ v = .sl n0 0 r.length ∧ σ' = hp E0 [(n0, some ⟨47, 5, encL rInstr r⟩)] M) (by simp []) (fun hlt => ?_) ?_ ⟨_, Tryd.func68, rfl, rfl⟩
 rotate_left
 ·
  rintro v σ1 ⟨M, n0, h0, h1, h2, rfl, rfl⟩
  exact ⟨_, M, rfl, by simp, by simp; try omega, M, n0, h0, h1, h2, rfl, rfl⟩
 generalize σ.next = N0 at hlt ⊢
 refine ACalls_fn tok Tryd.func68 (by kernel_rfl) rfl Tryd.ntmps68 Tryd.results68 rfl ?_
 simp only [argsA, Nat.reduceAdd, hp_next]
 unfold i_quadInstrs_o at H
 refine AWP_sr tok [0] [1, 2, 3] (fun a σ => a = [(1, .int .i64 p1), (2, .int .i64 p2), (3, .fptr [.int .i64 p0.Op, .int .i64 p0.Dst, .int .i64 p0.A, .int .i64 p0.B, .int .i64 p0.N] 0)] ∧ σ = hp E0 [] (N0 + 2)) (fun K hK => ?_) ?_
 ·
  skip
  simp -dsimp -implicitDefEqProofs (maxDischargeDepth := 6)
  exact hK _ _ ⟨rfl, rfl⟩
 rintro a σ ⟨rfl, rfl⟩
 refine AWP_sr tok [1] [2, 3, 7] (fun a σ => a = [(2, .int .i64 p2), (3, .fptr [.int .i64 p0.Op, .int .i64 p0.Dst, .int .i64 p0.A, .int .i64 p0.B, .int .i64 p0.N] 0), (7, .ptr (N0 + 4) 0 0)] ∧ σ = hp E0 [(N0 + 4, some ⟨129, 2, [[.int .i64 p1, .nilsl]]⟩)] (N0 + 6)) (fun K hK => ?_) ?_
 ·
  skip
  simp -dsimp -implicitDefEqProofs (maxDischargeDepth := 6)
  exact hK _ _ ⟨rfl, rfl⟩
 rintro a σ ⟨rfl, rfl⟩
 obtain ⟨j1, hj1, H⟩ := bindE H
 refine AWP_seq (AWP_named fun K1 hK1 => ?_)
 have hJ1 : ∀ a σ, Rc G 120 N0 (fun a σ => ∃ M1 : Nat, N0 ≤ M1 ∧ N0 + 4 < M1 ∧ a = [(7, .ptr (N0 + 4) 0 0)] ∧ σ = hp E0 [(N0 + 4, some ⟨129, 2, [[.int .i64 j1.colors, .osl 47 5 (encL rInstr j1.list)]]⟩)] M1) (a.keep [7]) σ → K1 a σ := by
  rintro a σ ⟨b, τ, hr, M1, fM1_0, fM1_1, rfl, rfl⟩
  refine hK1 _ _ (AWP_keep [7] (AWP_ref hr ?_))
  have z12 : ¬ N0 + 4 = M1 := by omega
  have z13 : ¬ M1 = N0 + 4 := by omega
  refine gUnp AWP_ref (ty := 47) (sz := 5) (es := encL rInstr j1.list) (o := (N0 + 4)) (ob := ⟨129, 2, [[.int .i64 j1.colors, .osl 47 5 (encL rInstr j1.list)]]⟩) (row := [.int .i64 j1.colors, .osl 47 5 (encL rInstr j1.list)]) (r := 0) (i := 1) [(N0 + 4, some ⟨129, 2, [[.int .i64 j1.colors, .sl M1 0 j1.list.length]]⟩), (M1, some ⟨47, 5, encL rInstr j1.list⟩)] (by simp [z12, z13]) rfl rfl (by simp [z12, z13, List.set_set]) ?_
  refine AWP_sr tok [] [6] (fun a σ => a = [(6, .sl M1 0 j1.list.length)] ∧ σ = hp E0 [(N0 + 4, some ⟨129, 2, [[.int .i64 j1.colors, .sl M1 0 j1.list.length]]⟩), (M1, some ⟨47, 5, encL rInstr j1.list⟩)] (M1 + 6)) (fun K hK => ?_) ?_
  ·
   skip
   have e0 : ¬ N0 + 4 = M1 := by omega
   have e1 : ¬ M1 = N0 + 4 := by omega
   simp -dsimp -implicitDefEqProofs (maxDischargeDepth := 6) [e0, e1]
   exact hK _ _ ⟨rfl, rfl⟩
  rintro a σ ⟨rfl, rfl⟩
  replace H := Option.some.inj H; subst H
  refine AWP_kp [6] [(6, .sl M1 0 j1.list.length)] rfl ?_
  refine gDrop AWP_ref [(M1, some ⟨47, 5, encL rInstr j1.list⟩)] (AHeap.Sub.trans (hp_skip (AHeap.Sub.refl _)) (hp_drop rfl (by simp; try omega))) ?_
  refine AWP_ret ?_
  refine ⟨[.sl M1 0 j1.list.length], by simp, M1 + 6, M1, by omega, by omega, by omega, ?_, ?_⟩
  ·
   simp [encL_nil]
  ·
   first | rfl | simp [List.set_set]
 replace H := hj1
 refine AWP_sr tok [] [2, 3, 7, 15] (fun a σ => a = [(2, .int .i64 p2), (3, .fptr [.int .i64 p0.Op, .int .i64 p0.Dst, .int .i64 p0.A, .int .i64 p0.B, .int .i64 p0.N] 0), (7, .ptr (N0 + 4) 0 0), (15, .int .i64 p0.Op)] ∧ σ = hp E0 [(N0 + 4, some ⟨129, 2, [[.int .i64 p1, .nilsl]]⟩)] (N0 + 8)) (fun K hK => ?_) ?_
 ·
  skip
  simp -dsimp -implicitDefEqProofs (maxDischargeDepth := 6)
  exact hK _ _ ⟨rfl, rfl⟩
 rintro a σ ⟨rfl, rfl⟩
 refine AWP_block (AWP_thenB ?_)
 refine AWP_sr tok [] [2, 3, 7, 15, 16] (fun a σ => a = [(2, .int .i64 p2), (3, .fptr [.int .i64 p0.Op, .int .i64 p0.Dst, .int .i64 p0.A, .int .i64 p0.B, .int .i64 p0.N] 0), (7, .ptr (N0 + 4) 0 0), (15, .int .i64 p0.Op), (16, .bool (ieq p0.Op 1))] ∧ σ = hp E0 [(N0 + 4, some ⟨129, 2, [[.int .i64 p1, .nilsl]]⟩)] (N0 + 10)) (fun K hK => ?_) ?_
 ·
  skip
  simp -dsimp -implicitDefEqProofs (maxDischargeDepth := 6)
  exact hK _ _ ⟨rfl, rfl⟩
 rintro a σ ⟨rfl, rfl⟩
 refine AWP_cond (ieq p0.Op 1) rfl (fun C1 => ?_) (fun C1 => ?_)
 ·
  replace H := ifT C1 H
  refine gPk0 AWP_ref (o := (N0 + 4)) (ob := ⟨129, 2, [[.int .i64 p1, .nilsl]]⟩) (row := [.int .i64 p1, .nilsl]) (r := 0) (i := 1) 47 5 [(N0 + 4, some ⟨129, 2, [[.int .i64 p1, .osl 47 5 (encL rInstr ([] : List gInstr))]]⟩)] (by simp) rfl rfl (by simp) (by simp [encL_nil, List.set_set]) ?_
  obtain ⟨r2, hr2, H⟩ := bindE H
  refine AWP_rt tok [] [7] (fun a σ => ∃ M2 : Nat, N0 + 15 ≤ M2 ∧ a = [(7, .ptr (N0 + 4) 0 0)] ∧ σ = hp E0 [(N0 + 4, some ⟨129, 2, [[.int .i64 r2.colors, .osl 47 5 (encL rInstr r2.list)]]⟩)] M2) (fun K hK => ?_) ?_
  ·
   skip
   simp -dsimp -implicitDefEqProofs (maxDischargeDepth := 6)
   refine (c115_i_quadInstrs_1 (W0 := [[.int .i64 p1, .osl 47 5 (encL rInstr ([] : List gInstr))]]) (r0_ := 0) (H := hr2) (by simp []) (by simp [])).mono ?_; rintro _ _ ⟨M2, fM2_0, rfl, rfl⟩; simp only [hp_next] at fM2_0
   try simp -dsimp -implicitDefEqProofs (maxDischargeDepth := 6) [hp_over_some, hp_over_none]
   exact hK _ _ ⟨M2, (by omega), rfl, rfl⟩
  rintro a σ ⟨M2, fM2_0, ha, rfl⟩
  replace H := Option.some.inj H; subst H
  refine hJ1 _ _ ?_; rw [ha]
  exact Rc.fin (AHeap.Sub.refl _) ⟨M2, (by omega), (by omega), rfl, rfl⟩
 ·
  replace H := ifF C1 H
  refine AWP_sr tok [] [2, 3, 7, 15, 23] (fun a σ => a = [(2, .int .i64 p2), (3, .fptr [.int .i64 p0.Op, .int .i64 p0.Dst, .int .i64 p0.A, .int .i64 p0.B, .int .i64 p0.N] 0), (7, .ptr (N0 + 4) 0 0), (15, .int .i64 p0.Op), (23, .bool (ieq p0.Op 2))] ∧ σ = hp E0 [(N0 + 4, some ⟨129, 2, [[.int .i64 p1, .nilsl]]⟩)] (N0 + 12)) (fun K hK => ?_) ?_
  ·
   skip
   simp -dsimp -implicitDefEqProofs (maxDischargeDepth := 6)
   exact hK _ _ ⟨rfl, rfl⟩
  rintro a σ ⟨rfl, rfl⟩
  refine AWP_cond (ieq p0.Op 2) rfl (fun C2 => ?_) (fun C2 => ?_)
  ·
   replace H := ifT C2 H
   refine gPk0 AWP_ref (o := (N0 + 4)) (ob := ⟨129, 2, [[.int .i64 p1, .nilsl]]⟩) (row := [.int .i64 p1, .nilsl]) (r := 0) (i := 1) 47 5 [(N0 + 4, some ⟨129, 2, [[.int .i64 p1, .osl 47 5 (encL rInstr ([] : List gInstr))]]⟩)] (by simp) rfl rfl (by simp) (by simp [encL_nil, List.set_set]) ?_
   obtain ⟨r3, hr3, H⟩ := bindE H
   refine AWP_sr tok [] [3, 7, 8] (fun a σ => ∃ M3 : Nat, N0 + 18 ≤ M3 ∧ a = [(3, .fptr [.int .i64 p0.Op, .int .i64 p0.Dst, .int .i64 p0.A, .int .i64 p0.B, .int .i64 p0.N] 0), (7, .ptr (N0 + 4) 0 0), (8, .ptr (N0 + 16) 0 0)] ∧ σ = hp E0 [(N0 + 4, some ⟨129, 2, [[.int .i64 r3.2.colors, .osl 47 5 (encL rInstr r3.2.list)]]⟩), (N0 + 16, some ⟨3, 1, [[.int .i64 r3.1]]⟩)] M3) (fun K hK => ?_) ?_
   ·
    skip
    simp -dsimp -implicitDefEqProofs (maxDischargeDepth := 6)
    refine (c117 (W0 := [[.int .i64 p1, .osl 47 5 (encL rInstr ([] : List gInstr))]]) (r0_ := 0) (H := hr3) (by simp []) (by simp [])).mono ?_; rintro _ _ ⟨M3, fM3_0, rfl, rfl⟩; simp only [hp_next] at fM3_0
    try simp -dsimp -implicitDefEqProofs (maxDischargeDepth := 6) [hp_over_some, hp_over_none]
    exact hK _ _ ⟨M3, (by omega), rfl, rfl⟩
   rintro a σ ⟨M3, fM3_0, rfl, rfl⟩
   refine gFrz AWP_ref 4 [N0 + 16] [(N0 + 4, some ⟨129, 2, [[.int .i64 r3.2.colors, .osl 47 5 (encL rInstr r3.2.list)]]⟩)] [(3, .fptr [.int .i64 p0.Op, .int .i64 p0.Dst, .int .i64 p0.A, .int .i64 p0.B, .int .i64 p0.N] 0), (7, .ptr (N0 + 4) 0 0), (8, .fptr [.int .i64 r3.1] 0)] (by simp) (cutD (by simp)) ?_
   obtain ⟨r5, hr5, H⟩ := bindE H
   refine AWP_rt tok [] [7] (fun a σ => ∃ M4 : Nat, M3 + 5 ≤ M4 ∧ a = [(7, .ptr (N0 + 4) 0 0)] ∧ σ = hp E0 [(N0 + 4, some ⟨129, 2, [[.int .i64 r5.colors, .osl 47 5 (encL rInstr r5.list)]]⟩)] M4) (fun K hK => ?_) ?_
   ·
    skip
    simp -dsimp -implicitDefEqProofs (maxDischargeDepth := 6)
    refine (c115_i_quadInstrs_2 (W0 := [[.int .i64 r3.2.colors, .osl 47 5 (encL rInstr r3.2.list)]]) (r0_ := 0) (H := hr5) (by simp []) (by simp [])).mono ?_; rintro _ _ ⟨M4, fM4_0, rfl, rfl⟩; simp only [hp_next] at fM4_0
    try simp -dsimp -implicitDefEqProofs (maxDischargeDepth := 6) [hp_over_some, hp_over_none]
    exact hK _ _ ⟨M4, (by omega), rfl, rfl⟩
   rintro a σ ⟨M4, fM4_0, ha, rfl⟩
   replace H := Option.some.inj H; subst H
   refine hJ1 _ _ ?_; rw [ha]
   exact Rc.fin (AHeap.Sub.refl _) ⟨M4, (by omega), (by omega), rfl, rfl⟩
  ·
   replace H := ifF C2 H
   refine AWP_sr tok [] [2, 3, 7, 15, 34] (fun a σ => a = [(2, .int .i64 p2), (3, .fptr [.int .i64 p0.Op, .int .i64 p0.Dst, .int .i64 p0.A, .int .i64 p0.B, .int .i64 p0.N] 0), (7, .ptr (N0 + 4) 0 0), (15, .int .i64 p0.Op), (34, .bool (ieq p0.Op 3))] ∧ σ = hp E0 [(N0 + 4, some ⟨129, 2, [[.int .i64 p1, .nilsl]]⟩)] (N0 + 14)) (fun K hK => ?_) ?_
   ·
    skip
    simp -dsimp -implicitDefEqProofs (maxDischargeDepth := 6)
    exact hK _ _ ⟨rfl, rfl⟩
   rintro a σ ⟨rfl, rfl⟩
   refine AWP_cond (ieq p0.Op 3) rfl (fun C3 => ?_) (fun C3 => ?_)
   ·
    replace H := ifT C3 H
    refine gPk0 AWP_ref (o := (N0 + 4)) (ob := ⟨129, 2, [[.int .i64 p1, .nilsl]]⟩) (row := [.int .i64 p1, .nilsl]) (r := 0) (i := 1) 47 5 [(N0 + 4, some ⟨129, 2, [[.int .i64 p1, .osl 47 5 (encL rInstr ([] : List gInstr))]]⟩)] (by simp) rfl rfl (by simp) (by simp [encL_nil, List.set_set]) ?_
    obtain ⟨r6, hr6, H⟩ := bindE H
    refine AWP_sr tok [] [3, 7, 9] (fun a σ => ∃ M5 : Nat, N0 + 20 ≤ M5 ∧ a = [(3, .fptr [.int .i64 p0.Op, .int .i64 p0.Dst, .int .i64 p0.A, .int .i64 p0.B, .int .i64 p0.N] 0), (7, .ptr (N0 + 4) 0 0), (9, .ptr (N0 + 18) 0 0)] ∧ σ = hp E0 [(N0 + 4, some ⟨129, 2, [[.int .i64 r6.2.colors, .osl 47 5 (encL rInstr r6.2.list)]]⟩), (N0 + 18, some ⟨3, 1, [[.int .i64 r6.1]]⟩)] M5) (fun K hK => ?_) ?_
    ·
     skip
     simp -dsimp -implicitDefEqProofs (maxDischargeDepth := 6)
     refine (c117 (W0 := [[.int .i64 p1, .osl 47 5 (encL rInstr ([] : List gInstr))]]) (r0_ := 0) (H := hr6) (by simp []) (by simp [])).mono ?_; rintro _ _ ⟨M5, fM5_0, rfl, rfl⟩; simp only [hp_next] at fM5_0
     try simp -dsimp -implicitDefEqProofs (maxDischargeDepth := 6) [hp_over_some, hp_over_none]
     exact hK _ _ ⟨M5, (by omega), rfl, rfl⟩
    rintro a σ ⟨M5, fM5_0, rfl, rfl⟩
    obtain ⟨r7, hr7, H⟩ := bindE H
    refine AWP_sr tok [] [3, 7, 9, 10] (fun a σ => ∃ M6 : Nat, M5 + 6 ≤ M6 ∧ a = [(3, .fptr [.int .i64 p0.Op, .int .i64 p0.Dst, .int .i64 p0.A, .int .i64 p0.B, .int .i64 p0.N] 0), (7, .ptr (N0 + 4) 0 0), (9, .ptr (N0 + 18) 0 0), (10, .ptr (M5 + 4) 0 0)] ∧ σ = hp E0 [(N0 + 4, some ⟨129, 2, [[.int .i64 r7.2.colors, .osl 47 5 (encL rInstr r7.2.list)]]⟩), (N0 + 18, some ⟨3, 1, [[.int .i64 r6.1]]⟩), (M5 + 4, some ⟨3, 1, [[.int .i64 r7.1]]⟩)] M6) (fun K hK => ?_) ?_
    ·
     skip
     have e0 : ¬ N0 + 4 = M5 + 4 := by omega
     have e1 : ¬ M5 + 4 = N0 + 4 := by omega
     have e2 : ¬ N0 = M5 := by omega
     have e3 : ¬ M5 = N0 := by omega
     have e4 : ¬ N0 + 18 = M5 + 4 := by omega
     have e5 : ¬ M5 + 4 = N0 + 18 := by omega
     have e6 : ¬ N0 + 14 = M5 := by omega
     have e7 : ¬ M5 = N0 + 14 := by omega
     simp -dsimp -implicitDefEqProofs (maxDischargeDepth := 6) [e0, e1, e2, e3, e4, e5, e6, e7]
     refine (c117 (W0 := [[.int .i64 r6.2.colors, .osl 47 5 (encL rInstr r6.2.list)]]) (r0_ := 0) (H := hr7) (by simp [e0, e1, e2, e3, e4, e5, e6, e7]) (by simp [e0, e1, e2, e3, e4, e5, e6, e7])).mono ?_; rintro _ _ ⟨M6, fM6_0, rfl, rfl⟩; simp only [hp_next] at fM6_0
     try simp -dsimp -implicitDefEqProofs (maxDischargeDepth := 6) [e0, e1, e2, e3, e4, e5, e6, e7, hp_over_some, hp_over_none]
     exact hK _ _ ⟨M6, (by omega), rfl, rfl⟩
    rintro a σ ⟨M6, fM6_0, rfl, rfl⟩
    have z14 : ¬ N0 + 4 = M5 + 4 := by omega
    have z15 : ¬ M5 + 4 = N0 + 4 := by omega
    have z16 : ¬ N0 = M5 := by omega
    have z17 : ¬ M5 = N0 := by omega
    have z18 : ¬ N0 + 18 = M5 + 4 := by omega
    have z19 : ¬ M5 + 4 = N0 + 18 := by omega
    have z20 : ¬ N0 + 14 = M5 := by omega
    have z21 : ¬ M5 = N0 + 14 := by omega
    refine gFrz AWP_ref 4 [N0 + 18] [(N0 + 4, some ⟨129, 2, [[.int .i64 r7.2.colors, .osl 47 5 (encL rInstr r7.2.list)]]⟩), (M5 + 4, some ⟨3, 1, [[.int .i64 r7.1]]⟩)] [(3, .fptr [.int .i64 p0.Op, .int .i64 p0.Dst, .int .i64 p0.A, .int .i64 p0.B, .int .i64 p0.N] 0), (7, .ptr (N0 + 4) 0 0), (9, .fptr [.int .i64 r6.1] 0), (10, .ptr (M5 + 4) 0 0)] (by simp [z14, z15, z16, z17, z18, z19, z20, z21]) (cutD (by simp [z14, z15, z16, z17, z18, z19, z20, z21])) ?_
    have z22 : ¬ N0 + 4 = M5 + 4 := by omega
    have z23 : ¬ M5 + 4 = N0 + 4 := by omega
    have z24 : ¬ N0 = M5 := by omega
    have z25 : ¬ M5 = N0 := by omega
    refine gFrz AWP_ref 4 [M5 + 4] [(N0 + 4, some ⟨129, 2, [[.int .i64 r7.2.colors, .osl 47 5 (encL rInstr r7.2.list)]]⟩)] [(3, .fptr [.int .i64 p0.Op, .int .i64 p0.Dst, .int .i64 p0.A, .int .i64 p0.B, .int .i64 p0.N] 0), (7, .ptr (N0 + 4) 0 0), (9, .fptr [.int .i64 r6.1] 0), (10, .fptr [.int .i64 r7.1] 0)] (by simp [z22, z23, z24, z25]) (cutD (by simp [z22, z23, z24, z25])) ?_
    obtain ⟨r10, hr10, H⟩ := bindE H
    refine AWP_rt tok [] [7] (fun a σ => ∃ M7 : Nat, M6 + 5 ≤ M7 ∧ a = [(7, .ptr (N0 + 4) 0 0)] ∧ σ = hp E0 [(N0 + 4, some ⟨129, 2, [[.int .i64 r10.colors, .osl 47 5 (encL rInstr r10.list)]]⟩)] M7) (fun K hK => ?_) ?_
    ·
     skip
     simp -dsimp -implicitDefEqProofs (maxDischargeDepth := 6)
     refine (c115_i_quadInstrs_3 (W0 := [[.int .i64 r7.2.colors, .osl 47 5 (encL rInstr r7.2.list)]]) (r0_ := 0) (H := hr10) (by simp []) (by simp [])).mono ?_; rintro _ _ ⟨M7, fM7_0, rfl, rfl⟩; simp only [hp_next] at fM7_0
     try simp -dsimp -implicitDefEqProofs (maxDischargeDepth := 6) [hp_over_some, hp_over_none]
     exact hK _ _ ⟨M7, (by omega), rfl, rfl⟩
    rintro a σ ⟨M7, fM7_0, ha, rfl⟩
    replace H := Option.some.inj H; subst H
    refine hJ1 _ _ ?_; rw [ha]
    exact Rc.fin (AHeap.Sub.refl _) ⟨M7, (by omega), (by omega), rfl, rfl⟩
   ·
    replace H := ifF C3 H
    refine AWP_sr tok [] [2, 3, 7, 15, 49] (fun a σ => a = [(2, .int .i64 p2), (3, .fptr [.int .i64 p0.Op, .int .i64 p0.Dst, .int .i64 p0.A, .int .i64 p0.B, .int .i64 p0.N] 0), (7, .ptr (N0 + 4) 0 0), (15, .int .i64 p0.Op), (49, .bool (ieq p0.Op 4))] ∧ σ = hp E0 [(N0 + 4, some ⟨129, 2, [[.int .i64 p1, .nilsl]]⟩)] (N0 + 16)) (fun K hK => ?_) ?_
    ·
     skip
     simp -dsimp -implicitDefEqProofs (maxDischargeDepth := 6)
     exact hK _ _ ⟨rfl, rfl⟩
    rintro a σ ⟨rfl, rfl⟩
    refine AWP_cond (ieq p0.Op 4) rfl (fun C4 => ?_) (fun C4 => ?_)
    ·
     replace H := ifT C4 H
     refine gPk0 AWP_ref (o := (N0 + 4)) (ob := ⟨129, 2, [[.int .i64 p1, .nilsl]]⟩) (row := [.int .i64 p1, .nilsl]) (r := 0) (i := 1) 47 5 [(N0 + 4, some ⟨129, 2, [[.int .i64 p1, .osl 47 5 (encL rInstr ([] : List gInstr))]]⟩)] (by simp) rfl rfl (by simp) (by simp [encL_nil, List.set_set]) ?_
     obtain ⟨r11, hr11, H⟩ := bindE H
     refine AWP_rt tok [] [7] (fun a σ => ∃ M8 : Nat, N0 + 19 ≤ M8 ∧ a = [(7, .ptr (N0 + 4) 0 0)] ∧ σ = hp E0 [(N0 + 4, some ⟨129, 2, [[.int .i64 r11.colors, .osl 47 5 (encL rInstr r11.list)]]⟩)] M8) (fun K hK => ?_) ?_
     ·
      skip
      simp -dsimp -implicitDefEqProofs (maxDischargeDepth := 6)
      refine (c121 (W0 := [[.int .i64 p1, .osl 47 5 (encL rInstr ([] : List gInstr))]]) (r0_ := 0) (H := hr11) (by simp []) (by simp [])).mono ?_; rintro _ _ ⟨M8, fM8_0, rfl, rfl⟩; simp only [hp_next] at fM8_0
      try simp -dsimp -implicitDefEqProofs (maxDischargeDepth := 6) [hp_over_some, hp_over_none]
      exact hK _ _ ⟨M8, (by omega), rfl, rfl⟩
     rintro a σ ⟨M8, fM8_0, ha, rfl⟩
     replace H := Option.some.inj H; subst H
     refine hJ1 _ _ ?_; rw [ha]
     exact Rc.fin (AHeap.Sub.refl _) ⟨M8, (by omega), (by omega), rfl, rfl⟩
    ·
     replace H := ifF C4 H
     refine AWP_sr tok [] [2, 3, 7, 15, 54] (fun a σ => a = [(2, .int .i64 p2), (3, .fptr [.int .i64 p0.Op, .int .i64 p0.Dst, .int .i64 p0.A, .int .i64 p0.B, .int .i64 p0.N] 0), (7, .ptr (N0 + 4) 0 0), (15, .int .i64 p0.Op), (54, .bool (ieq p0.Op 5))] ∧ σ = hp E0 [(N0 + 4, some ⟨129, 2, [[.int .i64 p1, .nilsl]]⟩)] (N0 + 18)) (fun K hK => ?_) ?_
     ·
      skip
      simp -dsimp -implicitDefEqProofs (maxDischargeDepth := 6)
      exact hK _ _ ⟨rfl, rfl⟩
     rintro a σ ⟨rfl, rfl⟩
     refine AWP_cond (ieq p0.Op 5) rfl (fun C5 => ?_) (fun C5 => ?_)
     ·
      replace H := ifT C5 H
      refine gPk0 AWP_ref (o := (N0 + 4)) (ob := ⟨129, 2, [[.int .i64 p1, .nilsl]]⟩) (row := [.int .i64 p1, .nilsl]) (r := 0) (i := 1) 47 5 [(N0 + 4, some ⟨129, 2, [[.int .i64 p1, .osl 47 5 (encL rInstr ([] : List gInstr))]]⟩)] (by simp) rfl rfl (by simp) (by simp [encL_nil, List.set_set]) ?_
      obtain ⟨r12, hr12, H⟩ := bindE H
      obtain ⟨r13, hr13, H⟩ := bindE H
      have q0 : ∀ σ i, buildSliceA T 29 true i 1 [(0, .agg [.int .i64 18, .int .i64 0, .int .i64 r12.1, .int .i64 0, .int .i64 8])] σ = some (.fsl (encL rInstr ([(⟨18, 0, r12.1, 0, 8⟩ : gInstr)] : List gInstr)), σ) := fun _ _ => rfl
      refine AWP_sr tok [6] [2, 7] (fun a σ => ∃ M9 : Nat, ∃ M10 : Nat, N0 + 26 ≤ M9 ∧ M9 ≤ M10 ∧ a = [(2, .int .i64 p2), (7, .ptr (N0 + 4) 0 0)] ∧ σ = hp E0 [(N0 + 4, some ⟨129, 2, [[.int .i64 r13.colors, .osl 47 5 (encL rInstr r13.list)]]⟩)] M10) (fun K hK => ?_) ?_
      ·
       skip
       simp -dsimp -implicitDefEqProofs (maxDischargeDepth := 6) [q0]
       refine (c117 (W0 := [[.int .i64 p1, .osl 47 5 (encL rInstr ([] : List gInstr))]]) (r0_ := 0) (H := hr12) (by simp [q0]) (by simp [q0])).mono ?_; rintro _ _ ⟨M9, fM9_0, rfl, rfl⟩; simp only [hp_next] at fM9_0
       try simp -dsimp -implicitDefEqProofs (maxDischargeDepth := 6) [q0, hp_over_some, hp_over_none]
       refine (c122 (W0 := [[.int .i64 r12.2.colors, .osl 47 5 (encL rInstr r12.2.list)]]) (r0_ := 0) (H := hr13) (by simp [q0, hp_over_some, hp_over_none]) (by simp [q0, hp_over_some, hp_over_none])).mono ?_; rintro _ _ ⟨M10, fM10_0, rfl, rfl⟩; simp only [hp_next] at fM10_0
       try simp -dsimp -implicitDefEqProofs (maxDischargeDepth := 6) [q0, hp_over_some, hp_over_none, hp_over_some, hp_over_none]
       exact hK _ _ ⟨M9, M10, (by omega), (by omega), rfl, rfl⟩
      rintro a σ ⟨M9, M10, fM9_0, fM10_0, rfl, rfl⟩
      obtain ⟨r14, hr14, H⟩ := bindE H
      refine AWP_rt tok [] [7] (fun a σ => ∃ M11 : Nat, M10 + 3 ≤ M11 ∧ a = [(7, .ptr (N0 + 4) 0 0)] ∧ σ = hp E0 [(N0 + 4, some ⟨129, 2, [[.int .i64 r14.colors, .osl 47 5 (encL rInstr r14.list)]]⟩)] M11) (fun K hK => ?_) ?_
      ·
       skip
       simp -dsimp -implicitDefEqProofs (maxDischargeDepth := 6)
       refine (c121 (W0 := [[.int .i64 r13.colors, .osl 47 5 (encL rInstr r13.list)]]) (r0_ := 0) (H := hr14) (by simp []) (by simp [])).mono ?_; rintro _ _ ⟨M11, fM11_0, rfl, rfl⟩; simp only [hp_next] at fM11_0
       try simp -dsimp -implicitDefEqProofs (maxDischargeDepth := 6) [hp_over_some, hp_over_none]
       exact hK _ _ ⟨M11, (by omega), rfl, rfl⟩
      rintro a σ ⟨M11, fM11_0, ha, rfl⟩
      replace H := Option.some.inj H; subst H
      refine hJ1 _ _ ?_; rw [ha]
      exact Rc.fin (AHeap.Sub.refl _) ⟨M11, (by omega), (by omega), rfl, rfl⟩
     ·
      replace H := ifF C5 H
      refine AWP_sr tok [] [3, 7, 15, 67] (fun a σ => a = [(3, .fptr [.int .i64 p0.Op, .int .i64 p0.Dst, .int .i64 p0.A, .int .i64 p0.B, .int .i64 p0.N] 0), (7, .ptr (N0 + 4) 0 0), (15, .int .i64 p0.Op), (67, .bool (ieq p0.Op 6))] ∧ σ = hp E0 [(N0 + 4, some ⟨129, 2, [[.int .i64 p1, .nilsl]]⟩)] (N0 + 20)) (fun K hK => ?_) ?_
      ·
       skip
       simp -dsimp -implicitDefEqProofs (maxDischargeDepth := 6)
       exact hK _ _ ⟨rfl, rfl⟩
      rintro a σ ⟨rfl, rfl⟩
      refine AWP_cond (ieq p0.Op 6) rfl (fun C6 => ?_) (fun C6 => ?_)
      ·
       replace H := ifT C6 H
       refine gPk0 AWP_ref (o := (N0 + 4)) (ob := ⟨129, 2, [[.int .i64 p1, .nilsl]]⟩) (row := [.int .i64 p1, .nilsl]) (r := 0) (i := 1) 47 5 [(N0 + 4, some ⟨129, 2, [[.int .i64 p1, .osl 47 5 (encL rInstr ([] : List gInstr))]]⟩)] (by simp) rfl rfl (by simp) (by simp [encL_nil, List.set_set]) ?_
       obtain ⟨r15, hr15, H⟩ := bindE H
       obtain ⟨r16, hr16, H⟩ := bindE H
       obtain ⟨r17, hr17, H⟩ := bindE H
       obtain ⟨r18, hr18, H⟩ := bindE H
       have q1 : ∀ σ i, buildSliceA T 29 true i 2 [(0, .agg [.int .i64 r16.Op, .int .i64 r16.Rd, .int .i64 r16.Rs, .int .i64 r16.Rt, .int .i64 r16.Imm]), (1, .agg [.int .i64 r17.Op, .int .i64 r17.Rd, .int .i64 r17.Rs, .int .i64 r17.Rt, .int .i64 r17.Imm])] σ = some (.fsl (encL rInstr ([r16, r17] : List gInstr)), σ) := fun _ _ => rfl
       refine AWP_sd tok tokM [9] [4, 10] [0, 1, 2, 3, 6, 7, 4, 5, 8, 9, 10] [7] (fun a σ => ∃ M12 : Nat, ∃ M13 : Nat, N0 + 31 ≤ M12 ∧ M12 ≤ M13 ∧ a = [(7, .ptr (N0 + 4) 0 0)] ∧ σ = hp E0 [(N0 + 4, some ⟨129, 2, [[.int .i64 r18.colors, .osl 47 5 (encL rInstr r18.list)]]⟩)] M13) (by decide) (fun K hK => ?_) ?_
       ·
        simp only [pickL, nthO_succ, nthO_zero]
        simp -dsimp -implicitDefEqProofs (maxDischargeDepth := 6) [q1]
        refine (c117 (W0 := [[.int .i64 p1, .osl 47 5 (encL rInstr ([] : List gInstr))]]) (r0_ := 0) (H := hr15) (by simp [q1]) (by simp [q1])).mono ?_; rintro _ _ ⟨M12, fM12_0, rfl, rfl⟩; simp only [hp_next] at fM12_0
        try simp -dsimp -implicitDefEqProofs (maxDischargeDepth := 6) [q1, hp_over_some, hp_over_none]
        refine Pc.mk (c119 hr16) ?_; try simp -dsimp -implicitDefEqProofs (maxDischargeDepth := 6) [q1, hp_over_some, hp_over_none]
        refine Pc.mk (c119 hr17) ?_; try simp -dsimp -implicitDefEqProofs (maxDischargeDepth := 6) [q1, hp_over_some, hp_over_none]
        refine (c122 (W0 := [[.int .i64 r15.2.colors, .osl 47 5 (encL rInstr r15.2.list)]]) (r0_ := 0) (H := hr18) (by simp [q1, hp_over_some, hp_over_none]) (by simp [q1, hp_over_some, hp_over_none])).mono ?_; rintro _ _ ⟨M13, fM13_0, rfl, rfl⟩; simp only [hp_next] at fM13_0
        try simp -dsimp -implicitDefEqProofs (maxDischargeDepth := 6) [q1, hp_over_some, hp_over_none, hp_over_some, hp_over_none]
        exact hK _ _ ⟨M12, M13, (by omega), (by omega), rfl, rfl⟩
       rintro a σ ⟨M12, M13, fM12_0, fM13_0, rfl, rfl⟩
       obtain ⟨r19, hr19, H⟩ := bindE H
       refine AWP_rt tok [] [7] (fun a σ => ∃ M14 : Nat, M13 + 2 ≤ M14 ∧ a = [(7, .ptr (N0 + 4) 0 0)] ∧ σ = hp E0 [(N0 + 4, some ⟨129, 2, [[.int .i64 r19.colors, .osl 47 5 (encL rInstr r19.list)]]⟩)] M14) (fun K hK => ?_) ?_
       ·
        skip
        simp -dsimp -implicitDefEqProofs (maxDischargeDepth := 6)
        refine (c123 (W0 := [[.int .i64 r18.colors, .osl 47 5 (encL rInstr r18.list)]]) (r0_ := 0) (H := hr19) (by simp []) (by simp [])).mono ?_; rintro _ _ ⟨M14, fM14_0, rfl, rfl⟩; simp only [hp_next] at fM14_0
        try simp -dsimp -implicitDefEqProofs (maxDischargeDepth := 6) [hp_over_some, hp_over_none]
        exact hK _ _ ⟨M14, (by omega), rfl, rfl⟩
       rintro a σ ⟨M14, fM14_0, ha, rfl⟩
       replace H := Option.some.inj H; subst H
       refine hJ1 _ _ ?_; rw [ha]
       exact Rc.fin (AHeap.Sub.refl _) ⟨M14, (by omega), (by omega), rfl, rfl⟩
      ·
       replace H := ifF C6 H
       refine AWP_sr tok [] [3, 7, 15, 82] (fun a σ => a = [(3, .fptr [.int .i64 p0.Op, .int .i64 p0.Dst, .int .i64 p0.A, .int .i64 p0.B, .int .i64 p0.N] 0), (7, .ptr (N0 + 4) 0 0), (15, .int .i64 p0.Op), (82, .bool (ieq p0.Op 7))] ∧ σ = hp E0 [(N0 + 4, some ⟨129, 2, [[.int .i64 p1, .nilsl]]⟩)] (N0 + 22)) (fun K hK => ?_) ?_
       ·
        skip
        simp -dsimp -implicitDefEqProofs (maxDischargeDepth := 6)
        exact hK _ _ ⟨rfl, rfl⟩
       rintro a σ ⟨rfl, rfl⟩
       refine AWP_cond (ieq p0.Op 7) rfl (fun C7 => ?_) (fun C7 => ?_)
       ·
        replace H := ifT C7 H
        refine gPk0 AWP_ref (o := (N0 + 4)) (ob := ⟨129, 2, [[.int .i64 p1, .nilsl]]⟩) (row := [.int .i64 p1, .nilsl]) (r := 0) (i := 1) 47 5 [(N0 + 4, some ⟨129, 2, [[.int .i64 p1, .osl 47 5 (encL rInstr ([] : List gInstr))]]⟩)] (by simp) rfl rfl (by simp) (by simp [encL_nil, List.set_set]) ?_
        obtain ⟨r20, hr20, H⟩ := bindE H
        obtain ⟨r21, hr21, H⟩ := bindE H
        have q2 : ∀ σ i, buildSliceA T 29 true i 1 [(0, .agg [.int .i64 r20.Op, .int .i64 r20.Rd, .int .i64 r20.Rs, .int .i64 r20.Rt, .int .i64 r20.Imm])] σ = some (.fsl (encL rInstr ([r20] : List gInstr)), σ) := fun _ _ => rfl
        refine AWP_sr tok [4] [3, 7] (fun a σ => ∃ M15 : Nat, N0 + 28 ≤ M15 ∧ a = [(3, .fptr [.int .i64 p0.Op, .int .i64 p0.Dst, .int .i64 p0.A, .int .i64 p0.B, .int .i64 p0.N] 0), (7, .ptr (N0 + 4) 0 0)] ∧ σ = hp E0 [(N0 + 4, some ⟨129, 2, [[.int .i64 r21.colors, .osl 47 5 (encL rInstr r21.list)]]⟩)] M15) (fun K hK => ?_) ?_
        ·
         skip
         simp -dsimp -implicitDefEqProofs (maxDischargeDepth := 6) [q2]
         refine (c119 hr20).app ?_; try simp -dsimp -implicitDefEqProofs (maxDischargeDepth := 6) [q2]
         refine (c122 (W0 := [[.int .i64 p1, .osl 47 5 (encL rInstr ([] : List gInstr))]]) (r0_ := 0) (H := hr21) (by simp [q2]) (by simp [q2])).mono ?_; rintro _ _ ⟨M15, fM15_0, rfl, rfl⟩; simp only [hp_next] at fM15_0
         try simp -dsimp -implicitDefEqProofs (maxDischargeDepth := 6) [q2, hp_over_some, hp_over_none]
         exact hK _ _ ⟨M15, (by omega), rfl, rfl⟩
        rintro a σ ⟨M15, fM15_0, rfl, rfl⟩
        obtain ⟨r22, hr22, H⟩ := bindE H
        refine AWP_sr tok [] [3, 7] (fun a σ => ∃ M16 : Nat, M15 + 2 ≤ M16 ∧ a = [(3, .fptr [.int .i64 p0.Op, .int .i64 p0.Dst, .int .i64 p0.A, .int .i64 p0.B, .int .i64 p0.N] 0), (7, .ptr (N0 + 4) 0 0)] ∧ σ = hp E0 [(N0 + 4, some ⟨129, 2, [[.int .i64 r22.colors, .osl 47 5 (encL rInstr r22.list)]]⟩)] M16) (fun K hK => ?_) ?_
        ·
         skip
         simp -dsimp -implicitDefEqProofs (maxDischargeDepth := 6)
         refine (c123 (W0 := [[.int .i64 r21.colors, .osl 47 5 (encL rInstr r21.list)]]) (r0_ := 0) (H := hr22) (by simp []) (by simp [])).mono ?_; rintro _ _ ⟨M16, fM16_0, rfl, rfl⟩; simp only [hp_next] at fM16_0
         try simp -dsimp -implicitDefEqProofs (maxDischargeDepth := 6) [hp_over_some, hp_over_none]
         exact hK _ _ ⟨M16, (by omega), rfl, rfl⟩
        rintro a σ ⟨M16, fM16_0, rfl, rfl⟩
        obtain ⟨r23, hr23, H⟩ := bindE H
        refine AWP_rt tok [] [7] (fun a σ => ∃ M17 : Nat, M16 + 4 ≤ M17 ∧ a = [(7, .ptr (N0 + 4) 0 0)] ∧ σ = hp E0 [(N0 + 4, some ⟨129, 2, [[.int .i64 r23.colors, .osl 47 5 (encL rInstr r23.list)]]⟩)] M17) (fun K hK => ?_) ?_
        ·
         skip
         simp -dsimp -implicitDefEqProofs (maxDischargeDepth := 6)
         refine (c115_i_quadInstrs_4 (W0 := [[.int .i64 r22.colors, .osl 47 5 (encL rInstr r22.list)]]) (r0_ := 0) (H := hr23) (by simp []) (by simp [])).mono ?_; rintro _ _ ⟨M17, fM17_0, rfl, rfl⟩; simp only [hp_next] at fM17_0
         try simp -dsimp -implicitDefEqProofs (maxDischargeDepth := 6) [hp_over_some, hp_over_none]
         exact hK _ _ ⟨M17, (by omega), rfl, rfl⟩
        rintro a σ ⟨M17, fM17_0, ha, rfl⟩
        replace H := Option.some.inj H; subst H
        refine hJ1 _ _ ?_; rw [ha]
        exact Rc.fin (AHeap.Sub.refl _) ⟨M17, (by omega), (by omega), rfl, rfl⟩
       ·
        replace H := ifF C7 H
        refine AWP_sr tok [] [3, 7, 15, 96] (fun a σ => a = [(3, .fptr [.int .i64 p0.Op, .int .i64 p0.Dst, .int .i64 p0.A, .int .i64 p0.B, .int .i64 p0.N] 0), (7, .ptr (N0 + 4) 0 0), (15, .int .i64 p0.Op), (96, .bool (ieq p0.Op 8))] ∧ σ = hp E0 [(N0 + 4, some ⟨129, 2, [[.int .i64 p1, .nilsl]]⟩)] (N0 + 24)) (fun K hK => ?_) ?_
        ·
         skip
         simp -dsimp -implicitDefEqProofs (maxDischargeDepth := 6)
         exact hK _ _ ⟨rfl, rfl⟩
        rintro a σ ⟨rfl, rfl⟩
        refine AWP_cond (ieq p0.Op 8) rfl (fun C8 => ?_) (fun C8 => ?_)
        ·
         replace H := ifT C8 H
         refine gPk0 AWP_ref (o := (N0 + 4)) (ob := ⟨129, 2, [[.int .i64 p1, .nilsl]]⟩) (row := [.int .i64 p1, .nilsl]) (r := 0) (i := 1) 47 5 [(N0 + 4, some ⟨129, 2, [[.int .i64 p1, .osl 47 5 (encL rInstr ([] : List gInstr))]]⟩)] (by simp) rfl rfl (by simp) (by simp [encL_nil, List.set_set]) ?_
         obtain ⟨r24, hr24, H⟩ := bindE H
         refine AWP_rt tok [] [7] (fun a σ => ∃ M18 : Nat, N0 + 26 ≤ M18 ∧ a = [(7, .ptr (N0 + 4) 0 0)] ∧ σ = hp E0 [(N0 + 4, some ⟨129, 2, [[.int .i64 r24.colors, .osl 47 5 (encL rInstr r24.list)]]⟩)] M18) (fun K hK => ?_) ?_
         ·
          skip
          simp -dsimp -implicitDefEqProofs (maxDischargeDepth := 6)
          refine (c123 (W0 := [[.int .i64 p1, .osl 47 5 (encL rInstr ([] : List gInstr))]]) (r0_ := 0) (H := hr24) (by simp []) (by simp [])).mono ?_; rintro _ _ ⟨M18, fM18_0, rfl, rfl⟩; simp only [hp_next] at fM18_0
          try simp -dsimp -implicitDefEqProofs (maxDischargeDepth := 6) [hp_over_some, hp_over_none]
          exact hK _ _ ⟨M18, (by omega), rfl, rfl⟩
         rintro a σ ⟨M18, fM18_0, ha, rfl⟩
         replace H := Option.some.inj H; subst H
         refine hJ1 _ _ ?_; rw [ha]
         exact Rc.fin (AHeap.Sub.refl _) ⟨M18, (by omega), (by omega), rfl, rfl⟩
        ·
         replace H := ifF C8 H
         refine AWP_sr tok [] [3, 7, 15, 100] (fun a σ => a = [(3, .fptr [.int .i64 p0.Op, .int .i64 p0.Dst, .int .i64 p0.A, .int .i64 p0.B, .int .i64 p0.N] 0), (7, .ptr (N0 + 4) 0 0), (15, .int .i64 p0.Op), (100, .bool (ieq p0.Op 9))] ∧ σ = hp E0 [(N0 + 4, some ⟨129, 2, [[.int .i64 p1, .nilsl]]⟩)] (N0 + 26)) (fun K hK => ?_) ?_
         ·
          skip
          simp -dsimp -implicitDefEqProofs (maxDischargeDepth := 6)
          exact hK _ _ ⟨rfl, rfl⟩
         rintro a σ ⟨rfl, rfl⟩
         refine AWP_cond (ieq p0.Op 9) rfl (fun C9 => ?_) (fun C9 => ?_)
         ·
          replace H := ifT C9 H
          refine gPk0 AWP_ref (o := (N0 + 4)) (ob := ⟨129, 2, [[.int .i64 p1, .nilsl]]⟩) (row := [.int .i64 p1, .nilsl]) (r := 0) (i := 1) 47 5 [(N0 + 4, some ⟨129, 2, [[.int .i64 p1, .osl 47 5 (encL rInstr ([] : List gInstr))]]⟩)] (by simp) rfl rfl (by simp) (by simp [encL_nil, List.set_set]) ?_
          obtain ⟨r25, hr25, H⟩ := bindE H
          obtain ⟨r26, hr26, H⟩ := bindE H
          obtain ⟨r27, hr27, H⟩ := bindE H
          have q3 : ∀ σ i, buildSliceA T 29 true i 1 [(0, .agg [.int .i64 r26.Op, .int .i64 r26.Rd, .int .i64 r26.Rs, .int .i64 r26.Rt, .int .i64 r26.Imm])] σ = some (.fsl (encL rInstr ([r26] : List gInstr)), σ) := fun _ _ => rfl
          refine AWP_sr tok [6] [7] (fun a σ => ∃ M19 : Nat, ∃ M20 : Nat, N0 + 34 ≤ M19 ∧ M19 ≤ M20 ∧ a = [(7, .ptr (N0 + 4) 0 0)] ∧ σ = hp E0 [(N0 + 4, some ⟨129, 2, [[.int .i64 r27.colors, .osl 47 5 (encL rInstr r27.list)]]⟩)] M20) (fun K hK => ?_) ?_
          ·
           skip
           simp -dsimp -implicitDefEqProofs (maxDischargeDepth := 6) [q3]
           refine (c117 (W0 := [[.int .i64 p1, .osl 47 5 (encL rInstr ([] : List gInstr))]]) (r0_ := 0) (H := hr25) (by simp [q3]) (by simp [q3])).mono ?_; rintro _ _ ⟨M19, fM19_0, rfl, rfl⟩; simp only [hp_next] at fM19_0
           try simp -dsimp -implicitDefEqProofs (maxDischargeDepth := 6) [q3, hp_over_some, hp_over_none]
           refine (c119 hr26).app ?_; try simp -dsimp -implicitDefEqProofs (maxDischargeDepth := 6) [q3, hp_over_some, hp_over_none]
           refine (c122 (W0 := [[.int .i64 r25.2.colors, .osl 47 5 (encL rInstr r25.2.list)]]) (r0_ := 0) (H := hr27) (by simp [q3, hp_over_some, hp_over_none]) (by simp [q3, hp_over_some, hp_over_none])).mono ?_; rintro _ _ ⟨M20, fM20_0, rfl, rfl⟩; simp only [hp_next] at fM20_0
           try simp -dsimp -implicitDefEqProofs (maxDischargeDepth := 6) [q3, hp_over_some, hp_over_none, hp_over_some, hp_over_none]
           exact hK _ _ ⟨M19, M20, (by omega), (by omega), rfl, rfl⟩
          rintro a σ ⟨M19, M20, fM19_0, fM20_0, rfl, rfl⟩
          obtain ⟨r28, hr28, H⟩ := bindE H
          refine AWP_rt tok [] [7] (fun a σ => ∃ M21 : Nat, M20 + 2 ≤ M21 ∧ a = [(7, .ptr (N0 + 4) 0 0)] ∧ σ = hp E0 [(N0 + 4, some ⟨129, 2, [[.int .i64 r28.colors, .osl 47 5 (encL rInstr r28.list)]]⟩)] M21) (fun K hK => ?_) ?_
          ·
           skip
           simp -dsimp -implicitDefEqProofs (maxDischargeDepth := 6)
           refine (c123 (W0 := [[.int .i64 r27.colors, .osl 47 5 (encL rInstr r27.list)]]) (r0_ := 0) (H := hr28) (by simp []) (by simp [])).mono ?_; rintro _ _ ⟨M21, fM21_0, rfl, rfl⟩; simp only [hp_next] at fM21_0
           try simp -dsimp -implicitDefEqProofs (maxDischargeDepth := 6) [hp_over_some, hp_over_none]
           exact hK _ _ ⟨M21, (by omega), rfl, rfl⟩
          rintro a σ ⟨M21, fM21_0, ha, rfl⟩
          replace H := Option.some.inj H; subst H
          refine hJ1 _ _ ?_; rw [ha]
          exact Rc.fin (AHeap.Sub.refl _) ⟨M21, (by omega), (by omega), rfl, rfl⟩
         ·
          replace H := ifF C9 H
          refine AWP_sr tok [] [7, 112] (fun a σ => a = [(7, .ptr (N0 + 4) 0 0), (112, .bool (ieq p0.Op 10))] ∧ σ = hp E0 [(N0 + 4, some ⟨129, 2, [[.int .i64 p1, .nilsl]]⟩)] (N0 + 28)) (fun K hK => ?_) ?_
          ·
           skip
           simp -dsimp -implicitDefEqProofs (maxDischargeDepth := 6)
           exact hK _ _ ⟨rfl, rfl⟩
          rintro a σ ⟨rfl, rfl⟩
          refine AWP_cond (ieq p0.Op 10) rfl (fun C10 => ?_) (fun C10 => ?_)
          ·
           replace H := ifT C10 H
           refine gPk0 AWP_ref (o := (N0 + 4)) (ob := ⟨129, 2, [[.int .i64 p1, .nilsl]]⟩) (row := [.int .i64 p1, .nilsl]) (r := 0) (i := 1) 47 5 [(N0 + 4, some ⟨129, 2, [[.int .i64 p1, .osl 47 5 (encL rInstr ([] : List gInstr))]]⟩)] (by simp) rfl rfl (by simp) (by simp [encL_nil, List.set_set]) ?_
           obtain ⟨r29, hr29, H⟩ := bindE H
           refine AWP_rt tok [] [7] (fun a σ => ∃ M22 : Nat, N0 + 30 ≤ M22 ∧ a = [(7, .ptr (N0 + 4) 0 0)] ∧ σ = hp E0 [(N0 + 4, some ⟨129, 2, [[.int .i64 r29.colors, .osl 47 5 (encL rInstr r29.list)]]⟩)] M22) (fun K hK => ?_) ?_
           ·
            skip
            simp -dsimp -implicitDefEqProofs (maxDischargeDepth := 6)
            refine (c123 (W0 := [[.int .i64 p1, .osl 47 5 (encL rInstr ([] : List gInstr))]]) (r0_ := 0) (H := hr29) (by simp []) (by simp [])).mono ?_; rintro _ _ ⟨M22, fM22_0, rfl, rfl⟩; simp only [hp_next] at fM22_0
            try simp -dsimp -implicitDefEqProofs (maxDischargeDepth := 6) [hp_over_some, hp_over_none]
            exact hK _ _ ⟨M22, (by omega), rfl, rfl⟩
           rintro a σ ⟨M22, fM22_0, ha, rfl⟩
           replace H := Option.some.inj H; subst H
           refine hJ1 _ _ ?_; rw [ha]
           exact Rc.fin (AHeap.Sub.refl _) ⟨M22, (by omega), (by omega), rfl, rfl⟩
          ·
           replace H := ifF C10 H
           refine AWP_skip ?_
           show K1 _ _
           refine keepE (l := [7]) (x := [(7, .ptr (N0 + 4) 0 0)]) rfl fun a' ha => ?_
           replace H := Option.some.inj H; subst H
           refine hJ1 _ _ ?_; rw [ha]
           refine gPk0 Rc_ref (o := (N0 + 4)) (ob := ⟨129, 2, [[.int .i64 p1, .nilsl]]⟩) (row := [.int .i64 p1, .nilsl]) (r := 0) (i := 1) 47 5 [(N0 + 4, some ⟨129, 2, [[.int .i64 p1, .osl 47 5 (encL rInstr ([] : List gInstr))]]⟩)] (by simp) rfl rfl (by simp) (by simp [encL_nil, List.set_set]) ?_
           exact Rc.fin (AHeap.Sub.refl _) ⟨N0 + 28, (by omega), (by omega), rfl, rfl⟩
theorem c25_o {p0 : gQuad} {p1 : Int} {p2 : Int} {r : (List gInstr) × Bool} (H : i_QuadInstrs_o p0 p1 p2 = some r) {σ : AHeap} : ACalls Tryd.prog G 25 [.agg [.int .i64 p0.Op, .int .i64 p0.Dst, .int .i64 p0.A, .int .i64 p0.B, .int .i64 p0.N], .int .i64 p1, .int .i64 p2] σ (fun v σ' => ∃ M n0 : Nat, σ.next ≤ M ∧ σ.next ≤ n0 ∧ n0 < M ∧ v = .tup [.sl n0 0 r.1.length, .bool r.2] ∧ σ' = hp σ.objs [(n0, some ⟨47, 5, encL rInstr r.1⟩)] M) := by
 refine ACalls_fr (L := []) (Q1 := fun v σ' => ∃ M n0 : Nat, σ.next ≤ M ∧ σ.next ≤ n0 ∧ n0 < M ∧ v = .tup [.sl n0 0 r.1.length, .bool r.2] ∧ σ' = hp E0 [(n0, some ⟨47, 5, encL rInstr r.1⟩)] M) (by simp []) (fun hlt => ?_) ?_ ⟨_, Tryd.func25, rfl, rfl⟩
 rotate_left
 ·
  rintro v σ1 ⟨M, n0, h0, h1, h2, rfl, rfl⟩
  exact ⟨_, M, rfl, by simp, by simp; try omega, M, n0, h0, h1, h2, rfl, rfl⟩
 generalize σ.next = N0 at hlt ⊢
 refine ACalls_fn tok Tryd.func25 (by kernel_rfl) rfl Tryd.ntmps25 Tryd.results25 rfl ?_
 simp only [argsA, Nat.reduceAdd, hp_next]
 unfold i_QuadInstrs_o at H
 refine AWP_sr tok [0] [1, 2, 3] (fun a σ => a = [(1, .int .i64 p1), (2, .int .i64 p2), (3, .fptr [.int .i64 p0.Op, .int .i64 p0.Dst, .int .i64 p0.A, .int .i64 p0.B, .int .i64 p0.N] 0)] ∧ σ = hp E0 [] (N0 + 3)) (fun K hK => ?_) ?_
 ·
  skip
  simp -dsimp -implicitDefEqProofs (maxDischargeDepth := 6)
  exact hK _ _ ⟨rfl, rfl⟩
 rintro a σ ⟨rfl, rfl⟩
 refine AWP_sq [1, 2, 3] fun K1 hK1 => ?_
 obtain ⟨r1, hr1, H⟩ := bindE H
 obtain ⟨g2, hg2, H⟩ := bindE H
 obtain ⟨g3, hg3, H⟩ := bindE H
 obtain ⟨g5, hg5, H⟩ := bindE H
 obtain ⟨g6, hg6, H⟩ := bindE H
 obtain ⟨g7, hg7, H⟩ := bindE H
 refine AWP_sr tok [] [1, 2, 3, 31] (fun a σ => a = [(1, .int .i64 p1), (2, .int .i64 p2), (3, .fptr [.int .i64 p0.Op, .int .i64 p0.Dst, .int .i64 p0.A, .int .i64 p0.B, .int .i64 p0.N] 0), (31, .bool g7)] ∧ σ = hp E0 [] (N0 + 27)) (fun K hK => ?_) ?_
 ·
  skip
  simp -dsimp -implicitDefEqProofs (maxDischargeDepth := 6)
  refine (c67 hr1).app ?_; try simp -dsimp -implicitDefEqProofs (maxDischargeDepth := 6)
  cases hbg2 : bnot r1
  ·
   replace hg2 := ifF hbg2 hg2
   replace hg2 := Option.some.inj hg2; subst hg2
   try simp -dsimp -implicitDefEqProofs (maxDischargeDepth := 6) [hbg2]
   cases hbg3 : (ilt p1 1)
   ·
    replace hg3 := ifF hbg3 hg3
    replace hg3 := Option.some.inj hg3; subst hg3
    try simp -dsimp -implicitDefEqProofs (maxDischargeDepth := 6) [hbg2, hbg3]
    cases hbg5 : (igt p1 8)
    ·
     replace hg5 := ifF hbg5 hg5
     obtain ⟨v4, hv4, hg5⟩ := bindE hg5
     replace hg5 := Option.some.inj hg5; subst hg5
     try simp -dsimp -implicitDefEqProofs (maxDischargeDepth := 6) [hbg2, hbg3, hbg5, hv4]
     cases hbg6 : (ine v4 0)
     ·
      replace hg6 := ifF hbg6 hg6
      replace hg6 := Option.some.inj hg6; subst hg6
      try simp -dsimp -implicitDefEqProofs (maxDischargeDepth := 6) [hbg2, hbg3, hbg5, hv4, hbg6]
      cases hbg7 : (ilt p2 (-100000))
      ·
       replace hg7 := ifF hbg7 hg7
       replace hg7 := Option.some.inj hg7; subst hg7
       try simp -dsimp -implicitDefEqProofs (maxDischargeDepth := 6) [hbg2, hbg3, hbg5, hv4, hbg6, hbg7]
       exact hK _ _ ⟨rfl, rfl⟩
      ·
       replace hg7 := ifT hbg7 hg7
       replace hg7 := Option.some.inj hg7; subst hg7
       try simp -dsimp -implicitDefEqProofs (maxDischargeDepth := 6) [hbg2, hbg3, hbg5, hv4, hbg6, hbg7]
       exact hK _ _ ⟨rfl, rfl⟩
     ·
      replace hg6 := ifT hbg6 hg6
      replace hg6 := Option.some.inj hg6; subst hg6
      try simp -dsimp -implicitDefEqProofs (maxDischargeDepth := 6) [hbg2, hbg3, hbg5, hv4, hbg6]
      replace hg7 := ifT rfl hg7
      replace hg7 := Option.some.inj hg7; subst hg7
      try simp -dsimp -implicitDefEqProofs (maxDischargeDepth := 6) [hbg2, hbg3, hbg5, hv4, hbg6]
      exact hK _ _ ⟨rfl, rfl⟩
    ·
     replace hg5 := ifT hbg5 hg5
     replace hg5 := Option.some.inj hg5; subst hg5
     try simp -dsimp -implicitDefEqProofs (maxDischargeDepth := 6) [hbg2, hbg3, hbg5]
     replace hg6 := ifT rfl hg6
     replace hg6 := Option.some.inj hg6; subst hg6
     try simp -dsimp -implicitDefEqProofs (maxDischargeDepth := 6) [hbg2, hbg3, hbg5]
     replace hg7 := ifT rfl hg7
     replace hg7 := Option.some.inj hg7; subst hg7
     try simp -dsimp -implicitDefEqProofs (maxDischargeDepth := 6) [hbg2, hbg3, hbg5]
     exact hK _ _ ⟨rfl, rfl⟩
   ·
    replace hg3 := ifT hbg3 hg3
    replace hg3 := Option.some.inj hg3; subst hg3
    try simp -dsimp -implicitDefEqProofs (maxDischargeDepth := 6) [hbg2, hbg3]
    replace hg5 := ifT rfl hg5
    replace hg5 := Option.some.inj hg5; subst hg5
    try simp -dsimp -implicitDefEqProofs (maxDischargeDepth := 6) [hbg2, hbg3]
    replace hg6 := ifT rfl hg6
    replace hg6 := Option.some.inj hg6; subst hg6
    try simp -dsimp -implicitDefEqProofs (maxDischargeDepth := 6) [hbg2, hbg3]
    replace hg7 := ifT rfl hg7
    replace hg7 := Option.some.inj hg7; subst hg7
    try simp -dsimp -implicitDefEqProofs (maxDischargeDepth := 6) [hbg2, hbg3]
    exact hK _ _ ⟨rfl, rfl⟩
  ·
   replace hg2 := ifT hbg2 hg2
   replace hg2 := Option.some.inj hg2; subst hg2
   try simp -dsimp -implicitDefEqProofs (maxDischargeDepth := 6) [hbg2]
   replace hg3 := ifT rfl hg3
   replace hg3 := Option.some.inj hg3; subst hg3
   try simp -dsimp -implicitDefEqProofs (maxDischargeDepth := 6) [hbg2]
   replace hg5 := ifT rfl hg5
   replace hg5 := Option.some.inj hg5; subst hg5
   try simp -dsimp -implicitDefEqProofs (maxDischargeDepth := 6) [hbg2]
   replace hg6 := ifT rfl hg6
   replace hg6 := Option.some.inj hg6; subst hg6
   try simp -dsimp -implicitDefEqProofs (maxDischargeDepth := 6) [hbg2]
   replace hg7 := ifT rfl hg7
   replace hg7 := Option.some.inj hg7; subst hg7
   try simp -dsimp -implicitDefEqProofs (maxDischargeDepth := 6) [hbg2]
   exact hK _ _ ⟨rfl, rfl⟩
 rintro a σ ⟨rfl, rfl⟩
 refine AWP_cond g7 rfl (fun C1 => ?_) (fun C1 => ?_)
 ·
  replace H := ifT C1 H
  refine AWP_sr tok [] [6, 7] (fun a σ => a = [(6, .nilsl), (7, .bool false)] ∧ σ = hp E0 [] (N0 + 29)) (fun K hK => ?_) ?_
  ·
   skip
   simp -dsimp -implicitDefEqProofs (maxDischargeDepth := 6)
   exact hK _ _ ⟨rfl, rfl⟩
  rintro a σ ⟨rfl, rfl⟩
  replace H := Option.some.inj H; subst H
  refine AWP_kp [6, 7] [(6, .nilsl), (7, .bool false)] rfl ?_
  refine gNilS AWP_ref 6 47 5 [(N0 + 29, some ⟨47, 5, encL rInstr ([] : List gInstr)⟩)] [(6, .sl (N0 + 29) 0 ([] : List gInstr).length), (7, .bool false)] (by simp) (by simp [encL_nil]) [6, 7] rfl ?_
  refine AWP_ret ?_
  refine ⟨[.sl (N0 + 29) 0 ([] : List gInstr).length, .bool false], by simp, N0 + 30, N0 + 29, by omega, by omega, by omega, ?_, ?_⟩
  ·
   simp [encL_nil]
  ·
   first | rfl | simp [List.set_set]
 ·
  replace H := ifF C1 H
  refine AWP_skip ?_
  show K1 _ _
  refine keepE (l := [1, 2, 3]) (x := [(1, .int .i64 p1), (2, .int .i64 p2), (3, .fptr [.int .i64 p0.Op, .int .i64 p0.Dst, .int .i64 p0.A, .int .i64 p0.B, .int .i64 p0.N] 0)]) rfl fun a' ha => ?_
  refine hK1 _ _ ?_; rw [ha]
  refine Rc.mk ?_
  obtain ⟨r8, hr8, H⟩ := bindE H
  refine AWP_sr tok [] [6, 7] (fun a σ => ∃ M1 o1 : Nat, N0 + 33 ≤ M1 ∧ N0 + 33 ≤ o1 ∧ o1 < M1 ∧ a = [(6, .sl o1 0 r8.length), (7, .bool true)] ∧ σ = hp E0 [(o1, some ⟨47, 5, encL rInstr r8⟩)] M1) (fun K hK => ?_) ?_
  ·
   skip
   simp -dsimp -implicitDefEqProofs (maxDischargeDepth := 6)
   refine (c68_o (H := hr8) ).mono ?_; rintro _ _ ⟨M1, o1, fM1_0, fM1_1, fM1_2, rfl, rfl⟩; simp only [hp_next] at fM1_0 fM1_1 fM1_2
   try simp -dsimp -implicitDefEqProofs (maxDischargeDepth := 6) [hp_over_some, hp_over_none]
   exact hK _ _ ⟨M1, o1, (by omega), (by omega), (by omega), rfl, rfl⟩
  rintro a σ ⟨M1, o1, fM1_0, fM1_1, fM1_2, rfl, rfl⟩
  replace H := Option.some.inj H; subst H
  refine AWP_kp [6, 7] [(6, .sl o1 0 r8.length), (7, .bool true)] rfl ?_
  refine AWP_ret ?_
  refine ⟨[.sl o1 0 r8.length, .bool true], by simp, M1, o1, by omega, by omega, by omega, ?_, ?_⟩
  ·
   simp [encL_nil]
  ·
   first | rfl | simp [List.set_set]
theorem c26 {p0 : (List gInstr)} {p1 : Int} {r : Int} (H : l_heldInstrS p0 p1 = some r) : APure Tryd.prog G 26 [.fsl (encL rInstr p0), .int .i64 p1] (.int .i64 r) := by
 refine APure_fn (fun N0 => ?_) (by simp)
 refine ACalls_fn tok Tryd.func26 (by kernel_rfl) rfl Tryd.ntmps26 Tryd.results26 rfl ?_
 simp only [argsA, Nat.reduceAdd, hp_next]
 unfold l_heldInstrS at H
 refine AWP_sr tok [] [0, 1] (fun a σ => a = [(0, .fsl (encL rInstr p0)), (1, .int .i64 p1)] ∧ σ = hp E0 [] (N0 + 1)) (fun K hK => ?_) ?_
 ·
  skip
  simp -dsimp -implicitDefEqProofs (maxDischargeDepth := 6)
  exact hK _ _ ⟨rfl, rfl⟩
 rintro a σ ⟨rfl, rfl⟩
 refine AWP_sq [1] fun K1 hK1 => ?_
 refine AWP_sr tok [] [0, 1, 5] (fun a σ => a = [(0, .fsl (encL rInstr p0)), (1, .int .i64 p1), (5, .int .i64 0)] ∧ σ = hp E0 [] (N0 + 2)) (fun K hK => ?_) ?_
 ·
  skip
  simp -dsimp -implicitDefEqProofs (maxDischargeDepth := 6)
  exact hK _ _ ⟨rfl, rfl⟩
 rintro a σ ⟨rfl, rfl⟩
 refine AWP_block (AWP_thenB ?_)
 obtain ⟨e1, hse1, H⟩ := bindE H
 refine AWP_lp [0, 1, 5] (fun s a σ => ∃ M1 : Nat, N0 ≤ M1 ∧ a = [(0, .fsl (encL rInstr p0)), (1, .int .i64 s.1), (5, .int .i64 s.2)] ∧ σ = hp E0 [] M1) (fun e x a σ => match e with | .inl s => x = .exit 0 ∧ Rc G 58 N0 (fun a σ => ∃ M2 : Nat, N0 ≤ M2 ∧ a = [(1, .int .i64 s)] ∧ σ = hp E0 [] M2) (AAct.keep a [1]) σ | .inr s => x = .ret ∧ ∃ vs, resA T σ a [.tmp 4] = some vs ∧ ∃ d, thawA (fun _ => true) σ d (tupA vs) = .int .i64 s) hse1 ?_ ?_ ?_
 ·
  refine Rc.kp [0, 1, 5] [(0, .fsl (encL rInstr p0)), (1, .int .i64 p1), (5, .int .i64 0)] rfl ?_
  exact Rc.fin (AHeap.Sub.refl _) ⟨N0 + 2, (by omega), rfl, rfl⟩
 ·
  clear H hse1
  rintro ⟨s1, s2⟩ fl a σ H ⟨M1, fM1_0, rfl, rfl⟩ K2 O2 hK2 hO2
  unfold l_heldInstrS_L1 at H; dsimp only at H
  refine AWP_sq [0, 1, 5] fun K3 hK3 => ?_
  refine AWP_sr tok [] [0, 1, 5, 9] (fun a σ => a = [(0, .fsl (encL rInstr p0)), (1, .int .i64 s1), (5, .int .i64 s2), (9, .bool (ilt s2 (ilen p0)))] ∧ σ = hp E0 [] (M1 + 4)) (fun K hK => ?_) ?_
  ·
   skip
   simp -dsimp -implicitDefEqProofs (maxDischargeDepth := 6)
   exact hK _ _ ⟨rfl, rfl⟩
  rintro a σ ⟨rfl, rfl⟩
  refine AWP_cond (ilt s2 (ilen p0)) rfl (fun C1 => ?_) (fun C1 => ?_)
  ·
   replace H := ifT C1 H
   refine AWP_skip ?_
   show K3 _ _
   refine keepE (l := [0, 1, 5]) (x := [(0, .fsl (encL rInstr p0)), (1, .int .i64 s1), (5, .int .i64 s2)]) rfl fun a' ha => ?_
   refine hK3 _ _ ?_; rw [ha]
   refine Rc.mk ?_
   refine AWP_sq [0, 1, 5] fun K4 hK4 => ?_
   refine AWP_block (AWP_thenB ?_)
   refine AWP_sq [0, 1, 5] fun K5 hK5 => ?_
   obtain ⟨v4, hv4, H⟩ := bindE H
   refine AWP_sr tok [] [0, 1, 5, 18] (fun a σ => a = [(0, .fsl (encL rInstr p0)), (1, .int .i64 s1), (5, .int .i64 s2), (18, .bool (ine v4.Op s1))] ∧ σ = hp E0 [] (M1 + 11)) (fun K hK => ?_) ?_
   ·
    skip
    simp -dsimp -implicitDefEqProofs (maxDischargeDepth := 6) [ix29 hv4]
    exact hK _ _ ⟨rfl, rfl⟩
   rintro a σ ⟨rfl, rfl⟩
   refine AWP_cond (ine v4.Op s1) rfl (fun C2 => ?_) (fun C2 => ?_)
   ·
    replace H := ifT C2 H
    refine AWP_sr tok [] [4] (fun a σ => a = [(4, .int .i64 (-1))] ∧ σ = hp E0 [] (M1 + 12)) (fun K hK => ?_) ?_
    ·
     skip
     simp -dsimp -implicitDefEqProofs (maxDischargeDepth := 6)
     exact hK _ _ ⟨rfl, rfl⟩
    rintro a σ ⟨rfl, rfl⟩
    replace H := Option.some.inj H; subst H
    refine AWP_kp [4] [(4, .int .i64 (-1))] rfl ?_
    refine AWP_ret (hO2 _ _ _ _ rfl ⟨rfl, ?_⟩)
    exact ⟨[.int .i64 (-1)], by simp, 4, by simp [encL_nil]⟩
   ·
    replace H := ifF C2 H
    refine AWP_skip ?_
    show K5 _ _
    refine keepE (l := [0, 1, 5]) (x := [(0, .fsl (encL rInstr p0)), (1, .int .i64 s1), (5, .int .i64 s2)]) rfl fun a' ha => ?_
    refine hK5 _ _ ?_; rw [ha]
    refine Rc.mk ?_
    refine AWP_sr tok [] [0, 1, 5] (fun a σ => a = [(0, .fsl (encL rInstr p0)), (1, .int .i64 (iadd .i64 s1 1)), (5, .int .i64 s2)] ∧ σ = hp E0 [] (M1 + 14)) (fun K hK => ?_) ?_
    ·
     skip
     simp -dsimp -implicitDefEqProofs (maxDischargeDepth := 6)
     exact hK _ _ ⟨rfl, rfl⟩
    rintro a σ ⟨rfl, rfl⟩
    refine AWP_sq [0, 1, 5] fun K6 hK6 => ?_
    refine AWP_sr tok [] [0, 1, 5, 27] (fun a σ => a = [(0, .fsl (encL rInstr p0)), (1, .int .i64 (iadd .i64 s1 1)), (5, .int .i64 s2), (27, .bool (ine v4.Rd (iadd .i64 s1 1)))] ∧ σ = hp E0 [] (M1 + 21)) (fun K hK => ?_) ?_
    ·
     skip
     simp -dsimp -implicitDefEqProofs (maxDischargeDepth := 6) [ix29 hv4]
     exact hK _ _ ⟨rfl, rfl⟩
    rintro a σ ⟨rfl, rfl⟩
    refine AWP_cond (ine v4.Rd (iadd .i64 s1 1)) rfl (fun C3 => ?_) (fun C3 => ?_)
    ·
     replace H := ifT C3 H
     refine AWP_sr tok [] [4] (fun a σ => a = [(4, .int .i64 (-1))] ∧ σ = hp E0 [] (M1 + 22)) (fun K hK => ?_) ?_
     ·
      skip
      simp -dsimp -implicitDefEqProofs (maxDischargeDepth := 6)
      exact hK _ _ ⟨rfl, rfl⟩
     rintro a σ ⟨rfl, rfl⟩
     replace H := Option.some.inj H; subst H
     refine AWP_kp [4] [(4, .int .i64 (-1))] rfl ?_
     refine AWP_ret (hO2 _ _ _ _ rfl ⟨rfl, ?_⟩)
     exact ⟨[.int .i64 (-1)], by simp, 4, by simp [encL_nil]⟩
    ·
     replace H := ifF C3 H
     refine AWP_skip ?_
     show K6 _ _
     refine keepE (l := [0, 1, 5]) (x := [(0, .fsl (encL rInstr p0)), (1, .int .i64 (iadd .i64 s1 1)), (5, .int .i64 s2)]) rfl fun a' ha => ?_
     refine hK6 _ _ ?_; rw [ha]
     refine Rc.mk ?_
     refine AWP_sr tok [] [0, 1, 5] (fun a σ => a = [(0, .fsl (encL rInstr p0)), (1, .int .i64 (iadd .i64 (iadd .i64 s1 1) 1)), (5, .int .i64 s2)] ∧ σ = hp E0 [] (M1 + 24)) (fun K hK => ?_) ?_
     ·
      skip
      simp -dsimp -implicitDefEqProofs (maxDischargeDepth := 6)
      exact hK _ _ ⟨rfl, rfl⟩
     rintro a σ ⟨rfl, rfl⟩
     refine AWP_sq [0, 1, 5] fun K7 hK7 => ?_
     refine AWP_sr tok [] [0, 1, 5, 36] (fun a σ => a = [(0, .fsl (encL rInstr p0)), (1, .int .i64 (iadd .i64 (iadd .i64 s1 1) 1)), (5, .int .i64 s2), (36, .bool (ine v4.Rs (iadd .i64 (iadd .i64 s1 1) 1)))] ∧ σ = hp E0 [] (M1 + 31)) (fun K hK => ?_) ?_
     ·
      skip
      simp -dsimp -implicitDefEqProofs (maxDischargeDepth := 6) [ix29 hv4]
      exact hK _ _ ⟨rfl, rfl⟩
     rintro a σ ⟨rfl, rfl⟩
     refine AWP_cond (ine v4.Rs (iadd .i64 (iadd .i64 s1 1) 1)) rfl (fun C4 => ?_) (fun C4 => ?_)
     ·
      replace H := ifT C4 H
      refine AWP_sr tok [] [4] (fun a σ => a = [(4, .int .i64 (-1))] ∧ σ = hp E0 [] (M1 + 32)) (fun K hK => ?_) ?_
      ·
       skip
       simp -dsimp -implicitDefEqProofs (maxDischargeDepth := 6)
       exact hK _ _ ⟨rfl, rfl⟩
      rintro a σ ⟨rfl, rfl⟩
      replace H := Option.some.inj H; subst H
      refine AWP_kp [4] [(4, .int .i64 (-1))] rfl ?_
      refine AWP_ret (hO2 _ _ _ _ rfl ⟨rfl, ?_⟩)
      exact ⟨[.int .i64 (-1)], by simp, 4, by simp [encL_nil]⟩
     ·
      replace H := ifF C4 H
      refine AWP_skip ?_
      show K7 _ _
      refine keepE (l := [0, 1, 5]) (x := [(0, .fsl (encL rInstr p0)), (1, .int .i64 (iadd .i64 (iadd .i64 s1 1) 1)), (5, .int .i64 s2)]) rfl fun a' ha => ?_
      refine hK7 _ _ ?_; rw [ha]
      refine Rc.mk ?_
      refine AWP_sr tok [] [0, 1, 5] (fun a σ => a = [(0, .fsl (encL rInstr p0)), (1, .int .i64 (iadd .i64 (iadd .i64 (iadd .i64 s1 1) 1) 1)), (5, .int .i64 s2)] ∧ σ = hp E0 [] (M1 + 34)) (fun K hK => ?_) ?_
      ·
       skip
       simp -dsimp -implicitDefEqProofs (maxDischargeDepth := 6)
       exact hK _ _ ⟨rfl, rfl⟩
      rintro a σ ⟨rfl, rfl⟩
      refine AWP_sq [0, 1, 5] fun K8 hK8 => ?_
      refine AWP_sr tok [] [0, 1, 5, 45] (fun a σ => a = [(0, .fsl (encL rInstr p0)), (1, .int .i64 (iadd .i64 (iadd .i64 (iadd .i64 s1 1) 1) 1)), (5, .int .i64 s2), (45, .bool (ine v4.Rt (iadd .i64 (iadd .i64 (iadd .i64 s1 1) 1) 1)))] ∧ σ = hp E0 [] (M1 + 41)) (fun K hK => ?_) ?_
      ·
       skip
       simp -dsimp -implicitDefEqProofs (maxDischargeDepth := 6) [ix29 hv4]
       exact hK _ _ ⟨rfl, rfl⟩
      rintro a σ ⟨rfl, rfl⟩
      refine AWP_cond (ine v4.Rt (iadd .i64 (iadd .i64 (iadd .i64 s1 1) 1) 1)) rfl (fun C5 => ?_) (fun C5 => ?_)
      ·
       replace H := ifT C5 H
       refine AWP_sr tok [] [4] (fun a σ => a = [(4, .int .i64 (-1))] ∧ σ = hp E0 [] (M1 + 42)) (fun K hK => ?_) ?_
       ·
        skip
        simp -dsimp -implicitDefEqProofs (maxDischargeDepth := 6)
        exact hK _ _ ⟨rfl, rfl⟩
       rintro a σ ⟨rfl, rfl⟩
       replace H := Option.some.inj H; subst H
       refine AWP_kp [4] [(4, .int .i64 (-1))] rfl ?_
       refine AWP_ret (hO2 _ _ _ _ rfl ⟨rfl, ?_⟩)
       exact ⟨[.int .i64 (-1)], by simp, 4, by simp [encL_nil]⟩
      ·
       replace H := ifF C5 H
       refine AWP_skip ?_
       show K8 _ _
       refine keepE (l := [0, 1, 5]) (x := [(0, .fsl (encL rInstr p0)), (1, .int .i64 (iadd .i64 (iadd .i64 (iadd .i64 s1 1) 1) 1)), (5, .int .i64 s2)]) rfl fun a' ha => ?_
       refine hK8 _ _ ?_; rw [ha]
       refine Rc.mk ?_
       refine AWP_sr tok [] [0, 1, 5] (fun a σ => a = [(0, .fsl (encL rInstr p0)), (1, .int .i64 (iadd .i64 (iadd .i64 (iadd .i64 (iadd .i64 s1 1) 1) 1) 1)), (5, .int .i64 s2)] ∧ σ = hp E0 [] (M1 + 44)) (fun K hK => ?_) ?_
       ·
        skip
        simp -dsimp -implicitDefEqProofs (maxDischargeDepth := 6)
        exact hK _ _ ⟨rfl, rfl⟩
       rintro a σ ⟨rfl, rfl⟩
       refine AWP_sq [0, 1, 5] fun K9 hK9 => ?_
       refine AWP_sr tok [] [0, 1, 5, 54] (fun a σ => a = [(0, .fsl (encL rInstr p0)), (1, .int .i64 (iadd .i64 (iadd .i64 (iadd .i64 (iadd .i64 s1 1) 1) 1) 1)), (5, .int .i64 s2), (54, .bool (ine v4.Imm (iadd .i64 (iadd .i64 (iadd .i64 (iadd .i64 s1 1) 1) 1) 1)))] ∧ σ = hp E0 [] (M1 + 51)) (fun K hK => ?_) ?_
       ·
        skip
        simp -dsimp -implicitDefEqProofs (maxDischargeDepth := 6) [ix29 hv4]
        exact hK _ _ ⟨rfl, rfl⟩
       rintro a σ ⟨rfl, rfl⟩
       refine AWP_cond (ine v4.Imm (iadd .i64 (iadd .i64 (iadd .i64 (iadd .i64 s1 1) 1) 1) 1)) rfl (fun C6 => ?_) (fun C6 => ?_)
       ·
        replace H := ifT C6 H
        refine AWP_sr tok [] [4] (fun a σ => a = [(4, .int .i64 (-1))] ∧ σ = hp E0 [] (M1 + 52)) (fun K hK => ?_) ?_
        ·
         skip
         simp -dsimp -implicitDefEqProofs (maxDischargeDepth := 6)
         exact hK _ _ ⟨rfl, rfl⟩
        rintro a σ ⟨rfl, rfl⟩
        replace H := Option.some.inj H; subst H
        refine AWP_kp [4] [(4, .int .i64 (-1))] rfl ?_
        refine AWP_ret (hO2 _ _ _ _ rfl ⟨rfl, ?_⟩)
        exact ⟨[.int .i64 (-1)], by simp, 4, by simp [encL_nil]⟩
       ·
        replace H := ifF C6 H
        refine AWP_skip ?_
        show K9 _ _
        refine keepE (l := [0, 1, 5]) (x := [(0, .fsl (encL rInstr p0)), (1, .int .i64 (iadd .i64 (iadd .i64 (iadd .i64 (iadd .i64 s1 1) 1) 1) 1)), (5, .int .i64 s2)]) rfl fun a' ha => ?_
        refine hK9 _ _ ?_; rw [ha]
        refine Rc.mk ?_
        refine AWP_rt tok [] [0, 1, 5] (fun a σ => a = [(0, .fsl (encL rInstr p0)), (1, .int .i64 (iadd .i64 (iadd .i64 (iadd .i64 (iadd .i64 (iadd .i64 s1 1) 1) 1) 1) 1)), (5, .int .i64 s2)] ∧ σ = hp E0 [] (M1 + 54)) (fun K hK => ?_) ?_
        ·
         skip
         simp -dsimp -implicitDefEqProofs (maxDischargeDepth := 6)
         exact hK _ _ ⟨rfl, rfl⟩
        rintro a σ ⟨ha, rfl⟩
        refine hK4 _ _ ?_; rw [ha]
        refine Rc.mk ?_
        refine AWP_rt tok [] [0, 1, 5] (fun a σ => a = [(0, .fsl (encL rInstr p0)), (1, .int .i64 (iadd .i64 (iadd .i64 (iadd .i64 (iadd .i64 (iadd .i64 s1 1) 1) 1) 1) 1)), (5, .int .i64 (iadd .i64 s2 1))] ∧ σ = hp E0 [] (M1 + 57)) (fun K hK => ?_) ?_
        ·
         skip
         simp -dsimp -implicitDefEqProofs (maxDischargeDepth := 6)
         exact hK _ _ ⟨rfl, rfl⟩
        rintro a σ ⟨ha, rfl⟩
        replace H := Option.some.inj H; subst H
        refine hK2 _ _ _ rfl ?_; rw [ha]
        exact Rc.fin (AHeap.Sub.refl _) ⟨M1 + 57, (by omega), rfl, rfl⟩
  ·
   replace H := ifF C1 H
   replace H := Option.some.inj H; subst H
   refine AWP_exit (hO2 _ _ _ _ rfl ⟨rfl, ?_⟩)
   refine Rc.rw (l := [1]) (X := [(1, .int .i64 s1)]) rfl ?_
   exact Rc.fin (AHeap.Sub.refl _) ⟨M1 + 4, (by omega), rfl, rfl⟩
 ·
  intro x a σ hx
  rcases e1 with y3 | r0
  ·
   obtain ⟨rfl, b, τ, hr, M2, fM2_0, rfl, rfl⟩ := hx
   dsimp only at H
   show K1 _ _
   refine hK1 _ _ (Rc_ref hr ?_)
   refine Rc.mk ?_
   refine AWP_sr tok [] [4] (fun a σ => a = [(4, .int .i64 y3)] ∧ σ = hp E0 [] (M2 + 2)) (fun K hK => ?_) ?_
   ·
    skip
    simp -dsimp -implicitDefEqProofs (maxDischargeDepth := 6)
    exact hK _ _ ⟨rfl, rfl⟩
   rintro a σ ⟨rfl, rfl⟩
   replace H := Option.some.inj H; subst H
   refine AWP_kp [4] [(4, .int .i64 y3)] rfl ?_
   refine AWP_ret ?_
   exact ⟨[.int .i64 y3], by simp, 4, by simp [encL_nil]⟩
  ·
   obtain ⟨rfl, hx2⟩ := hx
   dsimp only at H
   replace H := Option.some.inj H; subst H; exact hx2
theorem c4 {p0 : gQuad} {p1 : Int} {p2 : Int} {r : Bool} (H : l_FnExactQuadInstrs p0 p1 p2 = some r) : APure Tryd.prog G 4 [.agg [.int .i64 p0.Op, .int .i64 p0.Dst, .int .i64 p0.A, .int .i64 p0.B, .int .i64 p0.N], .int .i64 p1, .int .i64 p2] (.bool r) := by
 refine APure_fn (fun N0 => ?_) (by simp)
 refine ACalls_fn tok Tryd.func4 (by kernel_rfl) rfl Tryd.ntmps4 Tryd.results4 rfl ?_
 simp only [argsA, Nat.reduceAdd, hp_next]
 unfold l_FnExactQuadInstrs at H
 refine AWP_sr tok [0] [1, 2, 3] (fun a σ => a = [(1, .int .i64 p1), (2, .int .i64 p2), (3, .fptr [.int .i64 p0.Op, .int .i64 p0.Dst, .int .i64 p0.A, .int .i64 p0.B, .int .i64 p0.N] 0)] ∧ σ = hp E0 [] (N0 + 2)) (fun K hK => ?_) ?_
 ·
  skip
  simp -dsimp -implicitDefEqProofs (maxDischargeDepth := 6)
  exact hK _ _ ⟨rfl, rfl⟩
 rintro a σ ⟨rfl, rfl⟩
 obtain ⟨r1, hr1, H⟩ := bindE H
 obtain ⟨r2, hr2, H⟩ := bindE H
 refine AWP_sr tok [] [1, 2, 3, 7, 8] (fun a σ => a = [(1, .int .i64 p1), (2, .int .i64 p2), (3, .fptr [.int .i64 p0.Op, .int .i64 p0.Dst, .int .i64 p0.A, .int .i64 p0.B, .int .i64 p0.N] 0), (7, .fsl (encL rInstr r2.1)), (8, .bool r2.2)] ∧ σ = hp E0 [] (N0 + 12)) (fun K hK => ?_) ?_
 ·
  skip
  simp -dsimp -implicitDefEqProofs (maxDischargeDepth := 6)
  refine (c24 hr1).app ?_; try simp -dsimp -implicitDefEqProofs (maxDischargeDepth := 6)
  refine (c23 hr2).app ?_; try simp -dsimp -implicitDefEqProofs (maxDischargeDepth := 6)
  exact hK _ _ ⟨rfl, rfl⟩
 rintro a σ ⟨rfl, rfl⟩
 obtain ⟨r3, hr3, H⟩ := bindE H
 refine AWP_sr tok [] [1, 2, 3, 7, 8, 9, 10] (fun a σ => ∃ M1 o1 : Nat, N0 + 22 ≤ M1 ∧ N0 + 22 ≤ o1 ∧ o1 < M1 ∧ a = [(1, .int .i64 p1), (2, .int .i64 p2), (3, .fptr [.int .i64 p0.Op, .int .i64 p0.Dst, .int .i64 p0.A, .int .i64 p0.B, .int .i64 p0.N] 0), (7, .fsl (encL rInstr r2.1)), (8, .bool r2.2), (9, .sl o1 0 r3.1.length), (10, .bool r3.2)] ∧ σ = hp E0 [(o1, some ⟨47, 5, encL rInstr r3.1⟩)] M1) (fun K hK => ?_) ?_
 ·
  skip
  simp -dsimp -implicitDefEqProofs (maxDischargeDepth := 6)
  refine (c24 hr1).app ?_; try simp -dsimp -implicitDefEqProofs (maxDischargeDepth := 6)
  refine (c25_o (H := hr3) ).mono ?_; rintro _ _ ⟨M1, o1, fM1_0, fM1_1, fM1_2, rfl, rfl⟩; simp only [hp_next] at fM1_0 fM1_1 fM1_2
  try simp -dsimp -implicitDefEqProofs (maxDischargeDepth := 6) [hp_over_some, hp_over_none]
  exact hK _ _ ⟨M1, o1, (by omega), (by omega), (by omega), rfl, rfl⟩
 rintro a σ ⟨M1, o1, fM1_0, fM1_1, fM1_2, rfl, rfl⟩
 refine AWP_sq [1, 2, 3, 7, 8, 9] fun K1 hK1 => ?_
 obtain ⟨r4, hr4, H⟩ := bindE H
 obtain ⟨g5, hg5, H⟩ := bindE H
 refine AWP_sr tok [] [1, 2, 3, 7, 8, 9, 39] (fun a σ => a = [(1, .int .i64 p1), (2, .int .i64 p2), (3, .fptr [.int .i64 p0.Op, .int .i64 p0.Dst, .int .i64 p0.A, .int .i64 p0.B, .int .i64 p0.N] 0), (7, .fsl (encL rInstr r2.1)), (8, .bool r2.2), (9, .sl o1 0 r3.1.length), (39, .bool g5)] ∧ σ = hp E0 [(o1, some ⟨47, 5, encL rInstr r3.1⟩)] (M1 + 9)) (fun K hK => ?_) ?_
 ·
  skip
  simp -dsimp -implicitDefEqProofs (maxDischargeDepth := 6)
  refine (borrow 4 (c19 hr4) (by simp []) rfl).mono ?_; rintro _ _ ⟨rfl, rfl⟩; try simp -dsimp -implicitDefEqProofs (maxDischargeDepth := 6)
  cases hbg5 : bnot r4
  ·
   replace hg5 := ifF hbg5 hg5
   replace hg5 := Option.some.inj hg5; subst hg5
   try simp -dsimp -implicitDefEqProofs (maxDischargeDepth := 6) [hbg5]
   exact hK _ _ ⟨rfl, rfl⟩
  ·
   replace hg5 := ifT hbg5 hg5
   replace hg5 := Option.some.inj hg5; subst hg5
   try simp -dsimp -implicitDefEqProofs (maxDischargeDepth := 6) [hbg5]
   exact hK _ _ ⟨rfl, rfl⟩
 rintro a σ ⟨rfl, rfl⟩
 refine AWP_cond g5 rfl (fun C1 => ?_) (fun C1 => ?_)
 ·
  replace H := ifT C1 H
  refine AWP_sr tok [] [6] (fun a σ => a = [(6, .bool false)] ∧ σ = hp E0 [(o1, some ⟨47, 5, encL rInstr r3.1⟩)] (M1 + 10)) (fun K hK => ?_) ?_
  ·
   skip
   simp -dsimp -implicitDefEqProofs (maxDischargeDepth := 6)
   exact hK _ _ ⟨rfl, rfl⟩
  rintro a σ ⟨rfl, rfl⟩
  replace H := Option.some.inj H; subst H
  refine AWP_kp [6] [(6, .bool false)] rfl ?_
  refine AWP_ret ?_
  exact ⟨[.bool false], by simp, 4, by simp [encL_nil]⟩
 ·
  replace H := ifF C1 H
  refine AWP_skip ?_
  show K1 _ _
  refine keepE (l := [1, 2, 3, 7, 8, 9]) (x := [(1, .int .i64 p1), (2, .int .i64 p2), (3, .fptr [.int .i64 p0.Op, .int .i64 p0.Dst, .int .i64 p0.A, .int .i64 p0.B, .int .i64 p0.N] 0), (7, .fsl (encL rInstr r2.1)), (8, .bool r2.2), (9, .sl o1 0 r3.1.length)]) rfl fun a' ha => ?_
  refine hK1 _ _ ?_; rw [ha]
  refine Rc.mk ?_
  refine AWP_sr tok [] [1, 2, 3, 7, 8, 9, 11] (fun a σ => a = [(1, .int .i64 p1), (2, .int .i64 p2), (3, .fptr [.int .i64 p0.Op, .int .i64 p0.Dst, .int .i64 p0.A, .int .i64 p0.B, .int .i64 p0.N] 0), (7, .fsl (encL rInstr r2.1)), (8, .bool r2.2), (9, .sl o1 0 r3.1.length), (11, .int .i64 1)] ∧ σ = hp E0 [(o1, some ⟨47, 5, encL rInstr r3.1⟩)] (M1 + 10)) (fun K hK => ?_) ?_
  ·
   skip
   simp -dsimp -implicitDefEqProofs (maxDischargeDepth := 6)
   exact hK _ _ ⟨rfl, rfl⟩
  rintro a σ ⟨rfl, rfl⟩
  obtain ⟨r6, hr6, H⟩ := bindE H
  refine AWP_sr tok [] [1, 2, 3, 7, 8, 9, 11] (fun a σ => ∃ M2 : Nat, M1 + 14 ≤ M2 ∧ r6.2.length = r3.1.length ∧ a = [(1, .int .i64 p1), (2, .int .i64 p2), (3, .fptr [.int .i64 p0.Op, .int .i64 p0.Dst, .int .i64 p0.A, .int .i64 p0.B, .int .i64 p0.N] 0), (7, .fsl (encL rInstr r2.1)), (8, .bool r2.2), (9, .sl o1 0 r3.1.length), (11, .int .i64 r6.1)] ∧ σ = hp E0 [(o1, some ⟨47, 5, encL rInstr r6.2⟩)] M2) (fun K hK => ?_) ?_
  ·
   skip
   simp -dsimp -implicitDefEqProofs (maxDischargeDepth := 6)
   refine (c20 (H := hr6) (by simp [])).mono ?_; rintro _ _ ⟨M2, fM2_0, fM2_1, rfl, rfl⟩; simp only [hp_next] at fM2_0
   try simp -dsimp -implicitDefEqProofs (maxDischargeDepth := 6) [hp_over_some, hp_over_none]
   exact hK _ _ ⟨M2, (by omega), fM2_1, rfl, rfl⟩
  rintro a σ ⟨M2, fM2_0, fM2_1, rfl, rfl⟩
  try rw [← fM2_1]
  refine AWP_sr tok [] [1, 2, 3, 7, 8, 9, 11, 12] (fun a σ => a = [(1, .int .i64 p1), (2, .int .i64 p2), (3, .fptr [.int .i64 p0.Op, .int .i64 p0.Dst, .int .i64 p0.A, .int .i64 p0.B, .int .i64 p0.N] 0), (7, .fsl (encL rInstr r2.1)), (8, .bool r2.2), (9, .sl o1 0 r6.2.length), (11, .int .i64 r6.1), (12, .int .i64 1)] ∧ σ = hp E0 [(o1, some ⟨47, 5, encL rInstr r6.2⟩)] (M2 + 1)) (fun K hK => ?_) ?_
  ·
   skip
   simp -dsimp -implicitDefEqProofs (maxDischargeDepth := 6)
   exact hK _ _ ⟨rfl, rfl⟩
  rintro a σ ⟨rfl, rfl⟩
  obtain ⟨r7, hr7, H⟩ := bindE H
  refine AWP_sr tok [] [1, 2, 3, 7, 8, 9, 11, 12] (fun a σ => a = [(1, .int .i64 p1), (2, .int .i64 p2), (3, .fptr [.int .i64 p0.Op, .int .i64 p0.Dst, .int .i64 p0.A, .int .i64 p0.B, .int .i64 p0.N] 0), (7, .fsl (encL rInstr r2.1)), (8, .bool r2.2), (9, .sl o1 0 r6.2.length), (11, .int .i64 r6.1), (12, .int .i64 r7)] ∧ σ = hp E0 [(o1, some ⟨47, 5, encL rInstr r6.2⟩)] (M2 + 5)) (fun K hK => ?_) ?_
  ·
   skip
   simp -dsimp -implicitDefEqProofs (maxDischargeDepth := 6)
   refine (borrow 4 (c26 hr7) (by simp []) rfl).mono ?_; rintro _ _ ⟨rfl, rfl⟩; try simp -dsimp -implicitDefEqProofs (maxDischargeDepth := 6)
   exact hK _ _ ⟨rfl, rfl⟩
  rintro a σ ⟨rfl, rfl⟩
  refine AWP_sq [1, 2, 3, 7, 8, 9, 11, 12] fun K2 hK2 => ?_
  refine AWP_sr tok [] [1, 2, 3, 7, 8, 9, 11, 12, 47] (fun a σ => a = [(1, .int .i64 p1), (2, .int .i64 p2), (3, .fptr [.int .i64 p0.Op, .int .i64 p0.Dst, .int .i64 p0.A, .int .i64 p0.B, .int .i64 p0.N] 0), (7, .fsl (encL rInstr r2.1)), (8, .bool r2.2), (9, .sl o1 0 r6.2.length), (11, .int .i64 r6.1), (12, .int .i64 r7), (47, .bool (ilt r7 0))] ∧ σ = hp E0 [(o1, some ⟨47, 5, encL rInstr r6.2⟩)] (M2 + 7)) (fun K hK => ?_) ?_
  ·
   skip
   simp -dsimp -implicitDefEqProofs (maxDischargeDepth := 6)
   exact hK _ _ ⟨rfl, rfl⟩
  rintro a σ ⟨rfl, rfl⟩
  refine AWP_cond (ilt r7 0) rfl (fun C2 => ?_) (fun C2 => ?_)
  ·
   replace H := ifT C2 H
   refine AWP_sr tok [] [6] (fun a σ => a = [(6, .bool false)] ∧ σ = hp E0 [(o1, some ⟨47, 5, encL rInstr r6.2⟩)] (M2 + 8)) (fun K hK => ?_) ?_
   ·
    skip
    simp -dsimp -implicitDefEqProofs (maxDischargeDepth := 6)
    exact hK _ _ ⟨rfl, rfl⟩
   rintro a σ ⟨rfl, rfl⟩
   replace H := Option.some.inj H; subst H
   refine AWP_kp [6] [(6, .bool false)] rfl ?_
   refine AWP_ret ?_
   exact ⟨[.bool false], by simp, 4, by simp [encL_nil]⟩
  ·
   replace H := ifF C2 H
   refine AWP_skip ?_
   show K2 _ _
   refine keepE (l := [1, 2, 3, 7, 8, 9, 11, 12]) (x := [(1, .int .i64 p1), (2, .int .i64 p2), (3, .fptr [.int .i64 p0.Op, .int .i64 p0.Dst, .int .i64 p0.A, .int .i64 p0.B, .int .i64 p0.N] 0), (7, .fsl (encL rInstr r2.1)), (8, .bool r2.2), (9, .sl o1 0 r6.2.length), (11, .int .i64 r6.1), (12, .int .i64 r7)]) rfl fun a' ha => ?_
   refine hK2 _ _ ?_; rw [ha]
   refine Rc.mk ?_
   refine AWP_sq [1, 2, 3, 7, 8, 9, 11] fun K3 hK3 => ?_
   refine AWP_sr tok [] [1, 2, 3, 7, 8, 9, 11, 50] (fun a σ => a = [(1, .int .i64 p1), (2, .int .i64 p2), (3, .fptr [.int .i64 p0.Op, .int .i64 p0.Dst, .int .i64 p0.A, .int .i64 p0.B, .int .i64 p0.N] 0), (7, .fsl (encL rInstr r2.1)), (8, .bool r2.2), (9, .sl o1 0 r6.2.length), (11, .int .i64 r6.1), (50, .bool (ine r7 r6.1))] ∧ σ = hp E0 [(o1, some ⟨47, 5, encL rInstr r6.2⟩)] (M2 + 10)) (fun K hK => ?_) ?_
   ·
    skip
    simp -dsimp -implicitDefEqProofs (maxDischargeDepth := 6)
    exact hK _ _ ⟨rfl, rfl⟩
   rintro a σ ⟨rfl, rfl⟩
   refine AWP_cond (ine r7 r6.1) rfl (fun C3 => ?_) (fun C3 => ?_)
   ·
    replace H := ifT C3 H
    refine AWP_sr tok [] [6] (fun a σ => a = [(6, .bool false)] ∧ σ = hp E0 [(o1, some ⟨47, 5, encL rInstr r6.2⟩)] (M2 + 11)) (fun K hK => ?_) ?_
    ·
     skip
     simp -dsimp -implicitDefEqProofs (maxDischargeDepth := 6)
     exact hK _ _ ⟨rfl, rfl⟩
    rintro a σ ⟨rfl, rfl⟩
    replace H := Option.some.inj H; subst H
    refine AWP_kp [6] [(6, .bool false)] rfl ?_
    refine AWP_ret ?_
    exact ⟨[.bool false], by simp, 4, by simp [encL_nil]⟩
   ·
    replace H := ifF C3 H
    refine AWP_skip ?_
    show K3 _ _
    refine keepE (l := [1, 2, 3, 7, 8, 9, 11]) (x := [(1, .int .i64 p1), (2, .int .i64 p2), (3, .fptr [.int .i64 p0.Op, .int .i64 p0.Dst, .int .i64 p0.A, .int .i64 p0.B, .int .i64 p0.N] 0), (7, .fsl (encL rInstr r2.1)), (8, .bool r2.2), (9, .sl o1 0 r6.2.length), (11, .int .i64 r6.1)]) rfl fun a' ha => ?_
    refine hK3 _ _ ?_; rw [ha]
    refine Rc.mk ?_
    obtain ⟨r8, hr8, H⟩ := bindE H
    refine AWP_sr tok [] [7, 8, 9, 11, 13, 14] (fun a σ => a = [(7, .fsl (encL rInstr r2.1)), (8, .bool r2.2), (9, .sl o1 0 r6.2.length), (11, .int .i64 r6.1), (13, .fsl (encL rInstr r8.1)), (14, .bool r8.2)] ∧ σ = hp E0 [(o1, some ⟨47, 5, encL rInstr r6.2⟩)] (M2 + 20)) (fun K hK => ?_) ?_
    ·
     skip
     simp -dsimp -implicitDefEqProofs (maxDischargeDepth := 6)
     refine (c24 hr1).app ?_; try simp -dsimp -implicitDefEqProofs (maxDischargeDepth := 6)
     refine (c25 hr8).app ?_; try simp -dsimp -implicitDefEqProofs (maxDischargeDepth := 6)
     exact hK _ _ ⟨rfl, rfl⟩
    rintro a σ ⟨rfl, rfl⟩
    refine AWP_sq [9, 11] fun K4 hK4 => ?_
    obtain ⟨r9, hr9, H⟩ := bindE H
    obtain ⟨g10, hg10, H⟩ := bindE H
    refine AWP_sr tok [] [9, 11, 67] (fun a σ => a = [(9, .sl o1 0 r6.2.length), (11, .int .i64 r6.1), (67, .bool g10)] ∧ σ = hp E0 [(o1, some ⟨47, 5, encL rInstr r6.2⟩)] (M2 + 29)) (fun K hK => ?_) ?_
    ·
     skip
     simp -dsimp -implicitDefEqProofs (maxDischargeDepth := 6)
     refine (c19 hr9).app ?_; try simp -dsimp -implicitDefEqProofs (maxDischargeDepth := 6)
     cases hbg10 : bnot r9
     ·
      replace hg10 := ifF hbg10 hg10
      replace hg10 := Option.some.inj hg10; subst hg10
      try simp -dsimp -implicitDefEqProofs (maxDischargeDepth := 6) [hbg10]
      exact hK _ _ ⟨rfl, rfl⟩
     ·
      replace hg10 := ifT hbg10 hg10
      replace hg10 := Option.some.inj hg10; subst hg10
      try simp -dsimp -implicitDefEqProofs (maxDischargeDepth := 6) [hbg10]
      exact hK _ _ ⟨rfl, rfl⟩
    rintro a σ ⟨rfl, rfl⟩
    refine AWP_cond g10 rfl (fun C4 => ?_) (fun C4 => ?_)
    ·
     replace H := ifT C4 H
     refine AWP_sr tok [] [6] (fun a σ => a = [(6, .bool false)] ∧ σ = hp E0 [(o1, some ⟨47, 5, encL rInstr r6.2⟩)] (M2 + 30)) (fun K hK => ?_) ?_
     ·
      skip
      simp -dsimp -implicitDefEqProofs (maxDischargeDepth := 6)
      exact hK _ _ ⟨rfl, rfl⟩
     rintro a σ ⟨rfl, rfl⟩
     replace H := Option.some.inj H; subst H
     refine AWP_kp [6] [(6, .bool false)] rfl ?_
     refine AWP_ret ?_
     exact ⟨[.bool false], by simp, 4, by simp [encL_nil]⟩
    ·
     replace H := ifF C4 H
     refine AWP_skip ?_
     show K4 _ _
     refine keepE (l := [9, 11]) (x := [(9, .sl o1 0 r6.2.length), (11, .int .i64 r6.1)]) rfl fun a' ha => ?_
     refine hK4 _ _ ?_; rw [ha]
     refine Rc.mk ?_
     refine AWP_sr tok [] [9, 11, 12] (fun a σ => a = [(9, .sl o1 0 r6.2.length), (11, .int .i64 r6.1), (12, .int .i64 1)] ∧ σ = hp E0 [(o1, some ⟨47, 5, encL rInstr r6.2⟩)] (M2 + 30)) (fun K hK => ?_) ?_
     ·
      skip
      simp -dsimp -implicitDefEqProofs (maxDischargeDepth := 6)
      exact hK _ _ ⟨rfl, rfl⟩
     rintro a σ ⟨rfl, rfl⟩
     refine AWP_sr tok [] [11, 12] (fun a σ => a = [(11, .int .i64 r6.1), (12, .int .i64 r7)] ∧ σ = hp E0 [(o1, some ⟨47, 5, encL rInstr r6.2⟩)] (M2 + 34)) (fun K hK => ?_) ?_
     ·
      skip
      simp -dsimp -implicitDefEqProofs (maxDischargeDepth := 6)
      refine (borrow 4 (c26 hr7) (by simp []) rfl).mono ?_; rintro _ _ ⟨rfl, rfl⟩; try simp -dsimp -implicitDefEqProofs (maxDischargeDepth := 6)
      exact hK _ _ ⟨rfl, rfl⟩
     rintro a σ ⟨rfl, rfl⟩
     refine AWP_sq [11, 12] fun K5 hK5 => ?_
     refine AWP_sr tok [] [11, 12, 72] (fun a σ => a = [(11, .int .i64 r6.1), (12, .int .i64 r7), (72, .bool (ilt r7 0))] ∧ σ = hp E0 [(o1, some ⟨47, 5, encL rInstr r6.2⟩)] (M2 + 36)) (fun K hK => ?_) ?_
     ·
      skip
      simp -dsimp -implicitDefEqProofs (maxDischargeDepth := 6)
      exact hK _ _ ⟨rfl, rfl⟩
     rintro a σ ⟨rfl, rfl⟩
     refine AWP_cond (ilt r7 0) rfl (fun C5 => ?_) (fun C5 => ?_)
     ·
      replace H := ifT C5 H
      refine AWP_sr tok [] [6] (fun a σ => a = [(6, .bool false)] ∧ σ = hp E0 [(o1, some ⟨47, 5, encL rInstr r6.2⟩)] (M2 + 37)) (fun K hK => ?_) ?_
      ·
       skip
       simp -dsimp -implicitDefEqProofs (maxDischargeDepth := 6)
       exact hK _ _ ⟨rfl, rfl⟩
      rintro a σ ⟨rfl, rfl⟩
      replace H := Option.some.inj H; subst H
      refine AWP_kp [6] [(6, .bool false)] rfl ?_
      refine AWP_ret ?_
      exact ⟨[.bool false], by simp, 4, by simp [encL_nil]⟩
     ·
      replace H := ifF C5 H
      refine AWP_skip ?_
      show K5 _ _
      refine keepE (l := [11, 12]) (x := [(11, .int .i64 r6.1), (12, .int .i64 r7)]) rfl fun a' ha => ?_
      refine hK5 _ _ ?_; rw [ha]
      refine Rc.mk ?_
      refine AWP_sq [] fun K6 hK6 => ?_
      refine AWP_sr tok [] [75] (fun a σ => a = [(75, .bool (ine r7 r6.1))] ∧ σ = hp E0 [(o1, some ⟨47, 5, encL rInstr r6.2⟩)] (M2 + 39)) (fun K hK => ?_) ?_
      ·
       skip
       simp -dsimp -implicitDefEqProofs (maxDischargeDepth := 6)
       exact hK _ _ ⟨rfl, rfl⟩
      rintro a σ ⟨rfl, rfl⟩
      refine AWP_cond (ine r7 r6.1) rfl (fun C6 => ?_) (fun C6 => ?_)
      ·
       replace H := ifT C6 H
       refine AWP_sr tok [] [6] (fun a σ => a = [(6, .bool false)] ∧ σ = hp E0 [(o1, some ⟨47, 5, encL rInstr r6.2⟩)] (M2 + 40)) (fun K hK => ?_) ?_
       ·
        skip
        simp -dsimp -implicitDefEqProofs (maxDischargeDepth := 6)
        exact hK _ _ ⟨rfl, rfl⟩
       rintro a σ ⟨rfl, rfl⟩
       replace H := Option.some.inj H; subst H
       refine AWP_kp [6] [(6, .bool false)] rfl ?_
       refine AWP_ret ?_
       exact ⟨[.bool false], by simp, 4, by simp [encL_nil]⟩
      ·
       replace H := ifF C6 H
       refine AWP_skip ?_
       show K6 _ _
       refine keepE (l := []) (x := []) rfl fun a' ha => ?_
       refine hK6 _ _ ?_; rw [ha]
       refine Rc.mk ?_
       refine AWP_sr tok [] [6] (fun a σ => a = [(6, .bool true)] ∧ σ = hp E0 [(o1, some ⟨47, 5, encL rInstr r6.2⟩)] (M2 + 40)) (fun K hK => ?_) ?_
       ·
        skip
        simp -dsimp -implicitDefEqProofs (maxDischargeDepth := 6)
        exact hK _ _ ⟨rfl, rfl⟩
       rintro a σ ⟨rfl, rfl⟩
       replace H := Option.some.inj H; subst H
       refine AWP_kp [6] [(6, .bool true)] rfl ?_
       refine AWP_ret ?_
       exact ⟨[.bool true], by simp, 4, by simp [encL_nil]⟩
end Go.Proofs.YtoklfbdcghgmlaaDoor
