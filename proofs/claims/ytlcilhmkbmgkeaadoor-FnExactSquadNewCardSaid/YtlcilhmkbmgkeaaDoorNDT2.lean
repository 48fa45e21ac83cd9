/- The contracts of functions of the program, part 2: each computes what its mirror computes. No conditions. -/
import Derived.Test.YtlcilhmkbmgkeaaDoorNDT1
set_option linter.unusedSimpArgs false
set_option linter.unusedVariables false
set_option maxRecDepth 20000
set_option maxHeartbeats 4000000
namespace Go.Proofs.YtlcilhmkbmgkeaaDoor
open Go Go.Abs Go.RowKit

theorem c62 {p0 : gInstr} {p1 : gInstr} {r : Bool} (H : l_eqInstr p0 p1 = some r) : APure Tryd.prog G 62 [.agg [.int .i64 p0.Op, .int .i64 p0.Rd, .int .i64 p0.Rs, .int .i64 p0.Rt, .int .i64 p0.Imm], .agg [.int .i64 p1.Op, .int .i64 p1.Rd, .int .i64 p1.Rs, .int .i64 p1.Rt, .int .i64 p1.Imm]] (.bool r) := by
 refine APure_fn (fun N0 => ?_) (by simp)
 refine ACalls_fn tok Tryd.func62 (by kernel_rfl) rfl Tryd.ntmps62 Tryd.results62 rfl ?_
 simp only [argsA, Nat.reduceAdd, hp_next]
 unfold l_eqInstr at H
 refine AWP_sr tok [0, 1] [2, 3] (fun a σ => a = [(2, .fptr [.int .i64 p0.Op, .int .i64 p0.Rd, .int .i64 p0.Rs, .int .i64 p0.Rt, .int .i64 p0.Imm] 0), (3, .fptr [.int .i64 p1.Op, .int .i64 p1.Rd, .int .i64 p1.Rs, .int .i64 p1.Rt, .int .i64 p1.Imm] 0)] ∧ σ = hp E0 [] (N0 + 3)) (fun K hK => ?_) ?_
 ·
  simp -dsimp -implicitDefEqProofs (maxDischargeDepth := 6)
  exact hK _ _ ⟨rfl, rfl⟩
 rintro a σ ⟨rfl, rfl⟩
 refine AWP_sq [2, 3] fun K1 hK1 => ?_
 refine AWP_sr tok [] [2, 3, 9] (fun a σ => a = [(2, .fptr [.int .i64 p0.Op, .int .i64 p0.Rd, .int .i64 p0.Rs, .int .i64 p0.Rt, .int .i64 p0.Imm] 0), (3, .fptr [.int .i64 p1.Op, .int .i64 p1.Rd, .int .i64 p1.Rs, .int .i64 p1.Rt, .int .i64 p1.Imm] 0), (9, .bool (ine p0.Op p1.Op))] ∧ σ = hp E0 [] (N0 + 8)) (fun K hK => ?_) ?_
 ·
  simp -dsimp -implicitDefEqProofs (maxDischargeDepth := 6)
  exact hK _ _ ⟨rfl, rfl⟩
 rintro a σ ⟨rfl, rfl⟩
 refine AWP_cond (ine p0.Op p1.Op) rfl (fun C1 => ?_) (fun C1 => ?_)
 ·
  replace H := ifT C1 H
  refine AWP_sr tok [] [4] (fun a σ => a = [(4, .bool false)] ∧ σ = hp E0 [] (N0 + 9)) (fun K hK => ?_) ?_
  ·
   simp -dsimp -implicitDefEqProofs (maxDischargeDepth := 6)
   exact hK _ _ ⟨rfl, rfl⟩
  rintro a σ ⟨rfl, rfl⟩
  replace H := Option.some.inj H; subst H
  refine AWP_kp [4] [(4, .bool false)] rfl ?_
  refine AWP_ret ?_
  exact ⟨[.bool false], by simp, 4, by simp [encL_nil]⟩
 ·
  replace H := ifF C1 H
  refine AWP_skip ?_
  show K1 _ _
  refine keepE (l := [2, 3]) (x := [(2, .fptr [.int .i64 p0.Op, .int .i64 p0.Rd, .int .i64 p0.Rs, .int .i64 p0.Rt, .int .i64 p0.Imm] 0), (3, .fptr [.int .i64 p1.Op, .int .i64 p1.Rd, .int .i64 p1.Rs, .int .i64 p1.Rt, .int .i64 p1.Imm] 0)]) rfl fun a' ha => ?_
  refine hK1 _ _ ?_; rw [ha]
  refine Rc.mk ?_
  refine AWP_sq [2, 3] fun K2 hK2 => ?_
  refine AWP_sr tok [] [2, 3, 14] (fun a σ => a = [(2, .fptr [.int .i64 p0.Op, .int .i64 p0.Rd, .int .i64 p0.Rs, .int .i64 p0.Rt, .int .i64 p0.Imm] 0), (3, .fptr [.int .i64 p1.Op, .int .i64 p1.Rd, .int .i64 p1.Rs, .int .i64 p1.Rt, .int .i64 p1.Imm] 0), (14, .bool (ine p0.Rd p1.Rd))] ∧ σ = hp E0 [] (N0 + 13)) (fun K hK => ?_) ?_
  ·
   simp -dsimp -implicitDefEqProofs (maxDischargeDepth := 6)
   exact hK _ _ ⟨rfl, rfl⟩
  rintro a σ ⟨rfl, rfl⟩
  refine AWP_cond (ine p0.Rd p1.Rd) rfl (fun C2 => ?_) (fun C2 => ?_)
  ·
   replace H := ifT C2 H
   refine AWP_sr tok [] [4] (fun a σ => a = [(4, .bool false)] ∧ σ = hp E0 [] (N0 + 14)) (fun K hK => ?_) ?_
   ·
    simp -dsimp -implicitDefEqProofs (maxDischargeDepth := 6)
    exact hK _ _ ⟨rfl, rfl⟩
   rintro a σ ⟨rfl, rfl⟩
   replace H := Option.some.inj H; subst H
   refine AWP_kp [4] [(4, .bool false)] rfl ?_
   refine AWP_ret ?_
   exact ⟨[.bool false], by simp, 4, by simp [encL_nil]⟩
  ·
   replace H := ifF C2 H
   refine AWP_skip ?_
   show K2 _ _
   refine keepE (l := [2, 3]) (x := [(2, .fptr [.int .i64 p0.Op, .int .i64 p0.Rd, .int .i64 p0.Rs, .int .i64 p0.Rt, .int .i64 p0.Imm] 0), (3, .fptr [.int .i64 p1.Op, .int .i64 p1.Rd, .int .i64 p1.Rs, .int .i64 p1.Rt, .int .i64 p1.Imm] 0)]) rfl fun a' ha => ?_
   refine hK2 _ _ ?_; rw [ha]
   refine Rc.mk ?_
   refine AWP_sq [2, 3] fun K3 hK3 => ?_
   refine AWP_sr tok [] [2, 3, 19] (fun a σ => a = [(2, .fptr [.int .i64 p0.Op, .int .i64 p0.Rd, .int .i64 p0.Rs, .int .i64 p0.Rt, .int .i64 p0.Imm] 0), (3, .fptr [.int .i64 p1.Op, .int .i64 p1.Rd, .int .i64 p1.Rs, .int .i64 p1.Rt, .int .i64 p1.Imm] 0), (19, .bool (ine p0.Rs p1.Rs))] ∧ σ = hp E0 [] (N0 + 18)) (fun K hK => ?_) ?_
   ·
    simp -dsimp -implicitDefEqProofs (maxDischargeDepth := 6)
    exact hK _ _ ⟨rfl, rfl⟩
   rintro a σ ⟨rfl, rfl⟩
   refine AWP_cond (ine p0.Rs p1.Rs) rfl (fun C3 => ?_) (fun C3 => ?_)
   ·
    replace H := ifT C3 H
    refine AWP_sr tok [] [4] (fun a σ => a = [(4, .bool false)] ∧ σ = hp E0 [] (N0 + 19)) (fun K hK => ?_) ?_
    ·
     simp -dsimp -implicitDefEqProofs (maxDischargeDepth := 6)
     exact hK _ _ ⟨rfl, rfl⟩
    rintro a σ ⟨rfl, rfl⟩
    replace H := Option.some.inj H; subst H
    refine AWP_kp [4] [(4, .bool false)] rfl ?_
    refine AWP_ret ?_
    exact ⟨[.bool false], by simp, 4, by simp [encL_nil]⟩
   ·
    replace H := ifF C3 H
    refine AWP_skip ?_
    show K3 _ _
    refine keepE (l := [2, 3]) (x := [(2, .fptr [.int .i64 p0.Op, .int .i64 p0.Rd, .int .i64 p0.Rs, .int .i64 p0.Rt, .int .i64 p0.Imm] 0), (3, .fptr [.int .i64 p1.Op, .int .i64 p1.Rd, .int .i64 p1.Rs, .int .i64 p1.Rt, .int .i64 p1.Imm] 0)]) rfl fun a' ha => ?_
    refine hK3 _ _ ?_; rw [ha]
    refine Rc.mk ?_
    refine AWP_sq [2, 3] fun K4 hK4 => ?_
    refine AWP_sr tok [] [2, 3, 24] (fun a σ => a = [(2, .fptr [.int .i64 p0.Op, .int .i64 p0.Rd, .int .i64 p0.Rs, .int .i64 p0.Rt, .int .i64 p0.Imm] 0), (3, .fptr [.int .i64 p1.Op, .int .i64 p1.Rd, .int .i64 p1.Rs, .int .i64 p1.Rt, .int .i64 p1.Imm] 0), (24, .bool (ine p0.Rt p1.Rt))] ∧ σ = hp E0 [] (N0 + 23)) (fun K hK => ?_) ?_
    ·
     simp -dsimp -implicitDefEqProofs (maxDischargeDepth := 6)
     exact hK _ _ ⟨rfl, rfl⟩
    rintro a σ ⟨rfl, rfl⟩
    refine AWP_cond (ine p0.Rt p1.Rt) rfl (fun C4 => ?_) (fun C4 => ?_)
    ·
     replace H := ifT C4 H
     refine AWP_sr tok [] [4] (fun a σ => a = [(4, .bool false)] ∧ σ = hp E0 [] (N0 + 24)) (fun K hK => ?_) ?_
     ·
      simp -dsimp -implicitDefEqProofs (maxDischargeDepth := 6)
      exact hK _ _ ⟨rfl, rfl⟩
     rintro a σ ⟨rfl, rfl⟩
     replace H := Option.some.inj H; subst H
     refine AWP_kp [4] [(4, .bool false)] rfl ?_
     refine AWP_ret ?_
     exact ⟨[.bool false], by simp, 4, by simp [encL_nil]⟩
    ·
     replace H := ifF C4 H
     refine AWP_skip ?_
     show K4 _ _
     refine keepE (l := [2, 3]) (x := [(2, .fptr [.int .i64 p0.Op, .int .i64 p0.Rd, .int .i64 p0.Rs, .int .i64 p0.Rt, .int .i64 p0.Imm] 0), (3, .fptr [.int .i64 p1.Op, .int .i64 p1.Rd, .int .i64 p1.Rs, .int .i64 p1.Rt, .int .i64 p1.Imm] 0)]) rfl fun a' ha => ?_
     refine hK4 _ _ ?_; rw [ha]
     refine Rc.mk ?_
     refine AWP_sq [] fun K5 hK5 => ?_
     refine AWP_sr tok [] [29] (fun a σ => a = [(29, .bool (ine p0.Imm p1.Imm))] ∧ σ = hp E0 [] (N0 + 28)) (fun K hK => ?_) ?_
     ·
      simp -dsimp -implicitDefEqProofs (maxDischargeDepth := 6)
      exact hK _ _ ⟨rfl, rfl⟩
     rintro a σ ⟨rfl, rfl⟩
     refine AWP_cond (ine p0.Imm p1.Imm) rfl (fun C5 => ?_) (fun C5 => ?_)
     ·
      replace H := ifT C5 H
      refine AWP_sr tok [] [4] (fun a σ => a = [(4, .bool false)] ∧ σ = hp E0 [] (N0 + 29)) (fun K hK => ?_) ?_
      ·
       simp -dsimp -implicitDefEqProofs (maxDischargeDepth := 6)
       exact hK _ _ ⟨rfl, rfl⟩
      rintro a σ ⟨rfl, rfl⟩
      replace H := Option.some.inj H; subst H
      refine AWP_kp [4] [(4, .bool false)] rfl ?_
      refine AWP_ret ?_
      exact ⟨[.bool false], by simp, 4, by simp [encL_nil]⟩
     ·
      replace H := ifF C5 H
      refine AWP_skip ?_
      show K5 _ _
      refine keepE (l := []) (x := []) rfl fun a' ha => ?_
      refine hK5 _ _ ?_; rw [ha]
      refine Rc.mk ?_
      refine AWP_sr tok [] [4] (fun a σ => a = [(4, .bool true)] ∧ σ = hp E0 [] (N0 + 29)) (fun K hK => ?_) ?_
      ·
       simp -dsimp -implicitDefEqProofs (maxDischargeDepth := 6)
       exact hK _ _ ⟨rfl, rfl⟩
      rintro a σ ⟨rfl, rfl⟩
      replace H := Option.some.inj H; subst H
      refine AWP_kp [4] [(4, .bool true)] rfl ?_
      refine AWP_ret ?_
      exact ⟨[.bool true], by simp, 4, by simp [encL_nil]⟩
theorem c36 {p0 : (List gInstr)} {p1 : (List gInstr)} {r : Bool} (H : l_eqInstrS p0 p1 = some r) : APure Tryd.prog G 36 [.fsl (encL rInstr p0), .fsl (encL rInstr p1)] (.bool r) := by
 refine APure_fn (fun N0 => ?_) (by simp)
 refine ACalls_fn tok Tryd.func36 (by kernel_rfl) rfl Tryd.ntmps36 Tryd.results36 rfl ?_
 simp only [argsA, Nat.reduceAdd, hp_next]
 unfold l_eqInstrS at H
 refine AWP_sr tok [] [0, 1] (fun a σ => a = [(0, .fsl (encL rInstr p0)), (1, .fsl (encL rInstr p1))] ∧ σ = hp E0 [] (N0 + 1)) (fun K hK => ?_) ?_
 ·
  simp -dsimp -implicitDefEqProofs (maxDischargeDepth := 6)
  exact hK _ _ ⟨rfl, rfl⟩
 rintro a σ ⟨rfl, rfl⟩
 refine AWP_sq [0, 1] fun K1 hK1 => ?_
 refine AWP_sr tok [] [0, 1, 10] (fun a σ => a = [(0, .fsl (encL rInstr p0)), (1, .fsl (encL rInstr p1)), (10, .bool (ine (ilen p0) (ilen p1)))] ∧ σ = hp E0 [] (N0 + 6)) (fun K hK => ?_) ?_
 ·
  simp -dsimp -implicitDefEqProofs (maxDischargeDepth := 6)
  exact hK _ _ ⟨rfl, rfl⟩
 rintro a σ ⟨rfl, rfl⟩
 refine AWP_cond (ine (ilen p0) (ilen p1)) rfl (fun C1 => ?_) (fun C1 => ?_)
 ·
  replace H := ifT C1 H
  refine AWP_sr tok [] [4] (fun a σ => a = [(4, .bool false)] ∧ σ = hp E0 [] (N0 + 7)) (fun K hK => ?_) ?_
  ·
   simp -dsimp -implicitDefEqProofs (maxDischargeDepth := 6)
   exact hK _ _ ⟨rfl, rfl⟩
  rintro a σ ⟨rfl, rfl⟩
  replace H := Option.some.inj H; subst H
  refine AWP_kp [4] [(4, .bool false)] rfl ?_
  refine AWP_ret ?_
  exact ⟨[.bool false], by simp, 4, by simp [encL_nil]⟩
 ·
  replace H := ifF C1 H
  refine AWP_skip ?_
  show K1 _ _
  refine keepE (l := [0, 1]) (x := [(0, .fsl (encL rInstr p0)), (1, .fsl (encL rInstr p1))]) rfl fun a' ha => ?_
  refine hK1 _ _ ?_; rw [ha]
  refine Rc.mk ?_
  refine AWP_sq [] fun K2 hK2 => ?_
  refine AWP_sr tok [] [0, 1, 5] (fun a σ => a = [(0, .fsl (encL rInstr p0)), (1, .fsl (encL rInstr p1)), (5, .int .i64 0)] ∧ σ = hp E0 [] (N0 + 7)) (fun K hK => ?_) ?_
  ·
   simp -dsimp -implicitDefEqProofs (maxDischargeDepth := 6)
   exact hK _ _ ⟨rfl, rfl⟩
  rintro a σ ⟨rfl, rfl⟩
  refine AWP_block (AWP_thenB ?_)
  obtain ⟨e1, hse1, H⟩ := bindE H
  refine AWP_lp [0, 1, 5] (fun s a σ => ∃ M1 : Nat, N0 ≤ M1 ∧ a = [(0, .fsl (encL rInstr p0)), (1, .fsl (encL rInstr p1)), (5, .int .i64 s)] ∧ σ = hp E0 [] M1) (fun e x a σ => match e with | .inl s => x = .exit 0 ∧ Rc G 27 N0 (fun a σ => ∃ M2 : Nat, N0 ≤ M2 ∧ a = [] ∧ σ = hp E0 [] M2) (AAct.keep a []) σ | .inr s => x = .ret ∧ ∃ vs, resA T σ a [.tmp 4] = some vs ∧ ∃ d, thawA (fun _ => true) σ d (tupA vs) = .bool s) hse1 ?_ ?_ ?_
  ·
   refine Rc.kp [0, 1, 5] [(0, .fsl (encL rInstr p0)), (1, .fsl (encL rInstr p1)), (5, .int .i64 0)] rfl ?_
   exact Rc.fin (AHeap.Sub.refl _) ⟨N0 + 7, (by omega), rfl, rfl⟩
  ·
   clear H hse1
   rintro s1 fl a σ H ⟨M1, fM1_0, rfl, rfl⟩ K3 O3 hK3 hO3
   unfold l_eqInstrS_L1 at H; dsimp only at H
   refine AWP_sq [0, 1, 5] fun K4 hK4 => ?_
   refine AWP_sr tok [] [0, 1, 5, 14] (fun a σ => a = [(0, .fsl (encL rInstr p0)), (1, .fsl (encL rInstr p1)), (5, .int .i64 s1), (14, .bool (ilt s1 (ilen p0)))] ∧ σ = hp E0 [] (M1 + 4)) (fun K hK => ?_) ?_
   ·
    simp -dsimp -implicitDefEqProofs (maxDischargeDepth := 6)
    exact hK _ _ ⟨rfl, rfl⟩
   rintro a σ ⟨rfl, rfl⟩
   refine AWP_cond (ilt s1 (ilen p0)) rfl (fun C2 => ?_) (fun C2 => ?_)
   ·
    replace H := ifT C2 H
    refine AWP_skip ?_
    show K4 _ _
    refine keepE (l := [0, 1, 5]) (x := [(0, .fsl (encL rInstr p0)), (1, .fsl (encL rInstr p1)), (5, .int .i64 s1)]) rfl fun a' ha => ?_
    refine hK4 _ _ ?_; rw [ha]
    refine Rc.mk ?_
    refine AWP_sq [0, 1, 5] fun K5 hK5 => ?_
    refine AWP_block (AWP_thenB ?_)
    obtain ⟨v2, hv2, H⟩ := bindE H
    obtain ⟨v3, hv3, H⟩ := bindE H
    obtain ⟨r4, hr4, H⟩ := bindE H
    refine AWP_sd tok tokM [] [] [0, 1, 2, 3, 4, 5, 6, 7, 8, 9] [0, 1, 5, 26] (fun a σ => a = [(0, .fsl (encL rInstr p0)), (1, .fsl (encL rInstr p1)), (5, .int .i64 s1), (26, .bool (bnot r4))] ∧ σ = hp E0 [] (M1 + 14)) (by decide) (fun K hK => ?_) ?_
    ·
     simp only [pickL, nthO_succ, nthO_zero]
     simp -dsimp -implicitDefEqProofs (maxDischargeDepth := 6) [ix46 hv2, ix46 hv3]
     refine Pc.mk (c62 hr4) ?_; try simp -dsimp -implicitDefEqProofs (maxDischargeDepth := 6) [ix46 hv2, ix46 hv3]
     exact hK _ _ ⟨rfl, rfl⟩
    rintro a σ ⟨rfl, rfl⟩
    refine AWP_cond (bnot r4) rfl (fun C3 => ?_) (fun C3 => ?_)
    ·
     replace H := ifT C3 H
     refine AWP_sr tok [] [4] (fun a σ => a = [(4, .bool false)] ∧ σ = hp E0 [] (M1 + 15)) (fun K hK => ?_) ?_
     ·
      simp -dsimp -implicitDefEqProofs (maxDischargeDepth := 6)
      exact hK _ _ ⟨rfl, rfl⟩
     rintro a σ ⟨rfl, rfl⟩
     replace H := Option.some.inj H; subst H
     refine AWP_kp [4] [(4, .bool false)] rfl ?_
     refine AWP_ret (hO3 _ _ _ _ rfl ⟨rfl, ?_⟩)
     exact ⟨[.bool false], by simp, 4, by simp [encL_nil]⟩
    ·
     replace H := ifF C3 H
     refine AWP_skip ?_
     show K5 _ _
     refine keepE (l := [0, 1, 5]) (x := [(0, .fsl (encL rInstr p0)), (1, .fsl (encL rInstr p1)), (5, .int .i64 s1)]) rfl fun a' ha => ?_
     refine hK5 _ _ ?_; rw [ha]
     refine Rc.mk ?_
     refine AWP_rt tok [] [0, 1, 5] (fun a σ => a = [(0, .fsl (encL rInstr p0)), (1, .fsl (encL rInstr p1)), (5, .int .i64 (iadd .i64 s1 1))] ∧ σ = hp E0 [] (M1 + 17)) (fun K hK => ?_) ?_
     ·
      simp -dsimp -implicitDefEqProofs (maxDischargeDepth := 6)
      exact hK _ _ ⟨rfl, rfl⟩
     rintro a σ ⟨ha, rfl⟩
     replace H := Option.some.inj H; subst H
     refine hK3 _ _ _ rfl ?_; rw [ha]
     exact Rc.fin (AHeap.Sub.refl _) ⟨M1 + 17, (by omega), rfl, rfl⟩
   ·
    replace H := ifF C2 H
    replace H := Option.some.inj H; subst H
    refine AWP_exit (hO3 _ _ _ _ rfl ⟨rfl, ?_⟩)
    refine Rc.rw (l := []) (X := []) rfl ?_
    exact Rc.fin (AHeap.Sub.refl _) ⟨M1 + 4, (by omega), rfl, rfl⟩
  ·
   intro x a σ hx
   rcases e1 with ⟨⟩ | r0
   ·
    obtain ⟨rfl, b, τ, hr, M2, fM2_0, rfl, rfl⟩ := hx
    dsimp only at H
    show K2 _ _
    refine hK2 _ _ (Rc_ref hr ?_)
    refine Rc.mk ?_
    refine AWP_sr tok [] [4] (fun a σ => a = [(4, .bool true)] ∧ σ = hp E0 [] (M2 + 1)) (fun K hK => ?_) ?_
    ·
     simp -dsimp -implicitDefEqProofs (maxDischargeDepth := 6)
     exact hK _ _ ⟨rfl, rfl⟩
    rintro a σ ⟨rfl, rfl⟩
    replace H := Option.some.inj H; subst H
    refine AWP_kp [4] [(4, .bool true)] rfl ?_
    refine AWP_ret ?_
    exact ⟨[.bool true], by simp, 4, by simp [encL_nil]⟩
   ·
    obtain ⟨rfl, hx2⟩ := hx
    dsimp only at H
    replace H := Option.some.inj H; subst H; exact hx2
theorem c12 {p0 : (List (List gInstr))} {p1 : (List (List gInstr))} {r : Bool} (H : l_eqInstrSS p0 p1 = some r) : APure Tryd.prog G 12 [.fsl (encL rL_Instr p0), .fsl (encL rL_Instr p1)] (.bool r) := by
 refine APure_fn (fun N0 => ?_) (by simp)
 refine ACalls_fn tok Tryd.func12 (by kernel_rfl) rfl Tryd.ntmps12 Tryd.results12 rfl ?_
 simp only [argsA, Nat.reduceAdd, hp_next]
 unfold l_eqInstrSS at H
 refine AWP_sr tok [] [0, 1] (fun a σ => a = [(0, .fsl (encL rL_Instr p0)), (1, .fsl (encL rL_Instr p1))] ∧ σ = hp E0 [] (N0 + 1)) (fun K hK => ?_) ?_
 ·
  simp -dsimp -implicitDefEqProofs (maxDischargeDepth := 6)
  exact hK _ _ ⟨rfl, rfl⟩
 rintro a σ ⟨rfl, rfl⟩
 refine AWP_sq [0, 1] fun K1 hK1 => ?_
 refine AWP_sr tok [] [0, 1, 10] (fun a σ => a = [(0, .fsl (encL rL_Instr p0)), (1, .fsl (encL rL_Instr p1)), (10, .bool (ine (ilen p0) (ilen p1)))] ∧ σ = hp E0 [] (N0 + 6)) (fun K hK => ?_) ?_
 ·
  simp -dsimp -implicitDefEqProofs (maxDischargeDepth := 6)
  exact hK _ _ ⟨rfl, rfl⟩
 rintro a σ ⟨rfl, rfl⟩
 refine AWP_cond (ine (ilen p0) (ilen p1)) rfl (fun C1 => ?_) (fun C1 => ?_)
 ·
  replace H := ifT C1 H
  refine AWP_sr tok [] [4] (fun a σ => a = [(4, .bool false)] ∧ σ = hp E0 [] (N0 + 7)) (fun K hK => ?_) ?_
  ·
   simp -dsimp -implicitDefEqProofs (maxDischargeDepth := 6)
   exact hK _ _ ⟨rfl, rfl⟩
  rintro a σ ⟨rfl, rfl⟩
  replace H := Option.some.inj H; subst H
  refine AWP_kp [4] [(4, .bool false)] rfl ?_
  refine AWP_ret ?_
  exact ⟨[.bool false], by simp, 4, by simp [encL_nil]⟩
 ·
  replace H := ifF C1 H
  refine AWP_skip ?_
  show K1 _ _
  refine keepE (l := [0, 1]) (x := [(0, .fsl (encL rL_Instr p0)), (1, .fsl (encL rL_Instr p1))]) rfl fun a' ha => ?_
  refine hK1 _ _ ?_; rw [ha]
  refine Rc.mk ?_
  refine AWP_sq [] fun K2 hK2 => ?_
  refine AWP_sr tok [] [0, 1, 5] (fun a σ => a = [(0, .fsl (encL rL_Instr p0)), (1, .fsl (encL rL_Instr p1)), (5, .int .i64 0)] ∧ σ = hp E0 [] (N0 + 7)) (fun K hK => ?_) ?_
  ·
   simp -dsimp -implicitDefEqProofs (maxDischargeDepth := 6)
   exact hK _ _ ⟨rfl, rfl⟩
  rintro a σ ⟨rfl, rfl⟩
  refine AWP_block (AWP_thenB ?_)
  obtain ⟨e1, hse1, H⟩ := bindE H
  refine AWP_lp [0, 1, 5] (fun s a σ => ∃ M1 : Nat, N0 ≤ M1 ∧ a = [(0, .fsl (encL rL_Instr p0)), (1, .fsl (encL rL_Instr p1)), (5, .int .i64 s)] ∧ σ = hp E0 [] M1) (fun e x a σ => match e with | .inl s => x = .exit 0 ∧ Rc G 27 N0 (fun a σ => ∃ M2 : Nat, N0 ≤ M2 ∧ a = [] ∧ σ = hp E0 [] M2) (AAct.keep a []) σ | .inr s => x = .ret ∧ ∃ vs, resA T σ a [.tmp 4] = some vs ∧ ∃ d, thawA (fun _ => true) σ d (tupA vs) = .bool s) hse1 ?_ ?_ ?_
  ·
   refine Rc.kp [0, 1, 5] [(0, .fsl (encL rL_Instr p0)), (1, .fsl (encL rL_Instr p1)), (5, .int .i64 0)] rfl ?_
   exact Rc.fin (AHeap.Sub.refl _) ⟨N0 + 7, (by omega), rfl, rfl⟩
  ·
   clear H hse1
   rintro s1 fl a σ H ⟨M1, fM1_0, rfl, rfl⟩ K3 O3 hK3 hO3
   unfold l_eqInstrSS_L1 at H; dsimp only at H
   refine AWP_sq [0, 1, 5] fun K4 hK4 => ?_
   refine AWP_sr tok [] [0, 1, 5, 14] (fun a σ => a = [(0, .fsl (encL rL_Instr p0)), (1, .fsl (encL rL_Instr p1)), (5, .int .i64 s1), (14, .bool (ilt s1 (ilen p0)))] ∧ σ = hp E0 [] (M1 + 4)) (fun K hK => ?_) ?_
   ·
    simp -dsimp -implicitDefEqProofs (maxDischargeDepth := 6)
    exact hK _ _ ⟨rfl, rfl⟩
   rintro a σ ⟨rfl, rfl⟩
   refine AWP_cond (ilt s1 (ilen p0)) rfl (fun C2 => ?_) (fun C2 => ?_)
   ·
    replace H := ifT C2 H
    refine AWP_skip ?_
    show K4 _ _
    refine keepE (l := [0, 1, 5]) (x := [(0, .fsl (encL rL_Instr p0)), (1, .fsl (encL rL_Instr p1)), (5, .int .i64 s1)]) rfl fun a' ha => ?_
    refine hK4 _ _ ?_; rw [ha]
    refine Rc.mk ?_
    refine AWP_sq [0, 1, 5] fun K5 hK5 => ?_
    refine AWP_block (AWP_thenB ?_)
    obtain ⟨v2, hv2, H⟩ := bindE H
    obtain ⟨v3, hv3, H⟩ := bindE H
    obtain ⟨r4, hr4, H⟩ := bindE H
    refine AWP_sd tok tokM [] [] [0, 1, 2, 3, 4, 5, 6, 7, 8, 9] [0, 1, 5, 26] (fun a σ => a = [(0, .fsl (encL rL_Instr p0)), (1, .fsl (encL rL_Instr p1)), (5, .int .i64 s1), (26, .bool (bnot r4))] ∧ σ = hp E0 [] (M1 + 14)) (by decide) (fun K hK => ?_) ?_
    ·
     simp only [pickL, nthO_succ, nthO_zero]
     simp -dsimp -implicitDefEqProofs (maxDischargeDepth := 6) [ix32 hv2, ix32 hv3]
     refine Pc.mk (c36 hr4) ?_; try simp -dsimp -implicitDefEqProofs (maxDischargeDepth := 6) [ix32 hv2, ix32 hv3]
     exact hK _ _ ⟨rfl, rfl⟩
    rintro a σ ⟨rfl, rfl⟩
    refine AWP_cond (bnot r4) rfl (fun C3 => ?_) (fun C3 => ?_)
    ·
     replace H := ifT C3 H
     refine AWP_sr tok [] [4] (fun a σ => a = [(4, .bool false)] ∧ σ = hp E0 [] (M1 + 15)) (fun K hK => ?_) ?_
     ·
      simp -dsimp -implicitDefEqProofs (maxDischargeDepth := 6)
      exact hK _ _ ⟨rfl, rfl⟩
     rintro a σ ⟨rfl, rfl⟩
     replace H := Option.some.inj H; subst H
     refine AWP_kp [4] [(4, .bool false)] rfl ?_
     refine AWP_ret (hO3 _ _ _ _ rfl ⟨rfl, ?_⟩)
     exact ⟨[.bool false], by simp, 4, by simp [encL_nil]⟩
    ·
     replace H := ifF C3 H
     refine AWP_skip ?_
     show K5 _ _
     refine keepE (l := [0, 1, 5]) (x := [(0, .fsl (encL rL_Instr p0)), (1, .fsl (encL rL_Instr p1)), (5, .int .i64 s1)]) rfl fun a' ha => ?_
     refine hK5 _ _ ?_; rw [ha]
     refine Rc.mk ?_
     refine AWP_rt tok [] [0, 1, 5] (fun a σ => a = [(0, .fsl (encL rL_Instr p0)), (1, .fsl (encL rL_Instr p1)), (5, .int .i64 (iadd .i64 s1 1))] ∧ σ = hp E0 [] (M1 + 17)) (fun K hK => ?_) ?_
     ·
      simp -dsimp -implicitDefEqProofs (maxDischargeDepth := 6)
      exact hK _ _ ⟨rfl, rfl⟩
     rintro a σ ⟨ha, rfl⟩
     replace H := Option.some.inj H; subst H
     refine hK3 _ _ _ rfl ?_; rw [ha]
     exact Rc.fin (AHeap.Sub.refl _) ⟨M1 + 17, (by omega), rfl, rfl⟩
   ·
    replace H := ifF C2 H
    replace H := Option.some.inj H; subst H
    refine AWP_exit (hO3 _ _ _ _ rfl ⟨rfl, ?_⟩)
    refine Rc.rw (l := []) (X := []) rfl ?_
    exact Rc.fin (AHeap.Sub.refl _) ⟨M1 + 4, (by omega), rfl, rfl⟩
  ·
   intro x a σ hx
   rcases e1 with ⟨⟩ | r0
   ·
    obtain ⟨rfl, b, τ, hr, M2, fM2_0, rfl, rfl⟩ := hx
    dsimp only at H
    show K2 _ _
    refine hK2 _ _ (Rc_ref hr ?_)
    refine Rc.mk ?_
    refine AWP_sr tok [] [4] (fun a σ => a = [(4, .bool true)] ∧ σ = hp E0 [] (M2 + 1)) (fun K hK => ?_) ?_
    ·
     simp -dsimp -implicitDefEqProofs (maxDischargeDepth := 6)
     exact hK _ _ ⟨rfl, rfl⟩
    rintro a σ ⟨rfl, rfl⟩
    replace H := Option.some.inj H; subst H
    refine AWP_kp [4] [(4, .bool true)] rfl ?_
    refine AWP_ret ?_
    exact ⟨[.bool true], by simp, 4, by simp [encL_nil]⟩
   ·
    obtain ⟨rfl, hx2⟩ := hx
    dsimp only at H
    replace H := Option.some.inj H; subst H; exact hx2
theorem c13 {p0 : (List Int)} {p1 : Int} {r : Int × (List Int)} (H : l_markIntS p0 p1 = some r) {σ : AHeap} {w0 : Nat} (q0 : σ.objs w0 = some ⟨3, 1, encL rI p0⟩) : ACalls Tryd.prog G 13 [.sl w0 0 p0.length, .int .i64 p1] σ (fun v σ' => ∃ M : Nat, σ.next ≤ M ∧ r.2.length = p0.length ∧ v = .int .i64 r.1 ∧ σ' = hp σ.objs [(w0, some ⟨3, 1, encL rI r.2⟩)] M) := by
 refine ACalls_fr (L := [(w0, some ⟨3, 1, encL rI p0⟩)]) (Q1 := fun v σ' => ∃ M : Nat, σ.next ≤ M ∧ r.2.length = p0.length ∧ v = .int .i64 r.1 ∧ σ' = hp E0 [(w0, some ⟨3, 1, encL rI r.2⟩)] M) (by simp [q0]) (fun hlt => ?_) ?_ ⟨_, Tryd.func13, rfl, rfl⟩
 rotate_left
 ·
  rintro v σ1 ⟨M, h0, h1, rfl, rfl⟩
  exact ⟨_, M, rfl, by simp, by simp; try omega, M, h0, h1, rfl, rfl⟩
 generalize σ.next = N0 at hlt ⊢
 have lw0 : w0 < N0 := hlt _ (.head _) rfl
 refine ACalls_fn tok Tryd.func13 (by kernel_rfl) rfl Tryd.ntmps13 Tryd.results13 rfl ?_
 simp only [argsA, Nat.reduceAdd, hp_next]
 unfold l_markIntS at H
 refine AWP_sr tok [] [0, 1] (fun a σ => a = [(0, .sl w0 0 p0.length), (1, .int .i64 p1)] ∧ σ = hp E0 [(w0, some ⟨3, 1, encL rI p0⟩)] (N0 + 1)) (fun K hK => ?_) ?_
 ·
  simp -dsimp -implicitDefEqProofs (maxDischargeDepth := 6)
  exact hK _ _ ⟨rfl, rfl⟩
 rintro a σ ⟨rfl, rfl⟩
 refine AWP_sq [1] fun K1 hK1 => ?_
 refine AWP_sr tok [] [0, 1, 5] (fun a σ => a = [(0, .sl w0 0 p0.length), (1, .int .i64 p1), (5, .int .i64 0)] ∧ σ = hp E0 [(w0, some ⟨3, 1, encL rI p0⟩)] (N0 + 2)) (fun K hK => ?_) ?_
 ·
  simp -dsimp -implicitDefEqProofs (maxDischargeDepth := 6)
  exact hK _ _ ⟨rfl, rfl⟩
 rintro a σ ⟨rfl, rfl⟩
 refine AWP_block (AWP_thenB ?_)
 obtain ⟨e1, hse1, H⟩ := bindE H
 refine AWP_lp [0, 1, 5] (fun s a σ => ∃ M1 : Nat, N0 ≤ M1 ∧ s.2.2.length = p0.length ∧ a = [(0, .sl w0 0 s.2.2.length), (1, .int .i64 s.1), (5, .int .i64 s.2.1)] ∧ σ = hp E0 [(w0, some ⟨3, 1, encL rI s.2.2⟩)] M1) (fun s x a σ => x = .exit 0 ∧ Rc G 19 N0 (fun a σ => ∃ M2 : Nat, N0 ≤ M2 ∧ s.2.length = p0.length ∧ a = [(1, .int .i64 s.1)] ∧ σ = hp E0 [(w0, some ⟨3, 1, encL rI s.2⟩)] M2) (AAct.keep a [1]) σ) hse1 ?_ ?_ ?_
 ·
  refine Rc.kp [0, 1, 5] [(0, .sl w0 0 p0.length), (1, .int .i64 p1), (5, .int .i64 0)] rfl ?_
  exact Rc.fin (AHeap.Sub.refl _) ⟨N0 + 2, (by omega), (by first | rfl | exact rfl | omega), rfl, rfl⟩
 ·
  clear H hse1
  rintro ⟨s1, s2, s3⟩ fl a σ H ⟨M1, fM1_0, fM1_1, rfl, rfl⟩ K2 O2 hK2 hO2
  unfold l_markIntS_L1 at H; dsimp only at H
  refine AWP_sq [0, 1, 5] fun K3 hK3 => ?_
  refine AWP_sr tok [] [0, 1, 5, 9] (fun a σ => a = [(0, .sl w0 0 s3.length), (1, .int .i64 s1), (5, .int .i64 s2), (9, .bool (ilt s2 (ilen s3)))] ∧ σ = hp E0 [(w0, some ⟨3, 1, encL rI s3⟩)] (M1 + 4)) (fun K hK => ?_) ?_
  ·
   simp -dsimp -implicitDefEqProofs (maxDischargeDepth := 6)
   exact hK _ _ ⟨rfl, rfl⟩
  rintro a σ ⟨rfl, rfl⟩
  refine AWP_cond (ilt s2 (ilen s3)) rfl (fun C1 => ?_) (fun C1 => ?_)
  ·
   replace H := ifT C1 H
   refine AWP_skip ?_
   show K3 _ _
   refine keepE (l := [0, 1, 5]) (x := [(0, .sl w0 0 s3.length), (1, .int .i64 s1), (5, .int .i64 s2)]) rfl fun a' ha => ?_
   refine hK3 _ _ ?_; rw [ha]
   refine Rc.mk ?_
   refine AWP_sq [0, 1, 5] fun K4 hK4 => ?_
   refine AWP_block (AWP_thenB ?_)
   obtain ⟨v6, hv6, H⟩ := bindE H
   obtain ⟨l7, hl7, H⟩ := bindE H
   refine AWP_sr tok [] [0, 1, 5] (fun a σ => a = [(0, .sl w0 0 s3.length), (1, .int .i64 s1), (5, .int .i64 s2)] ∧ σ = hp E0 [(w0, some ⟨3, 1, encL rI l7⟩)] (M1 + 9)) (fun K hK => ?_) ?_
   ·
    simp -dsimp -implicitDefEqProofs (maxDischargeDepth := 6) [ixo22 hv6, (idx_lt3 hv6).2.2, (setx_iff.1 hl7).2.symm]
    exact hK _ _ ⟨rfl, rfl⟩
   rintro a σ ⟨rfl, rfl⟩
   try rw [← setx_len hl7]
   refine AWP_rt tok [] [0, 1, 5] (fun a σ => a = [(0, .sl w0 0 l7.length), (1, .int .i64 (iadd .i64 s1 1)), (5, .int .i64 s2)] ∧ σ = hp E0 [(w0, some ⟨3, 1, encL rI l7⟩)] (M1 + 12)) (fun K hK => ?_) ?_
   ·
    simp -dsimp -implicitDefEqProofs (maxDischargeDepth := 6)
    exact hK _ _ ⟨rfl, rfl⟩
   rintro a σ ⟨ha, rfl⟩
   refine hK4 _ _ ?_; rw [ha]
   refine Rc.mk ?_
   refine AWP_rt tok [] [0, 1, 5] (fun a σ => a = [(0, .sl w0 0 l7.length), (1, .int .i64 (iadd .i64 s1 1)), (5, .int .i64 (iadd .i64 s2 1))] ∧ σ = hp E0 [(w0, some ⟨3, 1, encL rI l7⟩)] (M1 + 15)) (fun K hK => ?_) ?_
   ·
    simp -dsimp -implicitDefEqProofs (maxDischargeDepth := 6)
    exact hK _ _ ⟨rfl, rfl⟩
   rintro a σ ⟨ha, rfl⟩
   replace H := Option.some.inj H; subst H
   refine hK2 _ _ _ rfl ?_; rw [ha]
   exact Rc.fin (AHeap.Sub.refl _) ⟨M1 + 15, (by omega), (by first | rfl | exact ((setx_len hl7).trans fM1_1) | omega), rfl, rfl⟩
  ·
   replace H := ifF C1 H
   replace H := Option.some.inj H; subst H
   refine AWP_exit (hO2 _ _ _ _ rfl ⟨rfl, ?_⟩)
   refine Rc.rw (l := [1]) (X := [(1, .int .i64 s1)]) rfl ?_
   exact Rc.fin (AHeap.Sub.refl _) ⟨M1 + 4, (by omega), (by first | rfl | exact fM1_1 | omega), rfl, rfl⟩
 ·
  intro x a σ hx
  obtain ⟨y4, y5⟩ := e1
  obtain ⟨rfl, b, τ, hr, M2, fM2_0, fM2_1, rfl, rfl⟩ := hx
  dsimp only at H
  show K1 _ _
  refine hK1 _ _ (Rc_ref hr ?_)
  refine Rc.mk ?_
  refine AWP_sr tok [] [4] (fun a σ => a = [(4, .int .i64 y4)] ∧ σ = hp E0 [(w0, some ⟨3, 1, encL rI y5⟩)] (M2 + 2)) (fun K hK => ?_) ?_
  ·
   simp -dsimp -implicitDefEqProofs (maxDischargeDepth := 6)
   exact hK _ _ ⟨rfl, rfl⟩
  rintro a σ ⟨rfl, rfl⟩
  replace H := Option.some.inj H; subst H
  refine AWP_kp [4] [(4, .int .i64 y4)] rfl ?_
  refine AWP_ret ?_
  refine ⟨[.int .i64 y4], by simp, M2 + 2, by omega, by first | rfl | exact fM2_1 | omega, ?_, ?_⟩
  ·
   simp [encL_nil]
  ·
   first | rfl | simp [List.set_set]
theorem c7_o {p0 : (List Int)} {r : (List Int)} (H : l_toIntS_o p0 = some r) {σ : AHeap} : ACalls Tryd.prog G 7 [.fsl (encL rI p0)] σ (fun v σ' => ∃ M n0 : Nat, σ.next ≤ M ∧ σ.next ≤ n0 ∧ n0 < M ∧ v = .sl n0 0 r.length ∧ σ' = hp σ.objs [(n0, some ⟨3, 1, encL rI r⟩)] M) := by
 refine ACalls_fr (L := []) (Q1 := fun v σ' => ∃ M n0 : Nat, σ.next ≤ M ∧ σ.next ≤ n0 ∧ n0 < M ∧ v = .sl n0 0 r.length ∧ σ' = hp E0 [(n0, some ⟨3, 1, encL rI r⟩)] M) (by simp []) (fun hlt => ?_) ?_ ⟨_, Tryd.func7, rfl, rfl⟩
 rotate_left
 ·
  rintro v σ1 ⟨M, n0, h0, h1, h2, rfl, rfl⟩
  exact ⟨_, M, rfl, by simp, by simp; try omega, M, n0, h0, h1, h2, rfl, rfl⟩
 generalize σ.next = N0 at hlt ⊢
 refine ACalls_fn tok Tryd.func7 (by kernel_rfl) rfl Tryd.ntmps7 Tryd.results7 rfl ?_
 simp only [argsA, Nat.reduceAdd, hp_next]
 unfold l_toIntS_o at H
 refine AWP_sr tok [] [0] (fun a σ => a = [(0, .fsl (encL rI p0))] ∧ σ = hp E0 [] (N0 + 1)) (fun K hK => ?_) ?_
 ·
  simp -dsimp -implicitDefEqProofs (maxDischargeDepth := 6)
  exact hK _ _ ⟨rfl, rfl⟩
 rintro a σ ⟨rfl, rfl⟩
 obtain ⟨l1, hl1, H⟩ := bindE H
 refine AWP_sr tok [] [0, 3] (fun a σ => a = [(0, .fsl (encL rI p0)), (3, .sl (N0 + 3) 0 l1.length)] ∧ σ = hp E0 [(N0 + 3, some ⟨3, 1, encL rI l1⟩)] (N0 + 5)) (fun K hK => ?_) ?_
 ·
  simp -dsimp -implicitDefEqProofs (maxDischargeDepth := 6) [mak22 hl1]
  exact hK _ _ ⟨rfl, rfl⟩
 rintro a σ ⟨rfl, rfl⟩
 refine AWP_sq [3] fun K1 hK1 => ?_
 refine AWP_sr tok [] [0, 3, 4] (fun a σ => a = [(0, .fsl (encL rI p0)), (3, .sl (N0 + 3) 0 l1.length), (4, .int .i64 0)] ∧ σ = hp E0 [(N0 + 3, some ⟨3, 1, encL rI l1⟩)] (N0 + 6)) (fun K hK => ?_) ?_
 ·
  simp -dsimp -implicitDefEqProofs (maxDischargeDepth := 6)
  exact hK _ _ ⟨rfl, rfl⟩
 rintro a σ ⟨rfl, rfl⟩
 refine AWP_block (AWP_thenB ?_)
 obtain ⟨e1, hse1, H⟩ := bindE H
 refine AWP_lp [0, 3, 4] (fun s a σ => ∃ M1 o1 : Nat, N0 ≤ M1 ∧ N0 ≤ o1 ∧ o1 < M1 ∧ a = [(0, .fsl (encL rI p0)), (3, .sl o1 0 s.2.length), (4, .int .i64 s.1)] ∧ σ = hp E0 [(o1, some ⟨3, 1, encL rI s.2⟩)] M1) (fun s x a σ => x = .exit 0 ∧ Rc G 22 N0 (fun a σ => ∃ M2 o2 : Nat, N0 ≤ M2 ∧ N0 ≤ o2 ∧ o2 < M2 ∧ a = [(3, .sl o2 0 s.length)] ∧ σ = hp E0 [(o2, some ⟨3, 1, encL rI s⟩)] M2) (AAct.keep a [3]) σ) hse1 ?_ ?_ ?_
 ·
  refine Rc.kp [0, 3, 4] [(0, .fsl (encL rI p0)), (3, .sl (N0 + 3) 0 l1.length), (4, .int .i64 0)] rfl ?_
  exact Rc.fin (AHeap.Sub.refl _) ⟨N0 + 6, (N0 + 3), (by omega), (by omega), (by omega), rfl, rfl⟩
 ·
  clear H hse1
  rintro ⟨s2, s3⟩ fl a σ H ⟨M1, o1, fM1_0, fM1_1, fM1_2, rfl, rfl⟩ K2 O2 hK2 hO2
  unfold l_toIntS_o_L1 at H; dsimp only at H
  refine AWP_sq [0, 3, 4] fun K3 hK3 => ?_
  refine AWP_sr tok [] [0, 3, 4, 11] (fun a σ => a = [(0, .fsl (encL rI p0)), (3, .sl o1 0 s3.length), (4, .int .i64 s2), (11, .bool (ilt s2 (ilen p0)))] ∧ σ = hp E0 [(o1, some ⟨3, 1, encL rI s3⟩)] (M1 + 4)) (fun K hK => ?_) ?_
  ·
   simp -dsimp -implicitDefEqProofs (maxDischargeDepth := 6)
   exact hK _ _ ⟨rfl, rfl⟩
  rintro a σ ⟨rfl, rfl⟩
  refine AWP_cond (ilt s2 (ilen p0)) rfl (fun C1 => ?_) (fun C1 => ?_)
  ·
   replace H := ifT C1 H
   refine AWP_skip ?_
   show K3 _ _
   refine keepE (l := [0, 3, 4]) (x := [(0, .fsl (encL rI p0)), (3, .sl o1 0 s3.length), (4, .int .i64 s2)]) rfl fun a' ha => ?_
   refine hK3 _ _ ?_; rw [ha]
   refine Rc.mk ?_
   refine AWP_sq [0, 3, 4] fun K4 hK4 => ?_
   refine AWP_block (AWP_thenB ?_)
   obtain ⟨v5, hv5, H⟩ := bindE H
   obtain ⟨v6, hv6, H⟩ := bindE H
   obtain ⟨l7, hl7, H⟩ := bindE H
   refine AWP_rt tok [] [0, 3, 4] (fun a σ => a = [(0, .fsl (encL rI p0)), (3, .sl o1 0 s3.length), (4, .int .i64 s2)] ∧ σ = hp E0 [(o1, some ⟨3, 1, encL rI l7⟩)] (M1 + 12)) (fun K hK => ?_) ?_
   ·
    simp -dsimp -implicitDefEqProofs (maxDischargeDepth := 6) [ix22 hv5, ixo22 hv6, (idx_lt3 hv6).2.2, (setx_iff.1 hl7).2.symm]
    exact hK _ _ ⟨rfl, rfl⟩
   rintro a σ ⟨ha, rfl⟩
   (try rw [← setx_len hl7] at ha); (try rw [← setx_len hl7])
   refine hK4 _ _ ?_; rw [ha]
   refine Rc.mk ?_
   refine AWP_rt tok [] [0, 3, 4] (fun a σ => a = [(0, .fsl (encL rI p0)), (3, .sl o1 0 l7.length), (4, .int .i64 (iadd .i64 s2 1))] ∧ σ = hp E0 [(o1, some ⟨3, 1, encL rI l7⟩)] (M1 + 15)) (fun K hK => ?_) ?_
   ·
    simp -dsimp -implicitDefEqProofs (maxDischargeDepth := 6)
    exact hK _ _ ⟨rfl, rfl⟩
   rintro a σ ⟨ha, rfl⟩
   replace H := Option.some.inj H; subst H
   refine hK2 _ _ _ rfl ?_; rw [ha]
   exact Rc.fin (AHeap.Sub.refl _) ⟨M1 + 15, o1, (by omega), (by omega), (by omega), rfl, rfl⟩
  ·
   replace H := ifF C1 H
   replace H := Option.some.inj H; subst H
   refine AWP_exit (hO2 _ _ _ _ rfl ⟨rfl, ?_⟩)
   refine Rc.rw (l := [3]) (X := [(3, .sl o1 0 s3.length)]) rfl ?_
   exact Rc.fin (AHeap.Sub.refl _) ⟨M1 + 4, o1, (by omega), (by omega), (by omega), rfl, rfl⟩
 ·
  intro x a σ hx
  obtain ⟨y4, rfl⟩ : ∃ x, x = e1 := ⟨_, rfl⟩
  obtain ⟨rfl, b, τ, hr, M2, o2, fM2_0, fM2_1, fM2_2, rfl, rfl⟩ := hx
  dsimp only at H
  show K1 _ _
  refine hK1 _ _ (Rc_ref hr ?_)
  refine Rc.mk ?_
  refine AWP_sr tok [] [2] (fun a σ => a = [(2, .sl o2 0 y4.length)] ∧ σ = hp E0 [(o2, some ⟨3, 1, encL rI y4⟩)] (M2 + 2)) (fun K hK => ?_) ?_
  ·
   simp -dsimp -implicitDefEqProofs (maxDischargeDepth := 6)
   exact hK _ _ ⟨rfl, rfl⟩
  rintro a σ ⟨rfl, rfl⟩
  replace H := Option.some.inj H; subst H
  refine AWP_kp [2] [(2, .sl o2 0 y4.length)] rfl ?_
  refine AWP_ret ?_
  refine ⟨[.sl o2 0 y4.length], by simp, M2 + 2, o2, by omega, by omega, by omega, ?_, ?_⟩
  ·
   simp [encL_nil]
  ·
   first | rfl | simp [List.set_set]
theorem c33_o2 {p0 : (List gInstr)} {r : gMachine × Bool} (H : i_HartNew_o2 p0 = some r) {σ : AHeap} : ACalls Tryd.prog G 33 [.fsl (encL rInstr p0)] σ (fun v σ' => ∃ M n0 n1 : Nat, σ.next ≤ M ∧ σ.next ≤ n0 ∧ n0 < M ∧ σ.next ≤ n1 ∧ n1 < M ∧ ¬ n0 = n1 ∧ v = .tup [.agg [.sl n0 0 r.1.Regs.length, .int .i64 r.1.Pc, .sl n1 0 r.1.Mem.length], .bool r.2] ∧ σ' = hp σ.objs [(n0, some ⟨3, 1, encL rI r.1.Regs⟩), (n1, some ⟨3, 1, encL rI r.1.Mem⟩)] M) := by
 refine ACalls_fr (L := []) (Q1 := fun v σ' => ∃ M n0 n1 : Nat, σ.next ≤ M ∧ σ.next ≤ n0 ∧ n0 < M ∧ σ.next ≤ n1 ∧ n1 < M ∧ ¬ n0 = n1 ∧ v = .tup [.agg [.sl n0 0 r.1.Regs.length, .int .i64 r.1.Pc, .sl n1 0 r.1.Mem.length], .bool r.2] ∧ σ' = hp E0 [(n0, some ⟨3, 1, encL rI r.1.Regs⟩), (n1, some ⟨3, 1, encL rI r.1.Mem⟩)] M) (by simp []) (fun hlt => ?_) ?_ ⟨_, Tryd.func33, rfl, rfl⟩
 rotate_left
 ·
  rintro v σ1 ⟨M, n0, n1, h0, h1, h2, h3, h4, h5, rfl, rfl⟩
  exact ⟨_, M, rfl, by simp, by simp; try omega, M, n0, n1, h0, h1, h2, h3, h4, h5, rfl, rfl⟩
 generalize σ.next = N0 at hlt ⊢
 refine ACalls_thaw 4 ?_
 refine ACalls_fn tok Tryd.func33 (by kernel_rfl) rfl Tryd.ntmps33 Tryd.results33 rfl ?_
 simp only [argsA, Nat.reduceAdd, hp_next]
 unfold i_HartNew_o2 at H
 refine AWP_sr tok [] [0, 2] (fun a σ => a = [(0, .fsl (encL rInstr p0)), (2, .ptr N0 0 0)] ∧ σ = hp E0 [(N0, some ⟨53, 3, [[.nilsl, .int .i64 0, .nilsl]]⟩)] (N0 + 2)) (fun K hK => ?_) ?_
 ·
  simp -dsimp -implicitDefEqProofs (maxDischargeDepth := 6)
  exact hK _ _ ⟨rfl, rfl⟩
 rintro a σ ⟨rfl, rfl⟩
 refine gPk0 AWP_ref (o := N0) (ob := ⟨53, 3, [[.nilsl, .int .i64 0, .nilsl]]⟩) (row := [.nilsl, .int .i64 0, .nilsl]) (r := 0) (i := 0) 3 1 [(N0, some ⟨53, 3, [[.osl 3 1 (encL rI ([] : List Int)), .int .i64 0, .nilsl]]⟩)] (by simp (disch := omega)) rfl rfl (by simp (disch := omega)) (by simp (disch := omega) [encL_nil, List.set_set, app_set]) ?_
 refine gPk0 AWP_ref (o := N0) (ob := ⟨53, 3, [[.osl 3 1 (encL rI ([] : List Int)), .int .i64 0, .nilsl]]⟩) (row := [.osl 3 1 (encL rI ([] : List Int)), .int .i64 0, .nilsl]) (r := 0) (i := 2) 3 1 [(N0, some ⟨53, 3, [[.osl 3 1 (encL rI ([] : List Int)), .int .i64 0, .osl 3 1 (encL rI ([] : List Int))]]⟩)] (by simp (disch := omega)) rfl rfl (by simp (disch := omega)) (by simp (disch := omega) [encL_nil, List.set_set, app_set]) ?_
 obtain ⟨r1, hr1, H⟩ := bindE H
 refine AWP_sr tok [] [2, 4, 5] (fun a σ => a = [(2, .ptr N0 0 0), (4, .fsl (encL rI r1.1)), (5, .bool r1.2)] ∧ σ = hp E0 [(N0, some ⟨53, 3, [[.osl 3 1 (encL rI ([] : List Int)), .int .i64 0, .osl 3 1 (encL rI ([] : List Int))]]⟩)] (N0 + 9)) (fun K hK => ?_) ?_
 ·
  simp -dsimp -implicitDefEqProofs (maxDischargeDepth := 6)
  refine (c59 hr1).app ?_; try simp -dsimp -implicitDefEqProofs (maxDischargeDepth := 6)
  exact hK _ _ ⟨rfl, rfl⟩
 rintro a σ ⟨rfl, rfl⟩
 refine AWP_sq [2, 4] fun K1 hK1 => ?_
 obtain ⟨g2, hg2, H⟩ := bindE H
 refine AWP_sr tok [] [2, 4, 20] (fun a σ => a = [(2, .ptr N0 0 0), (4, .fsl (encL rI r1.1)), (20, .bool g2)] ∧ σ = hp E0 [(N0, some ⟨53, 3, [[.osl 3 1 (encL rI ([] : List Int)), .int .i64 0, .osl 3 1 (encL rI ([] : List Int))]]⟩)] (N0 + 18)) (fun K hK => ?_) ?_
 ·
  simp -dsimp -implicitDefEqProofs (maxDischargeDepth := 6)
  cases hbg2 : bnot r1.2
  ·
   replace hg2 := ifF hbg2 hg2
   replace hg2 := Option.some.inj hg2; subst hg2
   try simp -dsimp -implicitDefEqProofs (maxDischargeDepth := 6) [hbg2]
   exact hK _ _ ⟨rfl, rfl⟩
  ·
   replace hg2 := ifT hbg2 hg2
   replace hg2 := Option.some.inj hg2; subst hg2
   try simp -dsimp -implicitDefEqProofs (maxDischargeDepth := 6) [hbg2]
   exact hK _ _ ⟨rfl, rfl⟩
 rintro a σ ⟨rfl, rfl⟩
 refine AWP_cond g2 rfl (fun C1 => ?_) (fun C1 => ?_)
 ·
  replace H := ifT C1 H
  refine AWP_sr tok [0] [2, 3] (fun a σ => a = [(2, .ptr N0 0 0), (3, .bool false)] ∧ σ = hp E0 [(N0, some ⟨53, 3, [[.nilsl, .int .i64 0, .nilsl]]⟩)] (N0 + 21)) (fun K hK => ?_) ?_
  ·
   simp -dsimp -implicitDefEqProofs (maxDischargeDepth := 6)
   exact hK _ _ ⟨rfl, rfl⟩
  rintro a σ ⟨rfl, rfl⟩
  replace H := Option.some.inj H; subst H
  refine AWP_kp [2, 3] [(2, .ptr N0 0 0), (3, .bool false)] rfl ?_
  refine gPk0 AWP_ref (o := N0) (ob := ⟨53, 3, [[.nilsl, .int .i64 0, .nilsl]]⟩) (row := [.nilsl, .int .i64 0, .nilsl]) (r := 0) (i := 0) 3 1 [(N0, some ⟨53, 3, [[.osl 3 1 (encL rI ([] : List Int)), .int .i64 0, .nilsl]]⟩)] (by simp (disch := omega)) rfl rfl (by simp (disch := omega)) (by simp (disch := omega) [encL_nil, List.set_set, app_set]) ?_
  refine gPk0 AWP_ref (o := N0) (ob := ⟨53, 3, [[.osl 3 1 (encL rI ([] : List Int)), .int .i64 0, .nilsl]]⟩) (row := [.osl 3 1 (encL rI ([] : List Int)), .int .i64 0, .nilsl]) (r := 0) (i := 2) 3 1 [(N0, some ⟨53, 3, [[.osl 3 1 (encL rI ([] : List Int)), .int .i64 0, .osl 3 1 (encL rI ([] : List Int))]]⟩)] (by simp (disch := omega)) rfl rfl (by simp (disch := omega)) (by simp (disch := omega) [encL_nil, List.set_set, app_set]) ?_
  refine gUnp AWP_ref (ty := 3) (sz := 1) (es := encL rI ([] : List Int)) (o := N0) (ob := ⟨53, 3, [[.osl 3 1 (encL rI ([] : List Int)), .int .i64 0, .osl 3 1 (encL rI ([] : List Int))]]⟩) (row := [.osl 3 1 (encL rI ([] : List Int)), .int .i64 0, .osl 3 1 (encL rI ([] : List Int))]) (r := 0) (i := 0) [(N0, some ⟨53, 3, [[.sl (N0 + 21) 0 ([] : List Int).length, .int .i64 0, .osl 3 1 (encL rI ([] : List Int))]]⟩), (N0 + 21, some ⟨3, 1, encL rI ([] : List Int)⟩)] (by simp (disch := omega)) rfl rfl (by simp (disch := omega) [List.set_set]) ?_
  refine gUnp AWP_ref (ty := 3) (sz := 1) (es := encL rI ([] : List Int)) (o := N0) (ob := ⟨53, 3, [[.sl (N0 + 21) 0 ([] : List Int).length, .int .i64 0, .osl 3 1 (encL rI ([] : List Int))]]⟩) (row := [.sl (N0 + 21) 0 ([] : List Int).length, .int .i64 0, .osl 3 1 (encL rI ([] : List Int))]) (r := 0) (i := 2) [(N0, some ⟨53, 3, [[.sl (N0 + 21) 0 ([] : List Int).length, .int .i64 0, .sl (N0 + 22) 0 ([] : List Int).length]]⟩), (N0 + 21, some ⟨3, 1, encL rI ([] : List Int)⟩), (N0 + 22, some ⟨3, 1, encL rI ([] : List Int)⟩)] (by simp (disch := omega)) rfl rfl (by simp (disch := omega) [List.set_set]) ?_
  refine AWP_ret ?_
  refine ⟨[.agg [.sl (N0 + 21) 0 ([] : List Int).length, .int .i64 0, .sl (N0 + 22) 0 ([] : List Int).length], .bool false], by simp, (fun o => [N0].contains o), N0 + 23, N0 + 21, N0 + 22, by omega, by omega, by omega, by omega, by omega, by omega, ?_, ?_⟩
  ·
   simp [encL_nil]
  ·
   rw [cutD (L' := [(N0 + 21, some ⟨3, 1, encL rI ([] : List Int)⟩), (N0 + 22, some ⟨3, 1, encL rI ([] : List Int)⟩)]) (by simp)]
   first | done | rfl | simp [List.set_set]
 ·
  replace H := ifF C1 H
  refine AWP_skip ?_
  show K1 _ _
  refine keepE (l := [2, 4]) (x := [(2, .ptr N0 0 0), (4, .fsl (encL rI r1.1))]) rfl fun a' ha => ?_
  refine hK1 _ _ ?_; rw [ha]
  refine Rc.mk ?_
  obtain ⟨l3, hl3, H⟩ := bindE H
  obtain ⟨l4, hl4, H⟩ := bindE H
  obtain ⟨l5, hl5, H⟩ := bindE H
  have q0 : ∀ σ i, buildSliceA T 22 false i 1 [(0, .int .i64 0)] σ = some (.sl i 0 (List.length l3), σ.put i ⟨3, 1, encL rI l3⟩) := by rw [← Option.some.inj hl3]; intro _ _; rfl
  refine AWP_sd tok tokM [] [0, 1, 3, 5, 6] [2, 1, 3, 0, 4, 5, 6] [2, 6] (fun a σ => a = [(2, .ptr N0 0 0), (6, .ptr (N0 + 23) 0 0)] ∧ σ = hp E0 [(N0, some ⟨53, 3, [[.osl 3 1 (encL rI ([] : List Int)), .int .i64 0, .osl 3 1 (encL rI ([] : List Int))]]⟩), (N0 + 21, some ⟨3, 1, encL rI l4⟩), (N0 + 18, some ⟨3, 1, encL rI l5⟩), (N0 + 23, some ⟨53, 3, [[.sl (N0 + 18) 0 l5.length, .int .i64 4, .sl (N0 + 21) 0 l4.length]]⟩)] (N0 + 25)) (by decide) (fun K hK => ?_) ?_
  ·
   simp only [pickL, nthO_succ, nthO_zero]
   simp -dsimp -implicitDefEqProofs (maxDischargeDepth := 6) [q0, app22 hl4, mak22 hl5]
   exact hK _ _ ⟨rfl, rfl⟩
  rintro a σ ⟨rfl, rfl⟩
  obtain ⟨v6, hv6, H⟩ := bindE H
  obtain ⟨l7, hl7, H⟩ := bindE H
  refine AWP_sr tok [] [2, 6] (fun a σ => a = [(2, .ptr N0 0 0), (6, .ptr (N0 + 23) 0 0)] ∧ σ = hp E0 [(N0, some ⟨53, 3, [[.osl 3 1 (encL rI ([] : List Int)), .int .i64 0, .osl 3 1 (encL rI ([] : List Int))]]⟩), (N0 + 21, some ⟨3, 1, encL rI l4⟩), (N0 + 18, some ⟨3, 1, encL rI l7⟩), (N0 + 23, some ⟨53, 3, [[.sl (N0 + 18) 0 l5.length, .int .i64 4, .sl (N0 + 21) 0 l4.length]]⟩)] (N0 + 33)) (fun K hK => ?_) ?_
  ·
   simp -dsimp -implicitDefEqProofs (maxDischargeDepth := 6) [ixo22 hv6, (show _[2]? = some v6 from (idx_lt3 hv6).2.2), (show List.set _ 2 _ = l7 from (setx_iff.1 hl7).2.symm)]
   exact hK _ _ ⟨rfl, rfl⟩
  rintro a σ ⟨rfl, rfl⟩
  try rw [← setx_len hl7]
  obtain ⟨l8, hl8, H⟩ := bindE H
  refine AWP_sr tok [] [2, 6] (fun a σ => a = [(2, .ptr N0 0 0), (6, .ptr (N0 + 23) 0 0)] ∧ σ = hp E0 [(N0, some ⟨53, 3, [[.osl 3 1 (encL rI ([] : List Int)), .int .i64 0, .osl 3 1 (encL rI ([] : List Int))]]⟩), (N0 + 18, some ⟨3, 1, encL rI l7⟩), (N0 + 23, some ⟨53, 3, [[.sl (N0 + 18) 0 l7.length, .int .i64 4, .sl (N0 + 35) 0 l8.length]]⟩), (N0 + 35, some ⟨3, 1, encL rI l8⟩)] (N0 + 38)) (fun K hK => ?_) ?_
  ·
   simp -dsimp -implicitDefEqProofs (maxDischargeDepth := 6) [appz22_3 hl8]
   exact hK _ _ ⟨rfl, rfl⟩
  rintro a σ ⟨rfl, rfl⟩
  refine AWP_sr tok [] [2, 3] (fun a σ => a = [(2, .ptr N0 0 0), (3, .bool true)] ∧ σ = hp E0 [(N0, some ⟨53, 3, [[.sl (N0 + 18) 0 l7.length, .int .i64 4, .sl (N0 + 35) 0 l8.length]]⟩), (N0 + 18, some ⟨3, 1, encL rI l7⟩), (N0 + 23, some ⟨53, 3, [[.sl (N0 + 18) 0 l7.length, .int .i64 4, .sl (N0 + 35) 0 l8.length]]⟩), (N0 + 35, some ⟨3, 1, encL rI l8⟩)] (N0 + 41)) (fun K hK => ?_) ?_
  ·
   simp -dsimp -implicitDefEqProofs (maxDischargeDepth := 6)
   exact hK _ _ ⟨rfl, rfl⟩
  rintro a σ ⟨rfl, rfl⟩
  replace H := Option.some.inj H; subst H
  refine AWP_kp [2, 3] [(2, .ptr N0 0 0), (3, .bool true)] rfl ?_
  refine gDrop AWP_ref [(N0, some ⟨53, 3, [[.sl (N0 + 18) 0 l7.length, .int .i64 4, .sl (N0 + 35) 0 l8.length]]⟩), (N0 + 18, some ⟨3, 1, encL rI l7⟩), (N0 + 35, some ⟨3, 1, encL rI l8⟩)] (hp_skip (hp_skip (AHeap.Sub.trans (hp_skip (AHeap.Sub.refl _)) (hp_drop rfl (by simp; try omega))))) ?_
  refine gPk AWP_ref (k := l7.length) (o := N0) (ob := ⟨53, 3, [[.sl (N0 + 18) 0 l7.length, .int .i64 4, .sl (N0 + 35) 0 l8.length]]⟩) (row := [.sl (N0 + 18) 0 l7.length, .int .i64 4, .sl (N0 + 35) 0 l8.length]) (d := (N0 + 18)) (obd := ⟨3, 1, encL rI l7⟩) (r := 0) (i := 0) [(N0, some ⟨53, 3, [[.osl 3 1 (encL rI l7), .int .i64 4, .sl (N0 + 35) 0 l8.length]]⟩), (N0 + 35, some ⟨3, 1, encL rI l8⟩)] (by simp (disch := omega)) rfl rfl (by simp (disch := omega)) (by simp (disch := omega)) (by first | omega | simp) (by simp (disch := omega) [List.set_set, app_set] <;> omega) (by simp (disch := omega) [List.set_set, app_set]) ?_
  refine gPk AWP_ref (k := l8.length) (o := N0) (ob := ⟨53, 3, [[.osl 3 1 (encL rI l7), .int .i64 4, .sl (N0 + 35) 0 l8.length]]⟩) (row := [.osl 3 1 (encL rI l7), .int .i64 4, .sl (N0 + 35) 0 l8.length]) (d := (N0 + 35)) (obd := ⟨3, 1, encL rI l8⟩) (r := 0) (i := 2) [(N0, some ⟨53, 3, [[.osl 3 1 (encL rI l7), .int .i64 4, .osl 3 1 (encL rI l8)]]⟩)] (by simp (disch := omega)) rfl rfl (by simp (disch := omega)) (by simp (disch := omega)) (by first | omega | simp) (by simp (disch := omega) [List.set_set, app_set] <;> omega) (by simp (disch := omega) [List.set_set, app_set]) ?_
  refine gUnp AWP_ref (ty := 3) (sz := 1) (es := encL rI l7) (o := N0) (ob := ⟨53, 3, [[.osl 3 1 (encL rI l7), .int .i64 4, .osl 3 1 (encL rI l8)]]⟩) (row := [.osl 3 1 (encL rI l7), .int .i64 4, .osl 3 1 (encL rI l8)]) (r := 0) (i := 0) [(N0, some ⟨53, 3, [[.sl (N0 + 41) 0 l7.length, .int .i64 4, .osl 3 1 (encL rI l8)]]⟩), (N0 + 41, some ⟨3, 1, encL rI l7⟩)] (by simp (disch := omega)) rfl rfl (by simp (disch := omega) [List.set_set]) ?_
  refine gUnp AWP_ref (ty := 3) (sz := 1) (es := encL rI l8) (o := N0) (ob := ⟨53, 3, [[.sl (N0 + 41) 0 l7.length, .int .i64 4, .osl 3 1 (encL rI l8)]]⟩) (row := [.sl (N0 + 41) 0 l7.length, .int .i64 4, .osl 3 1 (encL rI l8)]) (r := 0) (i := 2) [(N0, some ⟨53, 3, [[.sl (N0 + 41) 0 l7.length, .int .i64 4, .sl (N0 + 42) 0 l8.length]]⟩), (N0 + 41, some ⟨3, 1, encL rI l7⟩), (N0 + 42, some ⟨3, 1, encL rI l8⟩)] (by simp (disch := omega)) rfl rfl (by simp (disch := omega) [List.set_set]) ?_
  refine AWP_ret ?_
  refine ⟨[.agg [.sl (N0 + 41) 0 l7.length, .int .i64 4, .sl (N0 + 42) 0 l8.length], .bool true], by simp, (fun o => [N0].contains o), N0 + 43, N0 + 41, N0 + 42, by omega, by omega, by omega, by omega, by omega, by omega, ?_, ?_⟩
  ·
   simp [encL_nil]
  ·
   rw [cutD (L' := [(N0 + 41, some ⟨3, 1, encL rI l7⟩), (N0 + 42, some ⟨3, 1, encL rI l8⟩)]) (by simp)]
   first | done | rfl | simp [List.set_set]
theorem c32_o2 {p0 : (List Int)} {r : (List gBox)} (H : i_boxesNew_o2 p0 = some r) {σ : AHeap} : ACalls Tryd.prog G 32 [.fsl (encL rI p0)] σ (fun v σ' => ∃ M n0 : Nat, σ.next ≤ M ∧ σ.next ≤ n0 ∧ n0 < M ∧ v = .sl n0 0 r.length ∧ σ' = hp σ.objs [(n0, some ⟨86, 2, encL rBox_o r⟩)] M) := by
 refine ACalls_fr (L := []) (Q1 := fun v σ' => ∃ M n0 : Nat, σ.next ≤ M ∧ σ.next ≤ n0 ∧ n0 < M ∧ v = .sl n0 0 r.length ∧ σ' = hp E0 [(n0, some ⟨86, 2, encL rBox_o r⟩)] M) (by simp []) (fun hlt => ?_) ?_ ⟨_, Tryd.func32, rfl, rfl⟩
 rotate_left
 ·
  rintro v σ1 ⟨M, n0, h0, h1, h2, rfl, rfl⟩
  exact ⟨_, M, rfl, by simp, by simp; try omega, M, n0, h0, h1, h2, rfl, rfl⟩
 generalize σ.next = N0 at hlt ⊢
 refine ACalls_fn tok Tryd.func32 (by kernel_rfl) rfl Tryd.ntmps32 Tryd.results32 rfl ?_
 simp only [argsA, Nat.reduceAdd, hp_next]
 unfold i_boxesNew_o2 at H
 refine AWP_sr tok [] [0] (fun a σ => a = [(0, .fsl (encL rI p0))] ∧ σ = hp E0 [] (N0 + 1)) (fun K hK => ?_) ?_
 ·
  simp -dsimp -implicitDefEqProofs (maxDischargeDepth := 6)
  exact hK _ _ ⟨rfl, rfl⟩
 rintro a σ ⟨rfl, rfl⟩
 refine AWP_sr tok [] [0, 3] (fun a σ => a = [(0, .fsl (encL rI p0)), (3, .nilsl)] ∧ σ = hp E0 [] (N0 + 2)) (fun K hK => ?_) ?_
 ·
  simp -dsimp -implicitDefEqProofs (maxDischargeDepth := 6)
  exact hK _ _ ⟨rfl, rfl⟩
 rintro a σ ⟨rfl, rfl⟩
 refine AWP_sq [3] fun K1 hK1 => ?_
 refine AWP_sr tok [] [3, 6, 7, 8] (fun a σ => a = [(3, .nilsl), (6, .fsl (encL rI p0)), (7, .int .i64 (ilen p0)), (8, .int .i64 0)] ∧ σ = hp E0 [] (N0 + 5)) (fun K hK => ?_) ?_
 ·
  simp -dsimp -implicitDefEqProofs (maxDischargeDepth := 6)
  exact hK _ _ ⟨rfl, rfl⟩
 rintro a σ ⟨rfl, rfl⟩
 refine AWP_block (AWP_thenB ?_)
 obtain ⟨e1, hse1, H⟩ := bindE H
 refine AWP_lp [3, 6, 7, 8] (fun s a σ => ∃ M1 o1 : Nat, N0 ≤ M1 ∧ N0 ≤ o1 ∧ o1 < M1 ∧ a = [(3, .sl o1 0 s.2.length), (6, .fsl (encL rI p0)), (7, .int .i64 (ilen p0)), (8, .int .i64 s.1)] ∧ σ = hp E0 [(o1, some ⟨86, 2, encL rBox_o s.2⟩)] M1) (fun s x a σ => x = .exit 0 ∧ Rc G 19 N0 (fun a σ => ∃ M2 o2 : Nat, N0 ≤ M2 ∧ N0 ≤ o2 ∧ o2 < M2 ∧ a = [(3, .sl o2 0 s.length)] ∧ σ = hp E0 [(o2, some ⟨86, 2, encL rBox_o s⟩)] M2) (AAct.keep a [3]) σ) hse1 ?_ ?_ ?_
 ·
  refine Rc.kp [3, 6, 7, 8] [(3, .nilsl), (6, .fsl (encL rI p0)), (7, .int .i64 (ilen p0)), (8, .int .i64 0)] rfl ?_
  refine gNilS Rc_ref 3 86 2 [(N0 + 5, some ⟨86, 2, encL rBox_o ([] : List gBox)⟩)] [(3, .sl (N0 + 5) 0 ([] : List gBox).length), (6, .fsl (encL rI p0)), (7, .int .i64 (ilen p0)), (8, .int .i64 0)] (by simp (disch := omega)) (by simp (disch := omega) [encL_nil]) [3, 6, 7, 8] rfl ?_
  exact Rc.fin (AHeap.Sub.refl _) ⟨N0 + 6, (N0 + 5), (by omega), (by omega), (by omega), rfl, rfl⟩
 ·
  clear H hse1
  rintro ⟨s1, s2⟩ fl a σ H ⟨M1, o1, fM1_0, fM1_1, fM1_2, rfl, rfl⟩ K2 O2 hK2 hO2
  unfold i_boxesNew_o2_L1 at H; dsimp only at H
  refine AWP_sr tok [] [3, 6, 7, 8, 9] (fun a σ => a = [(3, .sl o1 0 s2.length), (6, .fsl (encL rI p0)), (7, .int .i64 (ilen p0)), (8, .int .i64 s1), (9, .bool (ilt s1 (ilen p0)))] ∧ σ = hp E0 [(o1, some ⟨86, 2, encL rBox_o s2⟩)] (M1 + 1)) (fun K hK => ?_) ?_
  ·
   simp -dsimp -implicitDefEqProofs (maxDischargeDepth := 6)
   exact hK _ _ ⟨rfl, rfl⟩
  rintro a σ ⟨rfl, rfl⟩
  refine AWP_sq [3, 6, 7, 8] fun K3 hK3 => ?_
  refine AWP_cond (ilt s1 (ilen p0)) rfl (fun C1 => ?_) (fun C1 => ?_)
  ·
   replace H := ifT C1 H
   refine AWP_skip ?_
   show K3 _ _
   refine keepE (l := [3, 6, 7, 8]) (x := [(3, .sl o1 0 s2.length), (6, .fsl (encL rI p0)), (7, .int .i64 (ilen p0)), (8, .int .i64 s1)]) rfl fun a' ha => ?_
   refine hK3 _ _ ?_; rw [ha]
   refine Rc.mk ?_
   refine AWP_sq [3, 6, 7, 8] fun K4 hK4 => ?_
   refine AWP_block (AWP_thenB ?_)
   obtain ⟨v4, hv4, H⟩ := bindE H
   refine AWP_sr tok [] [3, 5, 6, 7, 8] (fun a σ => a = [(3, .sl o1 0 s2.length), (5, .int .i64 v4), (6, .fsl (encL rI p0)), (7, .int .i64 (ilen p0)), (8, .int .i64 s1)] ∧ σ = hp E0 [(o1, some ⟨86, 2, encL rBox_o s2⟩)] (M1 + 4)) (fun K hK => ?_) ?_
   ·
    simp -dsimp -implicitDefEqProofs (maxDischargeDepth := 6) [ix22 hv4]
    exact hK _ _ ⟨rfl, rfl⟩
   rintro a σ ⟨rfl, rfl⟩
   obtain ⟨l5, hl5, H⟩ := bindE H
   have q0 : ∀ (a0 : Int) σ i, buildSliceA T 26 true i 1 [(0, .agg [.int .i64 a0, .nilsl])] σ = some (.fsl [[.int .i64 a0, .nilsl]], σ) := fun _ _ _ => rfl
   refine AWP_rt tok [2, 3] [3, 6, 7, 8] (fun a σ => a = [(3, .sl (M1 + 8) 0 l5.length), (6, .fsl (encL rI p0)), (7, .int .i64 (ilen p0)), (8, .int .i64 s1)] ∧ σ = hp E0 [(M1 + 8, some ⟨86, 2, encL rBox_o s2 ++ [[.int .i64 v4, .nilsl]]⟩)] (M1 + 10)) (fun K hK => ?_) ?_
   ·
    have e0 := nq (a := o1) (b := M1 + 8) (by omega)
    simp -dsimp -implicitDefEqProofs (maxDischargeDepth := 6) [e0, q0, apr26 rBox_o hl5]
    exact hK _ _ ⟨rfl, rfl⟩
   rintro a σ ⟨ha, rfl⟩
   refine hK4 _ _ ?_; rw [ha]
   refine Rc.mk ?_
   refine gPk0 AWP_ref (o := (M1 + 8)) (ob := ⟨86, 2, encL rBox_o s2 ++ [[.int .i64 v4, .nilsl]]⟩) (row := [.int .i64 v4, .nilsl]) (r := s2.length) (i := 1) 3 1 [(M1 + 8, some ⟨86, 2, encL rBox_o s2 ++ [[.int .i64 v4, .osl 3 1 (encL rI ([] : List Int))]]⟩)] (by simp (disch := omega)) (app_get _ _ _) rfl (by simp (disch := omega)) (by simp (disch := omega) [encL_nil, List.set_set, app_set]) ?_
   rw [show hp E0 [(M1 + 8, some ⟨86, 2, encL rBox_o s2 ++ [[.int .i64 v4, .osl 3 1 (encL rI ([] : List Int))]]⟩)] (M1 + 10) = hp E0 [(M1 + 8, some ⟨86, 2, encL rBox_o l5⟩)] (M1 + 10) from by rw [← app_enc (f := rBox_o) (c := [.int .i64 v4, .osl 3 1 (encL rI ([] : List Int))]) hl5 rfl]]
   refine AWP_rt tok [] [3, 6, 7, 8] (fun a σ => a = [(3, .sl (M1 + 8) 0 l5.length), (6, .fsl (encL rI p0)), (7, .int .i64 (ilen p0)), (8, .int .i64 (iadd .i64 s1 1))] ∧ σ = hp E0 [(M1 + 8, some ⟨86, 2, encL rBox_o l5⟩)] (M1 + 12)) (fun K hK => ?_) ?_
   ·
    simp -dsimp -implicitDefEqProofs (maxDischargeDepth := 6)
    exact hK _ _ ⟨rfl, rfl⟩
   rintro a σ ⟨ha, rfl⟩
   replace H := Option.some.inj H; subst H
   refine hK2 _ _ _ rfl ?_; rw [ha]
   exact Rc.fin (AHeap.Sub.refl _) ⟨M1 + 12, (M1 + 8), (by omega), (by omega), (by omega), rfl, rfl⟩
  ·
   replace H := ifF C1 H
   replace H := Option.some.inj H; subst H
   refine AWP_exit (hO2 _ _ _ _ rfl ⟨rfl, ?_⟩)
   refine Rc.rw (l := [3]) (X := [(3, .sl o1 0 s2.length)]) rfl ?_
   exact Rc.fin (AHeap.Sub.refl _) ⟨M1 + 1, o1, (by omega), (by omega), (by omega), rfl, rfl⟩
 ·
  intro x a σ hx
  obtain ⟨y3, rfl⟩ : ∃ x, x = e1 := ⟨_, rfl⟩
  obtain ⟨rfl, b, τ, hr, M2, o2, fM2_0, fM2_1, fM2_2, rfl, rfl⟩ := hx
  dsimp only at H
  show K1 _ _
  refine hK1 _ _ (Rc_ref hr ?_)
  refine Rc.mk ?_
  refine AWP_sr tok [] [2] (fun a σ => a = [(2, .sl o2 0 y3.length)] ∧ σ = hp E0 [(o2, some ⟨86, 2, encL rBox_o y3⟩)] (M2 + 2)) (fun K hK => ?_) ?_
  ·
   simp -dsimp -implicitDefEqProofs (maxDischargeDepth := 6)
   exact hK _ _ ⟨rfl, rfl⟩
  rintro a σ ⟨rfl, rfl⟩
  replace H := Option.some.inj H; subst H
  refine AWP_kp [2] [(2, .sl o2 0 y3.length)] rfl ?_
  refine AWP_ret ?_
  refine ⟨[.sl o2 0 y3.length], by simp, M2 + 2, o2, by omega, by omega, by omega, ?_, ?_⟩
  ·
   simp [encL_nil]
  ·
   first | rfl | simp [List.set_set]
theorem c9_o6 {p0 : (List Int)} {p1 : (List (List gInstr))} {r : gSquad × Bool} (H : i_SquadNew_o6 p0 p1 = some r) {σ : AHeap} : ACalls Tryd.prog G 9 [.fsl (encL rI p0), .fsl (encL rL_Instr p1)] σ (fun v σ' => ∃ M n0 n1 n2 : Nat, σ.next ≤ M ∧ σ.next ≤ n0 ∧ n0 < M ∧ σ.next ≤ n1 ∧ n1 < M ∧ σ.next ≤ n2 ∧ n2 < M ∧ ¬ n0 = n1 ∧ ¬ n0 = n2 ∧ ¬ n1 = n2 ∧ v = .tup [.agg [.sl n0 0 r.1.Harts.length, .sl n1 0 r.1.Boxes.length, .int .i64 r.1.Turn, .int .i64 r.1.Idle, .sl n2 0 r.1.Out.length], .bool r.2] ∧ σ' = hp σ.objs [(n0, some ⟨53, 3, encL rMachine_oo r.1.Harts⟩), (n1, some ⟨86, 2, encL rBox_o r.1.Boxes⟩), (n2, some ⟨3, 1, encL rI r.1.Out⟩)] M) := by
 refine ACalls_fr (L := []) (Q1 := fun v σ' => ∃ M n0 n1 n2 : Nat, σ.next ≤ M ∧ σ.next ≤ n0 ∧ n0 < M ∧ σ.next ≤ n1 ∧ n1 < M ∧ σ.next ≤ n2 ∧ n2 < M ∧ ¬ n0 = n1 ∧ ¬ n0 = n2 ∧ ¬ n1 = n2 ∧ v = .tup [.agg [.sl n0 0 r.1.Harts.length, .sl n1 0 r.1.Boxes.length, .int .i64 r.1.Turn, .int .i64 r.1.Idle, .sl n2 0 r.1.Out.length], .bool r.2] ∧ σ' = hp E0 [(n0, some ⟨53, 3, encL rMachine_oo r.1.Harts⟩), (n1, some ⟨86, 2, encL rBox_o r.1.Boxes⟩), (n2, some ⟨3, 1, encL rI r.1.Out⟩)] M) (by simp []) (fun hlt => ?_) ?_ ⟨_, Tryd.func9, rfl, rfl⟩
 rotate_left
 ·
  rintro v σ1 ⟨M, n0, n1, n2, h0, h1, h2, h3, h4, h5, h6, h7, h8, h9, rfl, rfl⟩
  exact ⟨_, M, rfl, by simp, by simp; try omega, M, n0, n1, n2, h0, h1, h2, h3, h4, h5, h6, h7, h8, h9, rfl, rfl⟩
 generalize σ.next = N0 at hlt ⊢
 refine ACalls_thaw 4 ?_
 refine ACalls_fn tok Tryd.func9 (by kernel_rfl) rfl Tryd.ntmps9 Tryd.results9 rfl ?_
 simp only [argsA, Nat.reduceAdd, hp_next]
 unfold i_SquadNew_o6 at H
 refine AWP_sr tok [] [0, 1, 4] (fun a σ => a = [(0, .fsl (encL rI p0)), (1, .fsl (encL rL_Instr p1)), (4, .ptr N0 0 0)] ∧ σ = hp E0 [(N0, some ⟨28, 5, [[.nilsl, .nilsl, .int .i64 0, .int .i64 0, .nilsl]]⟩)] (N0 + 2)) (fun K hK => ?_) ?_
 ·
  simp -dsimp -implicitDefEqProofs (maxDischargeDepth := 6)
  exact hK _ _ ⟨rfl, rfl⟩
 rintro a σ ⟨rfl, rfl⟩
 refine AWP_sq [0, 1, 4] fun K1 hK1 => ?_
 refine gPk0 AWP_ref (o := N0) (ob := ⟨28, 5, [[.nilsl, .nilsl, .int .i64 0, .int .i64 0, .nilsl]]⟩) (row := [.nilsl, .nilsl, .int .i64 0, .int .i64 0, .nilsl]) (r := 0) (i := 0) 53 3 [(N0, some ⟨28, 5, [[.osl 53 3 (encL rMachine_oo ([] : List gMachine)), .nilsl, .int .i64 0, .int .i64 0, .nilsl]]⟩)] (by simp (disch := omega)) rfl rfl (by simp (disch := omega)) (by simp (disch := omega) [encL_nil, List.set_set, app_set]) ?_
 refine gPk0 AWP_ref (o := N0) (ob := ⟨28, 5, [[.osl 53 3 (encL rMachine_oo ([] : List gMachine)), .nilsl, .int .i64 0, .int .i64 0, .nilsl]]⟩) (row := [.osl 53 3 (encL rMachine_oo ([] : List gMachine)), .nilsl, .int .i64 0, .int .i64 0, .nilsl]) (r := 0) (i := 1) 86 2 [(N0, some ⟨28, 5, [[.osl 53 3 (encL rMachine_oo ([] : List gMachine)), .osl 86 2 (encL rBox_o ([] : List gBox)), .int .i64 0, .int .i64 0, .nilsl]]⟩)] (by simp (disch := omega)) rfl rfl (by simp (disch := omega)) (by simp (disch := omega) [encL_nil, List.set_set, app_set]) ?_
 refine gPk0 AWP_ref (o := N0) (ob := ⟨28, 5, [[.osl 53 3 (encL rMachine_oo ([] : List gMachine)), .osl 86 2 (encL rBox_o ([] : List gBox)), .int .i64 0, .int .i64 0, .nilsl]]⟩) (row := [.osl 53 3 (encL rMachine_oo ([] : List gMachine)), .osl 86 2 (encL rBox_o ([] : List gBox)), .int .i64 0, .int .i64 0, .nilsl]) (r := 0) (i := 4) 3 1 [(N0, some ⟨28, 5, [[.osl 53 3 (encL rMachine_oo ([] : List gMachine)), .osl 86 2 (encL rBox_o ([] : List gBox)), .int .i64 0, .int .i64 0, .osl 3 1 (encL rI ([] : List Int))]]⟩)] (by simp (disch := omega)) rfl rfl (by simp (disch := omega)) (by simp (disch := omega) [encL_nil, List.set_set, app_set]) ?_
 obtain ⟨r1, hr1, H⟩ := bindE H
 obtain ⟨g2, hg2, H⟩ := bindE H
 obtain ⟨g3, hg3, H⟩ := bindE H
 refine AWP_sr tok [] [0, 1, 4, 23] (fun a σ => a = [(0, .fsl (encL rI p0)), (1, .fsl (encL rL_Instr p1)), (4, .ptr N0 0 0), (23, .bool g3)] ∧ σ = hp E0 [(N0, some ⟨28, 5, [[.osl 53 3 (encL rMachine_oo ([] : List gMachine)), .osl 86 2 (encL rBox_o ([] : List gBox)), .int .i64 0, .int .i64 0, .osl 3 1 (encL rI ([] : List Int))]]⟩)] (N0 + 15)) (fun K hK => ?_) ?_
 ·
  simp -dsimp -implicitDefEqProofs (maxDischargeDepth := 6)
  refine (c31 hr1).app ?_; try simp -dsimp -implicitDefEqProofs (maxDischargeDepth := 6)
  cases hbg2 : bnot r1
  ·
   replace hg2 := ifF hbg2 hg2
   replace hg2 := Option.some.inj hg2; subst hg2
   try simp -dsimp -implicitDefEqProofs (maxDischargeDepth := 6) [hbg2]
   cases hbg3 : (ilt (ilen p1) 1)
   ·
    replace hg3 := ifF hbg3 hg3
    replace hg3 := Option.some.inj hg3; subst hg3
    try simp -dsimp -implicitDefEqProofs (maxDischargeDepth := 6) [hbg2, hbg3]
    exact hK _ _ ⟨rfl, rfl⟩
   ·
    replace hg3 := ifT hbg3 hg3
    replace hg3 := Option.some.inj hg3; subst hg3
    try simp -dsimp -implicitDefEqProofs (maxDischargeDepth := 6) [hbg2, hbg3]
    exact hK _ _ ⟨rfl, rfl⟩
  ·
   replace hg2 := ifT hbg2 hg2
   replace hg2 := Option.some.inj hg2; subst hg2
   try simp -dsimp -implicitDefEqProofs (maxDischargeDepth := 6) [hbg2]
   replace hg3 := ifT rfl hg3
   replace hg3 := Option.some.inj hg3; subst hg3
   try simp -dsimp -implicitDefEqProofs (maxDischargeDepth := 6) [hbg2]
   exact hK _ _ ⟨rfl, rfl⟩
 rintro a σ ⟨rfl, rfl⟩
 refine AWP_cond g3 rfl (fun C1 => ?_) (fun C1 => ?_)
 ·
  replace H := ifT C1 H
  refine AWP_sr tok [0] [4, 5] (fun a σ => a = [(4, .ptr N0 0 0), (5, .bool false)] ∧ σ = hp E0 [(N0, some ⟨28, 5, [[.nilsl, .nilsl, .int .i64 0, .int .i64 0, .nilsl]]⟩)] (N0 + 18)) (fun K hK => ?_) ?_
  ·
   simp -dsimp -implicitDefEqProofs (maxDischargeDepth := 6)
   exact hK _ _ ⟨rfl, rfl⟩
  rintro a σ ⟨rfl, rfl⟩
  replace H := Option.some.inj H; subst H
  refine AWP_kp [4, 5] [(4, .ptr N0 0 0), (5, .bool false)] rfl ?_
  refine gPk0 AWP_ref (o := N0) (ob := ⟨28, 5, [[.nilsl, .nilsl, .int .i64 0, .int .i64 0, .nilsl]]⟩) (row := [.nilsl, .nilsl, .int .i64 0, .int .i64 0, .nilsl]) (r := 0) (i := 0) 53 3 [(N0, some ⟨28, 5, [[.osl 53 3 (encL rMachine_oo ([] : List gMachine)), .nilsl, .int .i64 0, .int .i64 0, .nilsl]]⟩)] (by simp (disch := omega)) rfl rfl (by simp (disch := omega)) (by simp (disch := omega) [encL_nil, List.set_set, app_set]) ?_
  refine gPk0 AWP_ref (o := N0) (ob := ⟨28, 5, [[.osl 53 3 (encL rMachine_oo ([] : List gMachine)), .nilsl, .int .i64 0, .int .i64 0, .nilsl]]⟩) (row := [.osl 53 3 (encL rMachine_oo ([] : List gMachine)), .nilsl, .int .i64 0, .int .i64 0, .nilsl]) (r := 0) (i := 1) 86 2 [(N0, some ⟨28, 5, [[.osl 53 3 (encL rMachine_oo ([] : List gMachine)), .osl 86 2 (encL rBox_o ([] : List gBox)), .int .i64 0, .int .i64 0, .nilsl]]⟩)] (by simp (disch := omega)) rfl rfl (by simp (disch := omega)) (by simp (disch := omega) [encL_nil, List.set_set, app_set]) ?_
  refine gPk0 AWP_ref (o := N0) (ob := ⟨28, 5, [[.osl 53 3 (encL rMachine_oo ([] : List gMachine)), .osl 86 2 (encL rBox_o ([] : List gBox)), .int .i64 0, .int .i64 0, .nilsl]]⟩) (row := [.osl 53 3 (encL rMachine_oo ([] : List gMachine)), .osl 86 2 (encL rBox_o ([] : List gBox)), .int .i64 0, .int .i64 0, .nilsl]) (r := 0) (i := 4) 3 1 [(N0, some ⟨28, 5, [[.osl 53 3 (encL rMachine_oo ([] : List gMachine)), .osl 86 2 (encL rBox_o ([] : List gBox)), .int .i64 0, .int .i64 0, .osl 3 1 (encL rI ([] : List Int))]]⟩)] (by simp (disch := omega)) rfl rfl (by simp (disch := omega)) (by simp (disch := omega) [encL_nil, List.set_set, app_set]) ?_
  refine gUnp AWP_ref (ty := 53) (sz := 3) (es := encL rMachine_oo ([] : List gMachine)) (o := N0) (ob := ⟨28, 5, [[.osl 53 3 (encL rMachine_oo ([] : List gMachine)), .osl 86 2 (encL rBox_o ([] : List gBox)), .int .i64 0, .int .i64 0, .osl 3 1 (encL rI ([] : List Int))]]⟩) (row := [.osl 53 3 (encL rMachine_oo ([] : List gMachine)), .osl 86 2 (encL rBox_o ([] : List gBox)), .int .i64 0, .int .i64 0, .osl 3 1 (encL rI ([] : List Int))]) (r := 0) (i := 0) [(N0, some ⟨28, 5, [[.sl (N0 + 18) 0 ([] : List gMachine).length, .osl 86 2 (encL rBox_o ([] : List gBox)), .int .i64 0, .int .i64 0, .osl 3 1 (encL rI ([] : List Int))]]⟩), (N0 + 18, some ⟨53, 3, encL rMachine_oo ([] : List gMachine)⟩)] (by simp (disch := omega)) rfl rfl (by simp (disch := omega) [List.set_set]) ?_
  refine gUnp AWP_ref (ty := 86) (sz := 2) (es := encL rBox_o ([] : List gBox)) (o := N0) (ob := ⟨28, 5, [[.sl (N0 + 18) 0 ([] : List gMachine).length, .osl 86 2 (encL rBox_o ([] : List gBox)), .int .i64 0, .int .i64 0, .osl 3 1 (encL rI ([] : List Int))]]⟩) (row := [.sl (N0 + 18) 0 ([] : List gMachine).length, .osl 86 2 (encL rBox_o ([] : List gBox)), .int .i64 0, .int .i64 0, .osl 3 1 (encL rI ([] : List Int))]) (r := 0) (i := 1) [(N0, some ⟨28, 5, [[.sl (N0 + 18) 0 ([] : List gMachine).length, .sl (N0 + 19) 0 ([] : List gBox).length, .int .i64 0, .int .i64 0, .osl 3 1 (encL rI ([] : List Int))]]⟩), (N0 + 18, some ⟨53, 3, encL rMachine_oo ([] : List gMachine)⟩), (N0 + 19, some ⟨86, 2, encL rBox_o ([] : List gBox)⟩)] (by simp (disch := omega)) rfl rfl (by simp (disch := omega) [List.set_set]) ?_
  refine gUnp AWP_ref (ty := 3) (sz := 1) (es := encL rI ([] : List Int)) (o := N0) (ob := ⟨28, 5, [[.sl (N0 + 18) 0 ([] : List gMachine).length, .sl (N0 + 19) 0 ([] : List gBox).length, .int .i64 0, .int .i64 0, .osl 3 1 (encL rI ([] : List Int))]]⟩) (row := [.sl (N0 + 18) 0 ([] : List gMachine).length, .sl (N0 + 19) 0 ([] : List gBox).length, .int .i64 0, .int .i64 0, .osl 3 1 (encL rI ([] : List Int))]) (r := 0) (i := 4) [(N0, some ⟨28, 5, [[.sl (N0 + 18) 0 ([] : List gMachine).length, .sl (N0 + 19) 0 ([] : List gBox).length, .int .i64 0, .int .i64 0, .sl (N0 + 20) 0 ([] : List Int).length]]⟩), (N0 + 18, some ⟨53, 3, encL rMachine_oo ([] : List gMachine)⟩), (N0 + 19, some ⟨86, 2, encL rBox_o ([] : List gBox)⟩), (N0 + 20, some ⟨3, 1, encL rI ([] : List Int)⟩)] (by simp (disch := omega)) rfl rfl (by simp (disch := omega) [List.set_set]) ?_
  refine AWP_ret ?_
  refine ⟨[.agg [.sl (N0 + 18) 0 ([] : List gMachine).length, .sl (N0 + 19) 0 ([] : List gBox).length, .int .i64 0, .int .i64 0, .sl (N0 + 20) 0 ([] : List Int).length], .bool false], by simp, (fun o => [N0].contains o), N0 + 21, N0 + 18, N0 + 19, N0 + 20, by omega, by omega, by omega, by omega, by omega, by omega, by omega, by omega, by omega, by omega, ?_, ?_⟩
  ·
   simp [encL_nil]
  ·
   rw [cutD (L' := [(N0 + 18, some ⟨53, 3, encL rMachine_oo ([] : List gMachine)⟩), (N0 + 19, some ⟨86, 2, encL rBox_o ([] : List gBox)⟩), (N0 + 20, some ⟨3, 1, encL rI ([] : List Int)⟩)]) (by simp)]
   first | done | rfl | simp [List.set_set]
 ·
  replace H := ifF C1 H
  refine AWP_skip ?_
  show K1 _ _
  refine keepE (l := [0, 1, 4]) (x := [(0, .fsl (encL rI p0)), (1, .fsl (encL rL_Instr p1)), (4, .ptr N0 0 0)]) rfl fun a' ha => ?_
  refine hK1 _ _ ?_; rw [ha]
  refine Rc.mk ?_
  obtain ⟨r4, hr4, H⟩ := bindE H
  refine AWP_sr tok [2] [1, 4, 6] (fun a σ => ∃ M1 o1 : Nat, N0 + 20 ≤ M1 ∧ N0 + 20 ≤ o1 ∧ o1 < M1 ∧ a = [(1, .fsl (encL rL_Instr p1)), (4, .ptr N0 0 0), (6, .ptr (N0 + 18) 0 0)] ∧ σ = hp E0 [(N0, some ⟨28, 5, [[.osl 53 3 (encL rMachine_oo ([] : List gMachine)), .osl 86 2 (encL rBox_o ([] : List gBox)), .int .i64 0, .int .i64 0, .osl 3 1 (encL rI ([] : List Int))]]⟩), (o1, some ⟨86, 2, encL rBox_o r4⟩), (N0 + 18, some ⟨28, 5, [[.nilsl, .sl o1 0 r4.length, .int .i64 0, .int .i64 0, .nilsl]]⟩)] M1) (fun K hK => ?_) ?_
  ·
   simp -dsimp -implicitDefEqProofs (maxDischargeDepth := 6)
   refine (c32_o2 (H := hr4) ).mono ?_; rintro _ _ ⟨M1, o1, fM1_0, fM1_1, fM1_2, rfl, rfl⟩; simp only [hp_next] at fM1_0 fM1_1 fM1_2
   have eM1_0 := nq (a := o1) (b := N0) (by omega)
   have eM1_1 := nq (a := o1) (b := N0 + 18) (by omega)
   try simp -dsimp -implicitDefEqProofs (maxDischargeDepth := 6) [eM1_0, eM1_1, hp_over_some, hp_over_none]
   exact hK _ _ ⟨M1, o1, (by omega), (by omega), (by omega), rfl, rfl⟩
  rintro a σ ⟨M1, o1, fM1_0, fM1_1, fM1_2, rfl, rfl⟩
  refine AWP_sq [4, 6] fun K2 hK2 => ?_
  refine AWP_sr tok [] [4, 6, 28, 29, 30] (fun a σ => a = [(4, .ptr N0 0 0), (6, .ptr (N0 + 18) 0 0), (28, .fsl (encL rL_Instr p1)), (29, .int .i64 (ilen p1)), (30, .int .i64 0)] ∧ σ = hp E0 [(N0, some ⟨28, 5, [[.osl 53 3 (encL rMachine_oo ([] : List gMachine)), .osl 86 2 (encL rBox_o ([] : List gBox)), .int .i64 0, .int .i64 0, .osl 3 1 (encL rI ([] : List Int))]]⟩), (o1, some ⟨86, 2, encL rBox_o r4⟩), (N0 + 18, some ⟨28, 5, [[.nilsl, .sl o1 0 r4.length, .int .i64 0, .int .i64 0, .nilsl]]⟩)] (M1 + 3)) (fun K hK => ?_) ?_
  ·
   have e0 := nq (a := N0) (b := o1) (by omega)
   have e1 := nq (a := o1) (b := N0 + 18) (by omega)
   simp -dsimp -implicitDefEqProofs (maxDischargeDepth := 6) [e0, e1]
   exact hK _ _ ⟨rfl, rfl⟩
  rintro a σ ⟨rfl, rfl⟩
  refine AWP_block (AWP_thenB ?_)
  obtain ⟨e1, hse1, H⟩ := bindE H
  refine AWP_lp [4, 6, 28, 29, 30] (fun s a σ => ∃ M2 o2 o3 : Nat, N0 ≤ M2 ∧ N0 ≤ o2 ∧ o2 < M2 ∧ N0 ≤ o3 ∧ o3 < M2 ∧ ¬ o2 = o3 ∧ a = [(4, .ptr o2 0 0), (6, .ptr o3 0 0), (28, .fsl (encL rL_Instr p1)), (29, .int .i64 (ilen p1)), (30, .int .i64 s.1)] ∧ σ = hp E0 [(o2, some ⟨28, 5, [[.osl 53 3 (encL rMachine_oo s.2.1.Harts), .osl 86 2 (encL rBox_o s.2.1.Boxes), .int .i64 s.2.1.Turn, .int .i64 s.2.1.Idle, .osl 3 1 (encL rI s.2.1.Out)]]⟩), (o3, some ⟨28, 5, [[.osl 53 3 (encL rMachine_oo s.2.2.Harts), .osl 86 2 (encL rBox_o s.2.2.Boxes), .int .i64 s.2.2.Turn, .int .i64 s.2.2.Idle, .osl 3 1 (encL rI s.2.2.Out)]]⟩)] M2) (fun e x a σ => match e with | .inl s => x = .exit 0 ∧ Rc G 50 N0 (fun a σ => ∃ M3 o4 o5 : Nat, N0 ≤ M3 ∧ N0 ≤ o4 ∧ o4 < M3 ∧ N0 ≤ o5 ∧ o5 < M3 ∧ ¬ o4 = o5 ∧ a = [(4, .ptr o4 0 0), (6, .ptr o5 0 0)] ∧ σ = hp E0 [(o4, some ⟨28, 5, [[.osl 53 3 (encL rMachine_oo s.1.Harts), .osl 86 2 (encL rBox_o s.1.Boxes), .int .i64 s.1.Turn, .int .i64 s.1.Idle, .osl 3 1 (encL rI s.1.Out)]]⟩), (o5, some ⟨28, 5, [[.osl 53 3 (encL rMachine_oo s.2.Harts), .osl 86 2 (encL rBox_o s.2.Boxes), .int .i64 s.2.Turn, .int .i64 s.2.Idle, .osl 3 1 (encL rI s.2.Out)]]⟩)] M3) (AAct.keep a [4, 6]) σ | .inr s => x = .ret ∧ ∃ vs, resA T σ a [.cell 4 28, .tmp 5] = some vs ∧ ∃ D : Nat → Bool, ∃ M n0 n1 n2 : Nat, N0 ≤ M ∧ N0 ≤ n0 ∧ n0 < M ∧ N0 ≤ n1 ∧ n1 < M ∧ N0 ≤ n2 ∧ n2 < M ∧ ¬ n0 = n1 ∧ ¬ n0 = n2 ∧ ¬ n1 = n2 ∧ (thawA D σ 4 (tupA vs)) = .tup [.agg [.sl n0 0 s.1.Harts.length, .sl n1 0 s.1.Boxes.length, .int .i64 s.1.Turn, .int .i64 s.1.Idle, .sl n2 0 s.1.Out.length], .bool s.2] ∧ (σ.cut D) = hp E0 [(n0, some ⟨53, 3, encL rMachine_oo s.1.Harts⟩), (n1, some ⟨86, 2, encL rBox_o s.1.Boxes⟩), (n2, some ⟨3, 1, encL rI s.1.Out⟩)] M) hse1 ?_ ?_ ?_
  ·
   refine Rc.kp [4, 6, 28, 29, 30] [(4, .ptr N0 0 0), (6, .ptr (N0 + 18) 0 0), (28, .fsl (encL rL_Instr p1)), (29, .int .i64 (ilen p1)), (30, .int .i64 0)] rfl ?_
   refine gPk0 Rc_ref (o := (N0 + 18)) (ob := ⟨28, 5, [[.nilsl, .sl o1 0 r4.length, .int .i64 0, .int .i64 0, .nilsl]]⟩) (row := [.nilsl, .sl o1 0 r4.length, .int .i64 0, .int .i64 0, .nilsl]) (r := 0) (i := 0) 53 3 [(N0, some ⟨28, 5, [[.osl 53 3 (encL rMachine_oo ([] : List gMachine)), .osl 86 2 (encL rBox_o ([] : List gBox)), .int .i64 0, .int .i64 0, .osl 3 1 (encL rI ([] : List Int))]]⟩), (o1, some ⟨86, 2, encL rBox_o r4⟩), (N0 + 18, some ⟨28, 5, [[.osl 53 3 (encL rMachine_oo ([] : List gMachine)), .sl o1 0 r4.length, .int .i64 0, .int .i64 0, .nilsl]]⟩)] (by simp (disch := omega)) rfl rfl (by simp (disch := omega)) (by simp (disch := omega) [encL_nil, List.set_set, app_set]) ?_
   refine gPk Rc_ref (k := r4.length) (o := (N0 + 18)) (ob := ⟨28, 5, [[.osl 53 3 (encL rMachine_oo ([] : List gMachine)), .sl o1 0 r4.length, .int .i64 0, .int .i64 0, .nilsl]]⟩) (row := [.osl 53 3 (encL rMachine_oo ([] : List gMachine)), .sl o1 0 r4.length, .int .i64 0, .int .i64 0, .nilsl]) (d := o1) (obd := ⟨86, 2, encL rBox_o r4⟩) (r := 0) (i := 1) [(N0, some ⟨28, 5, [[.osl 53 3 (encL rMachine_oo ([] : List gMachine)), .osl 86 2 (encL rBox_o ([] : List gBox)), .int .i64 0, .int .i64 0, .osl 3 1 (encL rI ([] : List Int))]]⟩), (N0 + 18, some ⟨28, 5, [[.osl 53 3 (encL rMachine_oo ([] : List gMachine)), .osl 86 2 (encL rBox_o r4), .int .i64 0, .int .i64 0, .nilsl]]⟩)] (by simp (disch := omega)) rfl rfl (by simp (disch := omega)) (by simp (disch := omega)) (by first | omega | simp) (by simp (disch := omega) [List.set_set, app_set] <;> omega) (by simp (disch := omega) [List.set_set, app_set]) ?_
   refine gPk0 Rc_ref (o := (N0 + 18)) (ob := ⟨28, 5, [[.osl 53 3 (encL rMachine_oo ([] : List gMachine)), .osl 86 2 (encL rBox_o r4), .int .i64 0, .int .i64 0, .nilsl]]⟩) (row := [.osl 53 3 (encL rMachine_oo ([] : List gMachine)), .osl 86 2 (encL rBox_o r4), .int .i64 0, .int .i64 0, .nilsl]) (r := 0) (i := 4) 3 1 [(N0, some ⟨28, 5, [[.osl 53 3 (encL rMachine_oo ([] : List gMachine)), .osl 86 2 (encL rBox_o ([] : List gBox)), .int .i64 0, .int .i64 0, .osl 3 1 (encL rI ([] : List Int))]]⟩), (N0 + 18, some ⟨28, 5, [[.osl 53 3 (encL rMachine_oo ([] : List gMachine)), .osl 86 2 (encL rBox_o r4), .int .i64 0, .int .i64 0, .osl 3 1 (encL rI ([] : List Int))]]⟩)] (by simp (disch := omega)) rfl rfl (by simp (disch := omega)) (by simp (disch := omega) [encL_nil, List.set_set, app_set]) ?_
   exact Rc.fin (AHeap.Sub.refl _) ⟨M1 + 3, N0, (N0 + 18), (by omega), (by omega), (by omega), (by omega), (by omega), (by omega), rfl, rfl⟩
  ·
   clear H hse1
   rintro ⟨s5, s6, s7⟩ fl a σ H ⟨M2, o2, o3, fM2_0, fM2_1, fM2_2, fM2_3, fM2_4, fM2_5, rfl, rfl⟩ K3 O3 hK3 hO3
   unfold i_SquadNew_o6_L1 at H; dsimp only at H
   refine AWP_sr tok [] [4, 6, 28, 29, 30, 31] (fun a σ => a = [(4, .ptr o2 0 0), (6, .ptr o3 0 0), (28, .fsl (encL rL_Instr p1)), (29, .int .i64 (ilen p1)), (30, .int .i64 s5), (31, .bool (ilt s5 (ilen p1)))] ∧ σ = hp E0 [(o2, some ⟨28, 5, [[.osl 53 3 (encL rMachine_oo s6.Harts), .osl 86 2 (encL rBox_o s6.Boxes), .int .i64 s6.Turn, .int .i64 s6.Idle, .osl 3 1 (encL rI s6.Out)]]⟩), (o3, some ⟨28, 5, [[.osl 53 3 (encL rMachine_oo s7.Harts), .osl 86 2 (encL rBox_o s7.Boxes), .int .i64 s7.Turn, .int .i64 s7.Idle, .osl 3 1 (encL rI s7.Out)]]⟩)] (M2 + 1)) (fun K hK => ?_) ?_
   ·
    have e0 := nq (a := o2) (b := o3) (by omega)
    simp -dsimp -implicitDefEqProofs (maxDischargeDepth := 6) [e0]
    exact hK _ _ ⟨rfl, rfl⟩
   rintro a σ ⟨rfl, rfl⟩
   refine AWP_sq [4, 6, 28, 29, 30] fun K4 hK4 => ?_
   refine AWP_cond (ilt s5 (ilen p1)) rfl (fun C2 => ?_) (fun C2 => ?_)
   ·
    replace H := ifT C2 H
    refine AWP_skip ?_
    show K4 _ _
    refine keepE (l := [4, 6, 28, 29, 30]) (x := [(4, .ptr o2 0 0), (6, .ptr o3 0 0), (28, .fsl (encL rL_Instr p1)), (29, .int .i64 (ilen p1)), (30, .int .i64 s5)]) rfl fun a' ha => ?_
    refine hK4 _ _ ?_; rw [ha]
    refine Rc.mk ?_
    refine AWP_sq [4, 6, 28, 29, 30] fun K5 hK5 => ?_
    refine AWP_block (AWP_thenB ?_)
    obtain ⟨v10, hv10, H⟩ := bindE H
    refine AWP_sr tok [] [4, 6, 8, 28, 29, 30] (fun a σ => a = [(4, .ptr o2 0 0), (6, .ptr o3 0 0), (8, .fsl (encL rInstr v10)), (28, .fsl (encL rL_Instr p1)), (29, .int .i64 (ilen p1)), (30, .int .i64 s5)] ∧ σ = hp E0 [(o2, some ⟨28, 5, [[.osl 53 3 (encL rMachine_oo s6.Harts), .osl 86 2 (encL rBox_o s6.Boxes), .int .i64 s6.Turn, .int .i64 s6.Idle, .osl 3 1 (encL rI s6.Out)]]⟩), (o3, some ⟨28, 5, [[.osl 53 3 (encL rMachine_oo s7.Harts), .osl 86 2 (encL rBox_o s7.Boxes), .int .i64 s7.Turn, .int .i64 s7.Idle, .osl 3 1 (encL rI s7.Out)]]⟩)] (M2 + 4)) (fun K hK => ?_) ?_
    ·
     have e0 := nq (a := o2) (b := o3) (by omega)
     simp -dsimp -implicitDefEqProofs (maxDischargeDepth := 6) [e0, ix32 hv10]
     exact hK _ _ ⟨rfl, rfl⟩
    rintro a σ ⟨rfl, rfl⟩
    obtain ⟨r11, hr11, H⟩ := bindE H
    refine AWP_sr tok [] [4, 6, 9, 10, 28, 29, 30] (fun a σ => ∃ M4 o6 o7 : Nat, M2 + 12 ≤ M4 ∧ M2 + 12 ≤ o6 ∧ o6 < M4 ∧ M2 + 12 ≤ o7 ∧ o7 < M4 ∧ ¬ o6 = o7 ∧ a = [(4, .ptr o2 0 0), (6, .ptr o3 0 0), (9, .ptr (M2 + 9) 0 0), (10, .bool r11.2), (28, .fsl (encL rL_Instr p1)), (29, .int .i64 (ilen p1)), (30, .int .i64 s5)] ∧ σ = hp E0 [(o2, some ⟨28, 5, [[.osl 53 3 (encL rMachine_oo s6.Harts), .osl 86 2 (encL rBox_o s6.Boxes), .int .i64 s6.Turn, .int .i64 s6.Idle, .osl 3 1 (encL rI s6.Out)]]⟩), (o3, some ⟨28, 5, [[.osl 53 3 (encL rMachine_oo s7.Harts), .osl 86 2 (encL rBox_o s7.Boxes), .int .i64 s7.Turn, .int .i64 s7.Idle, .osl 3 1 (encL rI s7.Out)]]⟩), (o6, some ⟨3, 1, encL rI r11.1.Regs⟩), (o7, some ⟨3, 1, encL rI r11.1.Mem⟩), (M2 + 9, some ⟨53, 3, [[.sl o6 0 r11.1.Regs.length, .int .i64 r11.1.Pc, .sl o7 0 r11.1.Mem.length]]⟩)] M4) (fun K hK => ?_) ?_
    ·
     have e0 := nq (a := o2) (b := o3) (by omega)
     have e1 := nq (a := o2) (b := M2 + 9) (by omega)
     have e2 := nq (a := o3) (b := M2 + 9) (by omega)
     simp -dsimp -implicitDefEqProofs (maxDischargeDepth := 6) [e0, e1, e2]
     refine (c33_o2 (H := hr11) ).mono ?_; rintro _ _ ⟨M4, o6, o7, fM4_0, fM4_1, fM4_2, fM4_3, fM4_4, fM4_5, rfl, rfl⟩; simp only [hp_next] at fM4_0 fM4_1 fM4_2 fM4_3 fM4_4 fM4_5
     have eM4_0 := nq (a := o6) (b := o2) (by omega)
     have eM4_1 := nq (a := o6) (b := o3) (by omega)
     have eM4_2 := nq (a := o6) (b := M2 + 9) (by omega)
     have eM4_3 := nq (a := o6) (b := o7) (by omega)
     have eM4_4 := nq (a := o7) (b := o2) (by omega)
     have eM4_5 := nq (a := o7) (b := o3) (by omega)
     have eM4_6 := nq (a := o7) (b := M2 + 9) (by omega)
     try simp -dsimp -implicitDefEqProofs (maxDischargeDepth := 6) [e0, e1, e2, eM4_0, eM4_1, eM4_2, eM4_3, eM4_4, eM4_5, eM4_6, hp_over_some, hp_over_none]
     exact hK _ _ ⟨M4, o6, o7, (by omega), (by omega), (by omega), (by omega), (by omega), (by omega), rfl, rfl⟩
    rintro a σ ⟨M4, o6, o7, fM4_0, fM4_1, fM4_2, fM4_3, fM4_4, fM4_5, rfl, rfl⟩
    refine AWP_sq [4, 6, 9, 28, 29, 30] fun K6 hK6 => ?_
    refine AWP_sr tok [] [4, 6, 9, 28, 29, 30, 40] (fun a σ => a = [(4, .ptr o2 0 0), (6, .ptr o3 0 0), (9, .ptr (M2 + 9) 0 0), (28, .fsl (encL rL_Instr p1)), (29, .int .i64 (ilen p1)), (30, .int .i64 s5), (40, .bool (bnot r11.2))] ∧ σ = hp E0 [(o2, some ⟨28, 5, [[.osl 53 3 (encL rMachine_oo s6.Harts), .osl 86 2 (encL rBox_o s6.Boxes), .int .i64 s6.Turn, .int .i64 s6.Idle, .osl 3 1 (encL rI s6.Out)]]⟩), (o3, some ⟨28, 5, [[.osl 53 3 (encL rMachine_oo s7.Harts), .osl 86 2 (encL rBox_o s7.Boxes), .int .i64 s7.Turn, .int .i64 s7.Idle, .osl 3 1 (encL rI s7.Out)]]⟩), (o6, some ⟨3, 1, encL rI r11.1.Regs⟩), (o7, some ⟨3, 1, encL rI r11.1.Mem⟩), (M2 + 9, some ⟨53, 3, [[.sl o6 0 r11.1.Regs.length, .int .i64 r11.1.Pc, .sl o7 0 r11.1.Mem.length]]⟩)] (M4 + 2)) (fun K hK => ?_) ?_
    ·
     have e0 := nq (a := o2) (b := o3) (by omega)
     have e1 := nq (a := o2) (b := o6) (by omega)
     have e2 := nq (a := o2) (b := o7) (by omega)
     have e3 := nq (a := o2) (b := M2 + 9) (by omega)
     have e4 := nq (a := o3) (b := o6) (by omega)
     have e5 := nq (a := o3) (b := o7) (by omega)
     have e6 := nq (a := o3) (b := M2 + 9) (by omega)
     have e7 := nq (a := o6) (b := o7) (by omega)
     have e8 := nq (a := o6) (b := M2 + 9) (by omega)
     have e9 := nq (a := o7) (b := M2 + 9) (by omega)
     simp -dsimp -implicitDefEqProofs (maxDischargeDepth := 6) [e0, e1, e2, e3, e4, e5, e6, e7, e8, e9]
     exact hK _ _ ⟨rfl, rfl⟩
    rintro a σ ⟨rfl, rfl⟩
    refine AWP_cond (bnot r11.2) rfl (fun C3 => ?_) (fun C3 => ?_)
    ·
     replace H := ifT C3 H
     refine AWP_sr tok [0] [4, 5] (fun a σ => a = [(4, .ptr o2 0 0), (5, .bool false)] ∧ σ = hp E0 [(o2, some ⟨28, 5, [[.nilsl, .nilsl, .int .i64 0, .int .i64 0, .nilsl]]⟩), (o3, some ⟨28, 5, [[.osl 53 3 (encL rMachine_oo s7.Harts), .osl 86 2 (encL rBox_o s7.Boxes), .int .i64 s7.Turn, .int .i64 s7.Idle, .osl 3 1 (encL rI s7.Out)]]⟩), (o6, some ⟨3, 1, encL rI r11.1.Regs⟩), (o7, some ⟨3, 1, encL rI r11.1.Mem⟩), (M2 + 9, some ⟨53, 3, [[.sl o6 0 r11.1.Regs.length, .int .i64 r11.1.Pc, .sl o7 0 r11.1.Mem.length]]⟩)] (M4 + 5)) (fun K hK => ?_) ?_
     ·
      have e0 := nq (a := o2) (b := o3) (by omega)
      have e1 := nq (a := o2) (b := o6) (by omega)
      have e2 := nq (a := o2) (b := o7) (by omega)
      have e3 := nq (a := o2) (b := M2 + 9) (by omega)
      have e4 := nq (a := o3) (b := o6) (by omega)
      have e5 := nq (a := o3) (b := o7) (by omega)
      have e6 := nq (a := o3) (b := M2 + 9) (by omega)
      have e7 := nq (a := o6) (b := o7) (by omega)
      have e8 := nq (a := o6) (b := M2 + 9) (by omega)
      have e9 := nq (a := o7) (b := M2 + 9) (by omega)
      simp -dsimp -implicitDefEqProofs (maxDischargeDepth := 6) [e0, e1, e2, e3, e4, e5, e6, e7, e8, e9]
      exact hK _ _ ⟨rfl, rfl⟩
     rintro a σ ⟨rfl, rfl⟩
     replace H := Option.some.inj H; subst H
     refine AWP_kp [4, 5] [(4, .ptr o2 0 0), (5, .bool false)] rfl ?_
     refine gDrop AWP_ref [(o2, some ⟨28, 5, [[.nilsl, .nilsl, .int .i64 0, .int .i64 0, .nilsl]]⟩)] (hp_skip (AHeap.Sub.trans (AHeap.Sub.trans (AHeap.Sub.trans (AHeap.Sub.trans (AHeap.Sub.refl _) (hp_drop rfl (by simp; try omega))) (hp_drop rfl (by simp; try omega))) (hp_drop rfl (by simp; try omega))) (hp_drop rfl (by simp; try omega)))) ?_
     refine gPk0 AWP_ref (o := o2) (ob := ⟨28, 5, [[.nilsl, .nilsl, .int .i64 0, .int .i64 0, .nilsl]]⟩) (row := [.nilsl, .nilsl, .int .i64 0, .int .i64 0, .nilsl]) (r := 0) (i := 0) 53 3 [(o2, some ⟨28, 5, [[.osl 53 3 (encL rMachine_oo ([] : List gMachine)), .nilsl, .int .i64 0, .int .i64 0, .nilsl]]⟩)] (by simp (disch := omega)) rfl rfl (by simp (disch := omega)) (by simp (disch := omega) [encL_nil, List.set_set, app_set]) ?_
     refine gPk0 AWP_ref (o := o2) (ob := ⟨28, 5, [[.osl 53 3 (encL rMachine_oo ([] : List gMachine)), .nilsl, .int .i64 0, .int .i64 0, .nilsl]]⟩) (row := [.osl 53 3 (encL rMachine_oo ([] : List gMachine)), .nilsl, .int .i64 0, .int .i64 0, .nilsl]) (r := 0) (i := 1) 86 2 [(o2, some ⟨28, 5, [[.osl 53 3 (encL rMachine_oo ([] : List gMachine)), .osl 86 2 (encL rBox_o ([] : List gBox)), .int .i64 0, .int .i64 0, .nilsl]]⟩)] (by simp (disch := omega)) rfl rfl (by simp (disch := omega)) (by simp (disch := omega) [encL_nil, List.set_set, app_set]) ?_
     refine gPk0 AWP_ref (o := o2) (ob := ⟨28, 5, [[.osl 53 3 (encL rMachine_oo ([] : List gMachine)), .osl 86 2 (encL rBox_o ([] : List gBox)), .int .i64 0, .int .i64 0, .nilsl]]⟩) (row := [.osl 53 3 (encL rMachine_oo ([] : List gMachine)), .osl 86 2 (encL rBox_o ([] : List gBox)), .int .i64 0, .int .i64 0, .nilsl]) (r := 0) (i := 4) 3 1 [(o2, some ⟨28, 5, [[.osl 53 3 (encL rMachine_oo ([] : List gMachine)), .osl 86 2 (encL rBox_o ([] : List gBox)), .int .i64 0, .int .i64 0, .osl 3 1 (encL rI ([] : List Int))]]⟩)] (by simp (disch := omega)) rfl rfl (by simp (disch := omega)) (by simp (disch := omega) [encL_nil, List.set_set, app_set]) ?_
     refine gUnp AWP_ref (ty := 53) (sz := 3) (es := encL rMachine_oo ([] : List gMachine)) (o := o2) (ob := ⟨28, 5, [[.osl 53 3 (encL rMachine_oo ([] : List gMachine)), .osl 86 2 (encL rBox_o ([] : List gBox)), .int .i64 0, .int .i64 0, .osl 3 1 (encL rI ([] : List Int))]]⟩) (row := [.osl 53 3 (encL rMachine_oo ([] : List gMachine)), .osl 86 2 (encL rBox_o ([] : List gBox)), .int .i64 0, .int .i64 0, .osl 3 1 (encL rI ([] : List Int))]) (r := 0) (i := 0) [(o2, some ⟨28, 5, [[.sl (M4 + 5) 0 ([] : List gMachine).length, .osl 86 2 (encL rBox_o ([] : List gBox)), .int .i64 0, .int .i64 0, .osl 3 1 (encL rI ([] : List Int))]]⟩), (M4 + 5, some ⟨53, 3, encL rMachine_oo ([] : List gMachine)⟩)] (by simp (disch := omega)) rfl rfl (by simp (disch := omega) [List.set_set]) ?_
     refine gUnp AWP_ref (ty := 86) (sz := 2) (es := encL rBox_o ([] : List gBox)) (o := o2) (ob := ⟨28, 5, [[.sl (M4 + 5) 0 ([] : List gMachine).length, .osl 86 2 (encL rBox_o ([] : List gBox)), .int .i64 0, .int .i64 0, .osl 3 1 (encL rI ([] : List Int))]]⟩) (row := [.sl (M4 + 5) 0 ([] : List gMachine).length, .osl 86 2 (encL rBox_o ([] : List gBox)), .int .i64 0, .int .i64 0, .osl 3 1 (encL rI ([] : List Int))]) (r := 0) (i := 1) [(o2, some ⟨28, 5, [[.sl (M4 + 5) 0 ([] : List gMachine).length, .sl (M4 + 6) 0 ([] : List gBox).length, .int .i64 0, .int .i64 0, .osl 3 1 (encL rI ([] : List Int))]]⟩), (M4 + 5, some ⟨53, 3, encL rMachine_oo ([] : List gMachine)⟩), (M4 + 6, some ⟨86, 2, encL rBox_o ([] : List gBox)⟩)] (by simp (disch := omega)) rfl rfl (by simp (disch := omega) [List.set_set]) ?_
     refine gUnp AWP_ref (ty := 3) (sz := 1) (es := encL rI ([] : List Int)) (o := o2) (ob := ⟨28, 5, [[.sl (M4 + 5) 0 ([] : List gMachine).length, .sl (M4 + 6) 0 ([] : List gBox).length, .int .i64 0, .int .i64 0, .osl 3 1 (encL rI ([] : List Int))]]⟩) (row := [.sl (M4 + 5) 0 ([] : List gMachine).length, .sl (M4 + 6) 0 ([] : List gBox).length, .int .i64 0, .int .i64 0, .osl 3 1 (encL rI ([] : List Int))]) (r := 0) (i := 4) [(o2, some ⟨28, 5, [[.sl (M4 + 5) 0 ([] : List gMachine).length, .sl (M4 + 6) 0 ([] : List gBox).length, .int .i64 0, .int .i64 0, .sl (M4 + 7) 0 ([] : List Int).length]]⟩), (M4 + 5, some ⟨53, 3, encL rMachine_oo ([] : List gMachine)⟩), (M4 + 6, some ⟨86, 2, encL rBox_o ([] : List gBox)⟩), (M4 + 7, some ⟨3, 1, encL rI ([] : List Int)⟩)] (by simp (disch := omega)) rfl rfl (by simp (disch := omega) [List.set_set]) ?_
     have z0 := nq (a := o2) (b := M4 + 5) (by omega)
     have z1 := nq (a := o2) (b := M4 + 6) (by omega)
     have z2 := nq (a := o2) (b := M4 + 7) (by omega)
     refine AWP_ret (hO3 _ _ _ _ rfl ⟨rfl, ?_⟩)
     refine ⟨[.agg [.sl (M4 + 5) 0 ([] : List gMachine).length, .sl (M4 + 6) 0 ([] : List gBox).length, .int .i64 0, .int .i64 0, .sl (M4 + 7) 0 ([] : List Int).length], .bool false], by simp [z0, z1, z2], (fun o => [o2].contains o), M4 + 8, M4 + 5, M4 + 6, M4 + 7, by omega, by omega, by omega, by omega, by omega, by omega, by omega, by omega, by omega, by omega, ?_, ?_⟩
     ·
      simp [encL_nil, z0, z1, z2]
     ·
      rw [cutD (L' := [(M4 + 5, some ⟨53, 3, encL rMachine_oo ([] : List gMachine)⟩), (M4 + 6, some ⟨86, 2, encL rBox_o ([] : List gBox)⟩), (M4 + 7, some ⟨3, 1, encL rI ([] : List Int)⟩)]) (by simp [z0, z1, z2])]
      first | done | rfl | simp [List.set_set]
    ·
     replace H := ifF C3 H
     refine AWP_skip ?_
     show K6 _ _
     refine keepE (l := [4, 6, 9, 28, 29, 30]) (x := [(4, .ptr o2 0 0), (6, .ptr o3 0 0), (9, .ptr (M2 + 9) 0 0), (28, .fsl (encL rL_Instr p1)), (29, .int .i64 (ilen p1)), (30, .int .i64 s5)]) rfl fun a' ha => ?_
     refine hK6 _ _ ?_; rw [ha]
     refine Rc.mk ?_
     refine gUnp AWP_ref (ty := 53) (sz := 3) (es := encL rMachine_oo s7.Harts) (o := o3) (ob := ⟨28, 5, [[.osl 53 3 (encL rMachine_oo s7.Harts), .osl 86 2 (encL rBox_o s7.Boxes), .int .i64 s7.Turn, .int .i64 s7.Idle, .osl 3 1 (encL rI s7.Out)]]⟩) (row := [.osl 53 3 (encL rMachine_oo s7.Harts), .osl 86 2 (encL rBox_o s7.Boxes), .int .i64 s7.Turn, .int .i64 s7.Idle, .osl 3 1 (encL rI s7.Out)]) (r := 0) (i := 0) [(o2, some ⟨28, 5, [[.osl 53 3 (encL rMachine_oo s6.Harts), .osl 86 2 (encL rBox_o s6.Boxes), .int .i64 s6.Turn, .int .i64 s6.Idle, .osl 3 1 (encL rI s6.Out)]]⟩), (o3, some ⟨28, 5, [[.sl (M4 + 2) 0 s7.Harts.length, .osl 86 2 (encL rBox_o s7.Boxes), .int .i64 s7.Turn, .int .i64 s7.Idle, .osl 3 1 (encL rI s7.Out)]]⟩), (o6, some ⟨3, 1, encL rI r11.1.Regs⟩), (o7, some ⟨3, 1, encL rI r11.1.Mem⟩), (M2 + 9, some ⟨53, 3, [[.sl o6 0 r11.1.Regs.length, .int .i64 r11.1.Pc, .sl o7 0 r11.1.Mem.length]]⟩), (M4 + 2, some ⟨53, 3, encL rMachine_oo s7.Harts⟩)] (by simp (disch := omega)) rfl rfl (by simp (disch := omega) [List.set_set]) ?_
     obtain ⟨l12, hl12, H⟩ := bindE H
     have q0 : ∀ (a0 : Nat) (a1 : Nat) (a2 : Int) (a3 : Nat) (a4 : Nat) σ i, buildSliceA T 25 true i 1 [(0, .agg [.sl a0 0 a1, .int .i64 a2, .sl a3 0 a4])] σ = some (.fsl [[.sl a0 0 a1, .int .i64 a2, .sl a3 0 a4]], σ) := fun _ _ _ _ _ _ _ => rfl
     refine AWP_rt tok [3] [4, 6, 28, 29, 30] (fun a σ => a = [(4, .ptr o2 0 0), (6, .ptr o3 0 0), (28, .fsl (encL rL_Instr p1)), (29, .int .i64 (ilen p1)), (30, .int .i64 s5)] ∧ σ = hp E0 [(o2, some ⟨28, 5, [[.osl 53 3 (encL rMachine_oo s6.Harts), .osl 86 2 (encL rBox_o s6.Boxes), .int .i64 s6.Turn, .int .i64 s6.Idle, .osl 3 1 (encL rI s6.Out)]]⟩), (o3, some ⟨28, 5, [[.sl (M4 + 7) 0 l12.length, .osl 86 2 (encL rBox_o s7.Boxes), .int .i64 s7.Turn, .int .i64 s7.Idle, .osl 3 1 (encL rI s7.Out)]]⟩), (o6, some ⟨3, 1, encL rI r11.1.Regs⟩), (o7, some ⟨3, 1, encL rI r11.1.Mem⟩), (M2 + 9, some ⟨53, 3, [[.sl o6 0 r11.1.Regs.length, .int .i64 r11.1.Pc, .sl o7 0 r11.1.Mem.length]]⟩), (M4 + 7, some ⟨53, 3, encL rMachine_oo s7.Harts ++ [[.sl o6 0 r11.1.Regs.length, .int .i64 r11.1.Pc, .sl o7 0 r11.1.Mem.length]]⟩)] (M4 + 10)) (fun K hK => ?_) ?_
     ·
      have e0 := nq (a := o2) (b := o3) (by omega)
      have e1 := nq (a := o2) (b := o6) (by omega)
      have e2 := nq (a := o2) (b := o7) (by omega)
      have e3 := nq (a := o2) (b := M2 + 9) (by omega)
      have e4 := nq (a := o2) (b := M4 + 2) (by omega)
      have e5 := nq (a := o2) (b := M4 + 7) (by omega)
      have e6 := nq (a := o3) (b := o6) (by omega)
      have e7 := nq (a := o3) (b := o7) (by omega)
      have e8 := nq (a := o3) (b := M2 + 9) (by omega)
      have e9 := nq (a := o3) (b := M4 + 2) (by omega)
      have e10 := nq (a := o3) (b := M4 + 7) (by omega)
      have e11 := nq (a := o6) (b := o7) (by omega)
      have e12 := nq (a := o6) (b := M2 + 9) (by omega)
      have e13 := nq (a := o6) (b := M4 + 2) (by omega)
      have e14 := nq (a := o6) (b := M4 + 7) (by omega)
      have e15 := nq (a := o7) (b := M2 + 9) (by omega)
      have e16 := nq (a := o7) (b := M4 + 2) (by omega)
      have e17 := nq (a := o7) (b := M4 + 7) (by omega)
      have e18 := nq (a := M2 + 9) (b := M4 + 2) (by omega)
      have e19 := nq (a := M2 + 7) (b := M4) (by omega)
      have e20 := nq (a := M2 + 9) (b := M4 + 7) (by omega)
      have e21 := nq (a := M2 + 2) (b := M4) (by omega)
      simp -dsimp -implicitDefEqProofs (maxDischargeDepth := 6) [e0, e1, e2, e3, e4, e5, e6, e7, e8, e9, e10, e11, e12, e13, e14, e15, e16, e17, e18, e19, e20, e21, q0, apr25 rMachine_oo hl12]
      exact hK _ _ ⟨rfl, rfl⟩
     rintro a σ ⟨ha, rfl⟩
     refine hK5 _ _ ?_; rw [ha]
     refine Rc.mk ?_
     refine gDrop AWP_ref [(o2, some ⟨28, 5, [[.osl 53 3 (encL rMachine_oo s6.Harts), .osl 86 2 (encL rBox_o s6.Boxes), .int .i64 s6.Turn, .int .i64 s6.Idle, .osl 3 1 (encL rI s6.Out)]]⟩), (o3, some ⟨28, 5, [[.sl (M4 + 7) 0 l12.length, .osl 86 2 (encL rBox_o s7.Boxes), .int .i64 s7.Turn, .int .i64 s7.Idle, .osl 3 1 (encL rI s7.Out)]]⟩), (o6, some ⟨3, 1, encL rI r11.1.Regs⟩), (o7, some ⟨3, 1, encL rI r11.1.Mem⟩), (M4 + 7, some ⟨53, 3, encL rMachine_oo s7.Harts ++ [[.sl o6 0 r11.1.Regs.length, .int .i64 r11.1.Pc, .sl o7 0 r11.1.Mem.length]]⟩)] (hp_skip (hp_skip (hp_skip (hp_skip (AHeap.Sub.trans (hp_skip (AHeap.Sub.refl _)) (hp_drop rfl (by simp; try omega))))))) ?_
     refine gPk AWP_ref (k := r11.1.Regs.length) (o := (M4 + 7)) (ob := ⟨53, 3, encL rMachine_oo s7.Harts ++ [[.sl o6 0 r11.1.Regs.length, .int .i64 r11.1.Pc, .sl o7 0 r11.1.Mem.length]]⟩) (row := [.sl o6 0 r11.1.Regs.length, .int .i64 r11.1.Pc, .sl o7 0 r11.1.Mem.length]) (d := o6) (obd := ⟨3, 1, encL rI r11.1.Regs⟩) (r := s7.Harts.length) (i := 0) [(o2, some ⟨28, 5, [[.osl 53 3 (encL rMachine_oo s6.Harts), .osl 86 2 (encL rBox_o s6.Boxes), .int .i64 s6.Turn, .int .i64 s6.Idle, .osl 3 1 (encL rI s6.Out)]]⟩), (o3, some ⟨28, 5, [[.sl (M4 + 7) 0 l12.length, .osl 86 2 (encL rBox_o s7.Boxes), .int .i64 s7.Turn, .int .i64 s7.Idle, .osl 3 1 (encL rI s7.Out)]]⟩), (o7, some ⟨3, 1, encL rI r11.1.Mem⟩), (M4 + 7, some ⟨53, 3, encL rMachine_oo s7.Harts ++ [[.osl 3 1 (encL rI r11.1.Regs), .int .i64 r11.1.Pc, .sl o7 0 r11.1.Mem.length]]⟩)] (by simp (disch := omega)) (app_get _ _ _) rfl (by simp (disch := omega)) (by simp (disch := omega)) (by first | omega | simp) (by simp (disch := omega) [List.set_set, app_set] <;> omega) (by simp (disch := omega) [List.set_set, app_set]) ?_
     refine gPk AWP_ref (k := r11.1.Mem.length) (o := (M4 + 7)) (ob := ⟨53, 3, encL rMachine_oo s7.Harts ++ [[.osl 3 1 (encL rI r11.1.Regs), .int .i64 r11.1.Pc, .sl o7 0 r11.1.Mem.length]]⟩) (row := [.osl 3 1 (encL rI r11.1.Regs), .int .i64 r11.1.Pc, .sl o7 0 r11.1.Mem.length]) (d := o7) (obd := ⟨3, 1, encL rI r11.1.Mem⟩) (r := s7.Harts.length) (i := 2) [(o2, some ⟨28, 5, [[.osl 53 3 (encL rMachine_oo s6.Harts), .osl 86 2 (encL rBox_o s6.Boxes), .int .i64 s6.Turn, .int .i64 s6.Idle, .osl 3 1 (encL rI s6.Out)]]⟩), (o3, some ⟨28, 5, [[.sl (M4 + 7) 0 l12.length, .osl 86 2 (encL rBox_o s7.Boxes), .int .i64 s7.Turn, .int .i64 s7.Idle, .osl 3 1 (encL rI s7.Out)]]⟩), (M4 + 7, some ⟨53, 3, encL rMachine_oo s7.Harts ++ [[.osl 3 1 (encL rI r11.1.Regs), .int .i64 r11.1.Pc, .osl 3 1 (encL rI r11.1.Mem)]]⟩)] (by simp (disch := omega)) (app_get _ _ _) rfl (by simp (disch := omega)) (by simp (disch := omega)) (by first | omega | simp) (by simp (disch := omega) [List.set_set, app_set] <;> omega) (by simp (disch := omega) [List.set_set, app_set]) ?_
     rw [show hp E0 [(o2, some ⟨28, 5, [[.osl 53 3 (encL rMachine_oo s6.Harts), .osl 86 2 (encL rBox_o s6.Boxes), .int .i64 s6.Turn, .int .i64 s6.Idle, .osl 3 1 (encL rI s6.Out)]]⟩), (o3, some ⟨28, 5, [[.sl (M4 + 7) 0 l12.length, .osl 86 2 (encL rBox_o s7.Boxes), .int .i64 s7.Turn, .int .i64 s7.Idle, .osl 3 1 (encL rI s7.Out)]]⟩), (M4 + 7, some ⟨53, 3, encL rMachine_oo s7.Harts ++ [[.osl 3 1 (encL rI r11.1.Regs), .int .i64 r11.1.Pc, .osl 3 1 (encL rI r11.1.Mem)]]⟩)] (M4 + 10) = hp E0 [(o2, some ⟨28, 5, [[.osl 53 3 (encL rMachine_oo s6.Harts), .osl 86 2 (encL rBox_o s6.Boxes), .int .i64 s6.Turn, .int .i64 s6.Idle, .osl 3 1 (encL rI s6.Out)]]⟩), (o3, some ⟨28, 5, [[.sl (M4 + 7) 0 l12.length, .osl 86 2 (encL rBox_o s7.Boxes), .int .i64 s7.Turn, .int .i64 s7.Idle, .osl 3 1 (encL rI s7.Out)]]⟩), (M4 + 7, some ⟨53, 3, encL rMachine_oo l12⟩)] (M4 + 10) from by rw [← app_enc (f := rMachine_oo) (c := [.osl 3 1 (encL rI r11.1.Regs), .int .i64 r11.1.Pc, .osl 3 1 (encL rI r11.1.Mem)]) hl12 rfl]]
     refine AWP_rt tok [] [4, 6, 28, 29, 30] (fun a σ => a = [(4, .ptr o2 0 0), (6, .ptr o3 0 0), (28, .fsl (encL rL_Instr p1)), (29, .int .i64 (ilen p1)), (30, .int .i64 (iadd .i64 s5 1))] ∧ σ = hp E0 [(o2, some ⟨28, 5, [[.osl 53 3 (encL rMachine_oo s6.Harts), .osl 86 2 (encL rBox_o s6.Boxes), .int .i64 s6.Turn, .int .i64 s6.Idle, .osl 3 1 (encL rI s6.Out)]]⟩), (o3, some ⟨28, 5, [[.sl (M4 + 7) 0 l12.length, .osl 86 2 (encL rBox_o s7.Boxes), .int .i64 s7.Turn, .int .i64 s7.Idle, .osl 3 1 (encL rI s7.Out)]]⟩), (M4 + 7, some ⟨53, 3, encL rMachine_oo l12⟩)] (M4 + 12)) (fun K hK => ?_) ?_
     ·
      have e0 := nq (a := o2) (b := o3) (by omega)
      have e1 := nq (a := o2) (b := M4 + 7) (by omega)
      have e2 := nq (a := o3) (b := M4 + 7) (by omega)
      simp -dsimp -implicitDefEqProofs (maxDischargeDepth := 6) [e0, e1, e2]
      exact hK _ _ ⟨rfl, rfl⟩
     rintro a σ ⟨ha, rfl⟩
     replace H := Option.some.inj H; subst H
     refine hK3 _ _ _ rfl ?_; rw [ha]
     refine gPk Rc_ref (k := l12.length) (o := o3) (ob := ⟨28, 5, [[.sl (M4 + 7) 0 l12.length, .osl 86 2 (encL rBox_o s7.Boxes), .int .i64 s7.Turn, .int .i64 s7.Idle, .osl 3 1 (encL rI s7.Out)]]⟩) (row := [.sl (M4 + 7) 0 l12.length, .osl 86 2 (encL rBox_o s7.Boxes), .int .i64 s7.Turn, .int .i64 s7.Idle, .osl 3 1 (encL rI s7.Out)]) (d := (M4 + 7)) (obd := ⟨53, 3, encL rMachine_oo l12⟩) (r := 0) (i := 0) [(o2, some ⟨28, 5, [[.osl 53 3 (encL rMachine_oo s6.Harts), .osl 86 2 (encL rBox_o s6.Boxes), .int .i64 s6.Turn, .int .i64 s6.Idle, .osl 3 1 (encL rI s6.Out)]]⟩), (o3, some ⟨28, 5, [[.osl 53 3 (encL rMachine_oo l12), .osl 86 2 (encL rBox_o s7.Boxes), .int .i64 s7.Turn, .int .i64 s7.Idle, .osl 3 1 (encL rI s7.Out)]]⟩)] (by simp (disch := omega)) rfl rfl (by simp (disch := omega)) (by simp (disch := omega)) (by first | omega | simp) (by simp (disch := omega) [List.set_set, app_set] <;> omega) (by simp (disch := omega) [List.set_set, app_set]) ?_
     exact Rc.fin (AHeap.Sub.refl _) ⟨M4 + 12, o2, o3, (by omega), (by omega), (by omega), (by omega), (by omega), (by omega), rfl, rfl⟩
   ·
    replace H := ifF C2 H
    replace H := Option.some.inj H; subst H
    refine AWP_exit (hO3 _ _ _ _ rfl ⟨rfl, ?_⟩)
    refine Rc.rw (l := [4, 6]) (X := [(4, .ptr o2 0 0), (6, .ptr o3 0 0)]) rfl ?_
    exact Rc.fin (AHeap.Sub.refl _) ⟨M2 + 1, o2, o3, (by omega), (by omega), (by omega), (by omega), (by omega), (by omega), rfl, rfl⟩
  ·
   intro x a σ hx
   rcases e1 with ⟨y8, y9⟩ | r0
   ·
    obtain ⟨rfl, b, τ, hr, M3, o4, o5, fM3_0, fM3_1, fM3_2, fM3_3, fM3_4, fM3_5, rfl, rfl⟩ := hx
    dsimp only at H
    show K2 _ _
    refine hK2 _ _ (Rc_ref hr ?_)
    refine Rc.mk ?_
    refine gUnp AWP_ref (ty := 53) (sz := 3) (es := encL rMachine_oo y9.Harts) (o := o5) (ob := ⟨28, 5, [[.osl 53 3 (encL rMachine_oo y9.Harts), .osl 86 2 (encL rBox_o y9.Boxes), .int .i64 y9.Turn, .int .i64 y9.Idle, .osl 3 1 (encL rI y9.Out)]]⟩) (row := [.osl 53 3 (encL rMachine_oo y9.Harts), .osl 86 2 (encL rBox_o y9.Boxes), .int .i64 y9.Turn, .int .i64 y9.Idle, .osl 3 1 (encL rI y9.Out)]) (r := 0) (i := 0) [(o4, some ⟨28, 5, [[.osl 53 3 (encL rMachine_oo y8.Harts), .osl 86 2 (encL rBox_o y8.Boxes), .int .i64 y8.Turn, .int .i64 y8.Idle, .osl 3 1 (encL rI y8.Out)]]⟩), (o5, some ⟨28, 5, [[.sl M3 0 y9.Harts.length, .osl 86 2 (encL rBox_o y9.Boxes), .int .i64 y9.Turn, .int .i64 y9.Idle, .osl 3 1 (encL rI y9.Out)]]⟩), (M3, some ⟨53, 3, encL rMachine_oo y9.Harts⟩)] (by simp (disch := omega)) rfl rfl (by simp (disch := omega) [List.set_set]) ?_
    refine gUnp AWP_ref (ty := 86) (sz := 2) (es := encL rBox_o y9.Boxes) (o := o5) (ob := ⟨28, 5, [[.sl M3 0 y9.Harts.length, .osl 86 2 (encL rBox_o y9.Boxes), .int .i64 y9.Turn, .int .i64 y9.Idle, .osl 3 1 (encL rI y9.Out)]]⟩) (row := [.sl M3 0 y9.Harts.length, .osl 86 2 (encL rBox_o y9.Boxes), .int .i64 y9.Turn, .int .i64 y9.Idle, .osl 3 1 (encL rI y9.Out)]) (r := 0) (i := 1) [(o4, some ⟨28, 5, [[.osl 53 3 (encL rMachine_oo y8.Harts), .osl 86 2 (encL rBox_o y8.Boxes), .int .i64 y8.Turn, .int .i64 y8.Idle, .osl 3 1 (encL rI y8.Out)]]⟩), (o5, some ⟨28, 5, [[.sl M3 0 y9.Harts.length, .sl (M3 + 1) 0 y9.Boxes.length, .int .i64 y9.Turn, .int .i64 y9.Idle, .osl 3 1 (encL rI y9.Out)]]⟩), (M3, some ⟨53, 3, encL rMachine_oo y9.Harts⟩), (M3 + 1, some ⟨86, 2, encL rBox_o y9.Boxes⟩)] (by simp (disch := omega)) rfl rfl (by simp (disch := omega) [List.set_set]) ?_
    refine gUnp AWP_ref (ty := 3) (sz := 1) (es := encL rI y9.Out) (o := o5) (ob := ⟨28, 5, [[.sl M3 0 y9.Harts.length, .sl (M3 + 1) 0 y9.Boxes.length, .int .i64 y9.Turn, .int .i64 y9.Idle, .osl 3 1 (encL rI y9.Out)]]⟩) (row := [.sl M3 0 y9.Harts.length, .sl (M3 + 1) 0 y9.Boxes.length, .int .i64 y9.Turn, .int .i64 y9.Idle, .osl 3 1 (encL rI y9.Out)]) (r := 0) (i := 4) [(o4, some ⟨28, 5, [[.osl 53 3 (encL rMachine_oo y8.Harts), .osl 86 2 (encL rBox_o y8.Boxes), .int .i64 y8.Turn, .int .i64 y8.Idle, .osl 3 1 (encL rI y8.Out)]]⟩), (o5, some ⟨28, 5, [[.sl M3 0 y9.Harts.length, .sl (M3 + 1) 0 y9.Boxes.length, .int .i64 y9.Turn, .int .i64 y9.Idle, .sl (M3 + 2) 0 y9.Out.length]]⟩), (M3, some ⟨53, 3, encL rMachine_oo y9.Harts⟩), (M3 + 1, some ⟨86, 2, encL rBox_o y9.Boxes⟩), (M3 + 2, some ⟨3, 1, encL rI y9.Out⟩)] (by simp (disch := omega)) rfl rfl (by simp (disch := omega) [List.set_set]) ?_
    refine AWP_sr tok [] [4, 5] (fun a σ => a = [(4, .ptr o4 0 0), (5, .bool true)] ∧ σ = hp E0 [(o4, some ⟨28, 5, [[.sl M3 0 y9.Harts.length, .sl (M3 + 1) 0 y9.Boxes.length, .int .i64 y9.Turn, .int .i64 y9.Idle, .sl (M3 + 2) 0 y9.Out.length]]⟩), (o5, some ⟨28, 5, [[.sl M3 0 y9.Harts.length, .sl (M3 + 1) 0 y9.Boxes.length, .int .i64 y9.Turn, .int .i64 y9.Idle, .sl (M3 + 2) 0 y9.Out.length]]⟩), (M3, some ⟨53, 3, encL rMachine_oo y9.Harts⟩), (M3 + 1, some ⟨86, 2, encL rBox_o y9.Boxes⟩), (M3 + 2, some ⟨3, 1, encL rI y9.Out⟩)] (M3 + 6)) (fun K hK => ?_) ?_
    ·
     have e0 := nq (a := o4) (b := o5) (by omega)
     have e1 := nq (a := o4) (b := M3) (by omega)
     have e2 := nq (a := o4) (b := M3 + 1) (by omega)
     have e3 := nq (a := o4) (b := M3 + 2) (by omega)
     have e4 := nq (a := o5) (b := M3) (by omega)
     have e5 := nq (a := o5) (b := M3 + 1) (by omega)
     have e6 := nq (a := o5) (b := M3 + 2) (by omega)
     simp -dsimp -implicitDefEqProofs (maxDischargeDepth := 6) [e0, e1, e2, e3, e4, e5, e6]
     exact hK _ _ ⟨rfl, rfl⟩
    rintro a σ ⟨rfl, rfl⟩
    replace H := Option.some.inj H; subst H
    refine AWP_kp [4, 5] [(4, .ptr o4 0 0), (5, .bool true)] rfl ?_
    refine gDrop AWP_ref [(o4, some ⟨28, 5, [[.sl M3 0 y9.Harts.length, .sl (M3 + 1) 0 y9.Boxes.length, .int .i64 y9.Turn, .int .i64 y9.Idle, .sl (M3 + 2) 0 y9.Out.length]]⟩), (M3, some ⟨53, 3, encL rMachine_oo y9.Harts⟩), (M3 + 1, some ⟨86, 2, encL rBox_o y9.Boxes⟩), (M3 + 2, some ⟨3, 1, encL rI y9.Out⟩)] (hp_skip (AHeap.Sub.trans (hp_skip (hp_skip (hp_skip (AHeap.Sub.refl _)))) (hp_drop rfl (by simp; try omega)))) ?_
    refine gPk AWP_ref (k := y9.Harts.length) (o := o4) (ob := ⟨28, 5, [[.sl M3 0 y9.Harts.length, .sl (M3 + 1) 0 y9.Boxes.length, .int .i64 y9.Turn, .int .i64 y9.Idle, .sl (M3 + 2) 0 y9.Out.length]]⟩) (row := [.sl M3 0 y9.Harts.length, .sl (M3 + 1) 0 y9.Boxes.length, .int .i64 y9.Turn, .int .i64 y9.Idle, .sl (M3 + 2) 0 y9.Out.length]) (d := M3) (obd := ⟨53, 3, encL rMachine_oo y9.Harts⟩) (r := 0) (i := 0) [(o4, some ⟨28, 5, [[.osl 53 3 (encL rMachine_oo y9.Harts), .sl (M3 + 1) 0 y9.Boxes.length, .int .i64 y9.Turn, .int .i64 y9.Idle, .sl (M3 + 2) 0 y9.Out.length]]⟩), (M3 + 1, some ⟨86, 2, encL rBox_o y9.Boxes⟩), (M3 + 2, some ⟨3, 1, encL rI y9.Out⟩)] (by simp (disch := omega)) rfl rfl (by simp (disch := omega)) (by simp (disch := omega)) (by first | omega | simp) (by simp (disch := omega) [List.set_set, app_set] <;> omega) (by simp (disch := omega) [List.set_set, app_set]) ?_
    refine gPk AWP_ref (k := y9.Boxes.length) (o := o4) (ob := ⟨28, 5, [[.osl 53 3 (encL rMachine_oo y9.Harts), .sl (M3 + 1) 0 y9.Boxes.length, .int .i64 y9.Turn, .int .i64 y9.Idle, .sl (M3 + 2) 0 y9.Out.length]]⟩) (row := [.osl 53 3 (encL rMachine_oo y9.Harts), .sl (M3 + 1) 0 y9.Boxes.length, .int .i64 y9.Turn, .int .i64 y9.Idle, .sl (M3 + 2) 0 y9.Out.length]) (d := (M3 + 1)) (obd := ⟨86, 2, encL rBox_o y9.Boxes⟩) (r := 0) (i := 1) [(o4, some ⟨28, 5, [[.osl 53 3 (encL rMachine_oo y9.Harts), .osl 86 2 (encL rBox_o y9.Boxes), .int .i64 y9.Turn, .int .i64 y9.Idle, .sl (M3 + 2) 0 y9.Out.length]]⟩), (M3 + 2, some ⟨3, 1, encL rI y9.Out⟩)] (by simp (disch := omega)) rfl rfl (by simp (disch := omega)) (by simp (disch := omega)) (by first | omega | simp) (by simp (disch := omega) [List.set_set, app_set] <;> omega) (by simp (disch := omega) [List.set_set, app_set]) ?_
    refine gPk AWP_ref (k := y9.Out.length) (o := o4) (ob := ⟨28, 5, [[.osl 53 3 (encL rMachine_oo y9.Harts), .osl 86 2 (encL rBox_o y9.Boxes), .int .i64 y9.Turn, .int .i64 y9.Idle, .sl (M3 + 2) 0 y9.Out.length]]⟩) (row := [.osl 53 3 (encL rMachine_oo y9.Harts), .osl 86 2 (encL rBox_o y9.Boxes), .int .i64 y9.Turn, .int .i64 y9.Idle, .sl (M3 + 2) 0 y9.Out.length]) (d := (M3 + 2)) (obd := ⟨3, 1, encL rI y9.Out⟩) (r := 0) (i := 4) [(o4, some ⟨28, 5, [[.osl 53 3 (encL rMachine_oo y9.Harts), .osl 86 2 (encL rBox_o y9.Boxes), .int .i64 y9.Turn, .int .i64 y9.Idle, .osl 3 1 (encL rI y9.Out)]]⟩)] (by simp (disch := omega)) rfl rfl (by simp (disch := omega)) (by simp (disch := omega)) (by first | omega | simp) (by simp (disch := omega) [List.set_set, app_set] <;> omega) (by simp (disch := omega) [List.set_set, app_set]) ?_
    refine gUnp AWP_ref (ty := 53) (sz := 3) (es := encL rMachine_oo y9.Harts) (o := o4) (ob := ⟨28, 5, [[.osl 53 3 (encL rMachine_oo y9.Harts), .osl 86 2 (encL rBox_o y9.Boxes), .int .i64 y9.Turn, .int .i64 y9.Idle, .osl 3 1 (encL rI y9.Out)]]⟩) (row := [.osl 53 3 (encL rMachine_oo y9.Harts), .osl 86 2 (encL rBox_o y9.Boxes), .int .i64 y9.Turn, .int .i64 y9.Idle, .osl 3 1 (encL rI y9.Out)]) (r := 0) (i := 0) [(o4, some ⟨28, 5, [[.sl (M3 + 6) 0 y9.Harts.length, .osl 86 2 (encL rBox_o y9.Boxes), .int .i64 y9.Turn, .int .i64 y9.Idle, .osl 3 1 (encL rI y9.Out)]]⟩), (M3 + 6, some ⟨53, 3, encL rMachine_oo y9.Harts⟩)] (by simp (disch := omega)) rfl rfl (by simp (disch := omega) [List.set_set]) ?_
    refine gUnp AWP_ref (ty := 86) (sz := 2) (es := encL rBox_o y9.Boxes) (o := o4) (ob := ⟨28, 5, [[.sl (M3 + 6) 0 y9.Harts.length, .osl 86 2 (encL rBox_o y9.Boxes), .int .i64 y9.Turn, .int .i64 y9.Idle, .osl 3 1 (encL rI y9.Out)]]⟩) (row := [.sl (M3 + 6) 0 y9.Harts.length, .osl 86 2 (encL rBox_o y9.Boxes), .int .i64 y9.Turn, .int .i64 y9.Idle, .osl 3 1 (encL rI y9.Out)]) (r := 0) (i := 1) [(o4, some ⟨28, 5, [[.sl (M3 + 6) 0 y9.Harts.length, .sl (M3 + 7) 0 y9.Boxes.length, .int .i64 y9.Turn, .int .i64 y9.Idle, .osl 3 1 (encL rI y9.Out)]]⟩), (M3 + 6, some ⟨53, 3, encL rMachine_oo y9.Harts⟩), (M3 + 7, some ⟨86, 2, encL rBox_o y9.Boxes⟩)] (by simp (disch := omega)) rfl rfl (by simp (disch := omega) [List.set_set]) ?_
    refine gUnp AWP_ref (ty := 3) (sz := 1) (es := encL rI y9.Out) (o := o4) (ob := ⟨28, 5, [[.sl (M3 + 6) 0 y9.Harts.length, .sl (M3 + 7) 0 y9.Boxes.length, .int .i64 y9.Turn, .int .i64 y9.Idle, .osl 3 1 (encL rI y9.Out)]]⟩) (row := [.sl (M3 + 6) 0 y9.Harts.length, .sl (M3 + 7) 0 y9.Boxes.length, .int .i64 y9.Turn, .int .i64 y9.Idle, .osl 3 1 (encL rI y9.Out)]) (r := 0) (i := 4) [(o4, some ⟨28, 5, [[.sl (M3 + 6) 0 y9.Harts.length, .sl (M3 + 7) 0 y9.Boxes.length, .int .i64 y9.Turn, .int .i64 y9.Idle, .sl (M3 + 8) 0 y9.Out.length]]⟩), (M3 + 6, some ⟨53, 3, encL rMachine_oo y9.Harts⟩), (M3 + 7, some ⟨86, 2, encL rBox_o y9.Boxes⟩), (M3 + 8, some ⟨3, 1, encL rI y9.Out⟩)] (by simp (disch := omega)) rfl rfl (by simp (disch := omega) [List.set_set]) ?_
    have z3 := nq (a := o4) (b := M3 + 6) (by omega)
    have z4 := nq (a := o4) (b := M3 + 7) (by omega)
    have z5 := nq (a := o4) (b := M3 + 8) (by omega)
    refine AWP_ret ?_
    refine ⟨[.agg [.sl (M3 + 6) 0 y9.Harts.length, .sl (M3 + 7) 0 y9.Boxes.length, .int .i64 y9.Turn, .int .i64 y9.Idle, .sl (M3 + 8) 0 y9.Out.length], .bool true], by simp [z3, z4, z5], (fun o => [o4].contains o), M3 + 9, M3 + 6, M3 + 7, M3 + 8, by omega, by omega, by omega, by omega, by omega, by omega, by omega, by omega, by omega, by omega, ?_, ?_⟩
    ·
     simp [encL_nil, z3, z4, z5]
    ·
     rw [cutD (L' := [(M3 + 6, some ⟨53, 3, encL rMachine_oo y9.Harts⟩), (M3 + 7, some ⟨86, 2, encL rBox_o y9.Boxes⟩), (M3 + 8, some ⟨3, 1, encL rI y9.Out⟩)]) (by simp [z3, z4, z5])]
     first | done | rfl | simp [List.set_set]
   ·
    obtain ⟨rfl, hx2⟩ := hx
    dsimp only at H
    replace H := Option.some.inj H; subst H; exact hx2
theorem c9_o6_b {p0 : (List Int)} {p1 : (List (List gInstr))} {r : gSquad × Bool} (H : i_SquadNew_o6 p0 p1 = some r) {σ : AHeap} {args : List AV} (hy : args.map (thawA (fun _ => true) σ 8) = [.fsl (encL rI p0), .fsl (encL rL_Instr p1)]) : ACalls Tryd.prog G 9 args σ (fun v σ' => ∃ M n0 n1 n2 : Nat, σ.next ≤ M ∧ σ.next ≤ n0 ∧ n0 < M ∧ σ.next ≤ n1 ∧ n1 < M ∧ σ.next ≤ n2 ∧ n2 < M ∧ ¬ n0 = n1 ∧ ¬ n0 = n2 ∧ ¬ n1 = n2 ∧ v = .tup [.agg [.sl n0 0 r.1.Harts.length, .sl n1 0 r.1.Boxes.length, .int .i64 r.1.Turn, .int .i64 r.1.Idle, .sl n2 0 r.1.Out.length], .bool r.2] ∧ σ' = hp σ.objs [(n0, some ⟨53, 3, encL rMachine_oo r.1.Harts⟩), (n1, some ⟨86, 2, encL rBox_o r.1.Boxes⟩), (n2, some ⟨3, 1, encL rI r.1.Out⟩)] M) := by
 refine borrowQ 8 8 (c9_o6 (σ := ⟨E0, σ.next⟩) H) hy ?_
 rintro _ _ ⟨M, n0, n1, n2, h0, h1, h2, h3, h4, h5, h6, h7, h8, h9, rfl, rfl⟩
 refine ⟨_, M, rfl, by simp [AV.rnf, AV.simp1], fun p hp ob ho => ?_, by simp, M, n0, n1, n2, h0, h1, h2, h3, h4, h5, h6, h7, h8, h9, rfl, rfl⟩
 simp only [List.mem_cons, List.not_mem_nil, or_false] at hp
 rcases hp with rfl | rfl | rfl <;> (cases ho; first | exact encL_nf (fun x => nf_rMachine_oo 6 x) _ | exact encL_nf (fun x => nf_rBox_o 6 x) _ | exact encL_nf (fun x => nf_rI 7 x) _ | simp [AV.nf, AV.simp1])
theorem c37 {p0 : (List gInstr)} {p1 : Int} {r : Int × (List gInstr)} (H : l_markInstrS p0 p1 = some r) {σ : AHeap} {w0 : Nat} (q0 : σ.objs w0 = some ⟨78, 5, encL rInstr p0⟩) : ACalls Tryd.prog G 37 [.sl w0 0 p0.length, .int .i64 p1] σ (fun v σ' => ∃ M : Nat, σ.next ≤ M ∧ r.2.length = p0.length ∧ v = .int .i64 r.1 ∧ σ' = hp σ.objs [(w0, some ⟨78, 5, encL rInstr r.2⟩)] M) := by
 refine ACalls_fr (L := [(w0, some ⟨78, 5, encL rInstr p0⟩)]) (Q1 := fun v σ' => ∃ M : Nat, σ.next ≤ M ∧ r.2.length = p0.length ∧ v = .int .i64 r.1 ∧ σ' = hp E0 [(w0, some ⟨78, 5, encL rInstr r.2⟩)] M) (by simp [q0]) (fun hlt => ?_) ?_ ⟨_, Tryd.func37, rfl, rfl⟩
 rotate_left
 ·
  rintro v σ1 ⟨M, h0, h1, rfl, rfl⟩
  exact ⟨_, M, rfl, by simp, by simp; try omega, M, h0, h1, rfl, rfl⟩
 generalize σ.next = N0 at hlt ⊢
 have lw0 : w0 < N0 := hlt _ (.head _) rfl
 refine ACalls_fn tok Tryd.func37 (by kernel_rfl) rfl Tryd.ntmps37 Tryd.results37 rfl ?_
 simp only [argsA, Nat.reduceAdd, hp_next]
 unfold l_markInstrS at H
 refine AWP_sr tok [] [0, 1] (fun a σ => a = [(0, .sl w0 0 p0.length), (1, .int .i64 p1)] ∧ σ = hp E0 [(w0, some ⟨78, 5, encL rInstr p0⟩)] (N0 + 1)) (fun K hK => ?_) ?_
 ·
  simp -dsimp -implicitDefEqProofs (maxDischargeDepth := 6)
  exact hK _ _ ⟨rfl, rfl⟩
 rintro a σ ⟨rfl, rfl⟩
 refine AWP_sq [1] fun K1 hK1 => ?_
 refine AWP_sr tok [] [0, 1, 5] (fun a σ => a = [(0, .sl w0 0 p0.length), (1, .int .i64 p1), (5, .int .i64 0)] ∧ σ = hp E0 [(w0, some ⟨78, 5, encL rInstr p0⟩)] (N0 + 2)) (fun K hK => ?_) ?_
 ·
  simp -dsimp -implicitDefEqProofs (maxDischargeDepth := 6)
  exact hK _ _ ⟨rfl, rfl⟩
 rintro a σ ⟨rfl, rfl⟩
 refine AWP_block (AWP_thenB ?_)
 obtain ⟨e1, hse1, H⟩ := bindE H
 refine AWP_lp [0, 1, 5] (fun s a σ => ∃ M1 : Nat, N0 ≤ M1 ∧ s.2.2.length = p0.length ∧ a = [(0, .sl w0 0 s.2.2.length), (1, .int .i64 s.1), (5, .int .i64 s.2.1)] ∧ σ = hp E0 [(w0, some ⟨78, 5, encL rInstr s.2.2⟩)] M1) (fun s x a σ => x = .exit 0 ∧ Rc G 48 N0 (fun a σ => ∃ M2 : Nat, N0 ≤ M2 ∧ s.2.length = p0.length ∧ a = [(1, .int .i64 s.1)] ∧ σ = hp E0 [(w0, some ⟨78, 5, encL rInstr s.2⟩)] M2) (AAct.keep a [1]) σ) hse1 ?_ ?_ ?_
 ·
  refine Rc.kp [0, 1, 5] [(0, .sl w0 0 p0.length), (1, .int .i64 p1), (5, .int .i64 0)] rfl ?_
  exact Rc.fin (AHeap.Sub.refl _) ⟨N0 + 2, (by omega), (by first | rfl | exact rfl | omega), rfl, rfl⟩
 ·
  clear H hse1
  rintro ⟨s1, s2, s3⟩ fl a σ H ⟨M1, fM1_0, fM1_1, rfl, rfl⟩ K2 O2 hK2 hO2
  unfold l_markInstrS_L1 at H; dsimp only at H
  refine AWP_sq [0, 1, 5] fun K3 hK3 => ?_
  refine AWP_sr tok [] [0, 1, 5, 9] (fun a σ => a = [(0, .sl w0 0 s3.length), (1, .int .i64 s1), (5, .int .i64 s2), (9, .bool (ilt s2 (ilen s3)))] ∧ σ = hp E0 [(w0, some ⟨78, 5, encL rInstr s3⟩)] (M1 + 4)) (fun K hK => ?_) ?_
  ·
   simp -dsimp -implicitDefEqProofs (maxDischargeDepth := 6)
   exact hK _ _ ⟨rfl, rfl⟩
  rintro a σ ⟨rfl, rfl⟩
  refine AWP_cond (ilt s2 (ilen s3)) rfl (fun C1 => ?_) (fun C1 => ?_)
  ·
   replace H := ifT C1 H
   refine AWP_skip ?_
   show K3 _ _
   refine keepE (l := [0, 1, 5]) (x := [(0, .sl w0 0 s3.length), (1, .int .i64 s1), (5, .int .i64 s2)]) rfl fun a' ha => ?_
   refine hK3 _ _ ?_; rw [ha]
   refine Rc.mk ?_
   refine AWP_sq [0, 1, 5] fun K4 hK4 => ?_
   refine AWP_block (AWP_thenB ?_)
   obtain ⟨v6, hv6, H⟩ := bindE H
   obtain ⟨l7, hl7, H⟩ := bindE H
   refine AWP_sr tok [] [0, 1, 5] (fun a σ => a = [(0, .sl w0 0 s3.length), (1, .int .i64 s1), (5, .int .i64 s2)] ∧ σ = hp E0 [(w0, some ⟨78, 5, encL rInstr l7⟩)] (M1 + 10)) (fun K hK => ?_) ?_
   ·
    simp -dsimp -implicitDefEqProofs (maxDischargeDepth := 6) [ixo46 hv6, (idx_lt3 hv6).2.2, (setx_iff.1 hl7).2.symm]
    exact hK _ _ ⟨rfl, rfl⟩
   rintro a σ ⟨rfl, rfl⟩
   try rw [← setx_len hl7]
   refine AWP_sr tok [] [0, 1, 5] (fun a σ => a = [(0, .sl w0 0 l7.length), (1, .int .i64 (iadd .i64 s1 1)), (5, .int .i64 s2)] ∧ σ = hp E0 [(w0, some ⟨78, 5, encL rInstr l7⟩)] (M1 + 13)) (fun K hK => ?_) ?_
   ·
    simp -dsimp -implicitDefEqProofs (maxDischargeDepth := 6)
    exact hK _ _ ⟨rfl, rfl⟩
   rintro a σ ⟨rfl, rfl⟩
   obtain ⟨v8, hv8, H⟩ := bindE H
   obtain ⟨l9, hl9, H⟩ := bindE H
   refine AWP_sr tok [] [0, 1, 5] (fun a σ => a = [(0, .sl w0 0 l7.length), (1, .int .i64 (iadd .i64 s1 1)), (5, .int .i64 s2)] ∧ σ = hp E0 [(w0, some ⟨78, 5, encL rInstr l9⟩)] (M1 + 19)) (fun K hK => ?_) ?_
   ·
    simp -dsimp -implicitDefEqProofs (maxDischargeDepth := 6) [ixo46 hv8, (idx_lt3 hv8).2.2, (setx_iff.1 hl9).2.symm]
    exact hK _ _ ⟨rfl, rfl⟩
   rintro a σ ⟨rfl, rfl⟩
   try rw [← setx_len hl9]
   refine AWP_sr tok [] [0, 1, 5] (fun a σ => a = [(0, .sl w0 0 l9.length), (1, .int .i64 (iadd .i64 (iadd .i64 s1 1) 1)), (5, .int .i64 s2)] ∧ σ = hp E0 [(w0, some ⟨78, 5, encL rInstr l9⟩)] (M1 + 22)) (fun K hK => ?_) ?_
   ·
    simp -dsimp -implicitDefEqProofs (maxDischargeDepth := 6)
    exact hK _ _ ⟨rfl, rfl⟩
   rintro a σ ⟨rfl, rfl⟩
   obtain ⟨v10, hv10, H⟩ := bindE H
   obtain ⟨l11, hl11, H⟩ := bindE H
   refine AWP_sr tok [] [0, 1, 5] (fun a σ => a = [(0, .sl w0 0 l9.length), (1, .int .i64 (iadd .i64 (iadd .i64 s1 1) 1)), (5, .int .i64 s2)] ∧ σ = hp E0 [(w0, some ⟨78, 5, encL rInstr l11⟩)] (M1 + 28)) (fun K hK => ?_) ?_
   ·
    simp -dsimp -implicitDefEqProofs (maxDischargeDepth := 6) [ixo46 hv10, (idx_lt3 hv10).2.2, (setx_iff.1 hl11).2.symm]
    exact hK _ _ ⟨rfl, rfl⟩
   rintro a σ ⟨rfl, rfl⟩
   try rw [← setx_len hl11]
   refine AWP_sr tok [] [0, 1, 5] (fun a σ => a = [(0, .sl w0 0 l11.length), (1, .int .i64 (iadd .i64 (iadd .i64 (iadd .i64 s1 1) 1) 1)), (5, .int .i64 s2)] ∧ σ = hp E0 [(w0, some ⟨78, 5, encL rInstr l11⟩)] (M1 + 31)) (fun K hK => ?_) ?_
   ·
    simp -dsimp -implicitDefEqProofs (maxDischargeDepth := 6)
    exact hK _ _ ⟨rfl, rfl⟩
   rintro a σ ⟨rfl, rfl⟩
   obtain ⟨v12, hv12, H⟩ := bindE H
   obtain ⟨l13, hl13, H⟩ := bindE H
   refine AWP_sr tok [] [0, 1, 5] (fun a σ => a = [(0, .sl w0 0 l11.length), (1, .int .i64 (iadd .i64 (iadd .i64 (iadd .i64 s1 1) 1) 1)), (5, .int .i64 s2)] ∧ σ = hp E0 [(w0, some ⟨78, 5, encL rInstr l13⟩)] (M1 + 37)) (fun K hK => ?_) ?_
   ·
    simp -dsimp -implicitDefEqProofs (maxDischargeDepth := 6) [ixo46 hv12, (idx_lt3 hv12).2.2, (setx_iff.1 hl13).2.symm]
    exact hK _ _ ⟨rfl, rfl⟩
   rintro a σ ⟨rfl, rfl⟩
   try rw [← setx_len hl13]
   refine AWP_sr tok [] [0, 1, 5] (fun a σ => a = [(0, .sl w0 0 l13.length), (1, .int .i64 (iadd .i64 (iadd .i64 (iadd .i64 (iadd .i64 s1 1) 1) 1) 1)), (5, .int .i64 s2)] ∧ σ = hp E0 [(w0, some ⟨78, 5, encL rInstr l13⟩)] (M1 + 40)) (fun K hK => ?_) ?_
   ·
    simp -dsimp -implicitDefEqProofs (maxDischargeDepth := 6)
    exact hK _ _ ⟨rfl, rfl⟩
   rintro a σ ⟨rfl, rfl⟩
   obtain ⟨v14, hv14, H⟩ := bindE H
   obtain ⟨l15, hl15, H⟩ := bindE H
   refine AWP_sr tok [] [0, 1, 5] (fun a σ => a = [(0, .sl w0 0 l13.length), (1, .int .i64 (iadd .i64 (iadd .i64 (iadd .i64 (iadd .i64 s1 1) 1) 1) 1)), (5, .int .i64 s2)] ∧ σ = hp E0 [(w0, some ⟨78, 5, encL rInstr l15⟩)] (M1 + 46)) (fun K hK => ?_) ?_
   ·
    simp -dsimp -implicitDefEqProofs (maxDischargeDepth := 6) [ixo46 hv14, (idx_lt3 hv14).2.2, (setx_iff.1 hl15).2.symm]
    exact hK _ _ ⟨rfl, rfl⟩
   rintro a σ ⟨rfl, rfl⟩
   try rw [← setx_len hl15]
   refine AWP_rt tok [] [0, 1, 5] (fun a σ => a = [(0, .sl w0 0 l15.length), (1, .int .i64 (iadd .i64 (iadd .i64 (iadd .i64 (iadd .i64 (iadd .i64 s1 1) 1) 1) 1) 1)), (5, .int .i64 s2)] ∧ σ = hp E0 [(w0, some ⟨78, 5, encL rInstr l15⟩)] (M1 + 49)) (fun K hK => ?_) ?_
   ·
    simp -dsimp -implicitDefEqProofs (maxDischargeDepth := 6)
    exact hK _ _ ⟨rfl, rfl⟩
   rintro a σ ⟨ha, rfl⟩
   refine hK4 _ _ ?_; rw [ha]
   refine Rc.mk ?_
   refine AWP_rt tok [] [0, 1, 5] (fun a σ => a = [(0, .sl w0 0 l15.length), (1, .int .i64 (iadd .i64 (iadd .i64 (iadd .i64 (iadd .i64 (iadd .i64 s1 1) 1) 1) 1) 1)), (5, .int .i64 (iadd .i64 s2 1))] ∧ σ = hp E0 [(w0, some ⟨78, 5, encL rInstr l15⟩)] (M1 + 52)) (fun K hK => ?_) ?_
   ·
    simp -dsimp -implicitDefEqProofs (maxDischargeDepth := 6)
    exact hK _ _ ⟨rfl, rfl⟩
   rintro a σ ⟨ha, rfl⟩
   replace H := Option.some.inj H; subst H
   refine hK2 _ _ _ rfl ?_; rw [ha]
   exact Rc.fin (AHeap.Sub.refl _) ⟨M1 + 52, (by omega), (by first | rfl | exact ((setx_len hl15).trans ((setx_len hl13).trans ((setx_len hl11).trans ((setx_len hl9).trans ((setx_len hl7).trans fM1_1))))) | omega), rfl, rfl⟩
  ·
   replace H := ifF C1 H
   replace H := Option.some.inj H; subst H
   refine AWP_exit (hO2 _ _ _ _ rfl ⟨rfl, ?_⟩)
   refine Rc.rw (l := [1]) (X := [(1, .int .i64 s1)]) rfl ?_
   exact Rc.fin (AHeap.Sub.refl _) ⟨M1 + 4, (by omega), (by first | rfl | exact fM1_1 | omega), rfl, rfl⟩
 ·
  intro x a σ hx
  obtain ⟨y4, y5⟩ := e1
  obtain ⟨rfl, b, τ, hr, M2, fM2_0, fM2_1, rfl, rfl⟩ := hx
  dsimp only at H
  show K1 _ _
  refine hK1 _ _ (Rc_ref hr ?_)
  refine Rc.mk ?_
  refine AWP_sr tok [] [4] (fun a σ => a = [(4, .int .i64 y4)] ∧ σ = hp E0 [(w0, some ⟨78, 5, encL rInstr y5⟩)] (M2 + 2)) (fun K hK => ?_) ?_
  ·
   simp -dsimp -implicitDefEqProofs (maxDischargeDepth := 6)
   exact hK _ _ ⟨rfl, rfl⟩
  rintro a σ ⟨rfl, rfl⟩
  replace H := Option.some.inj H; subst H
  refine AWP_kp [4] [(4, .int .i64 y4)] rfl ?_
  refine AWP_ret ?_
  refine ⟨[.int .i64 y4], by simp, M2 + 2, by omega, by first | rfl | exact fM2_1 | omega, ?_, ?_⟩
  ·
   simp [encL_nil]
  ·
   first | rfl | simp [List.set_set]
theorem c14 {p0 : (List (List gInstr))} {p1 : Int} {r : Int × (List (List gInstr))} (H : l_markInstrSS p0 p1 = some r) {σ : AHeap} {w0 : Nat} (q0 : σ.objs w0 = some ⟨46, 1, encL rL_Instr_o p0⟩) : ACalls Tryd.prog G 14 [.sl w0 0 p0.length, .int .i64 p1] σ (fun v σ' => ∃ M : Nat, σ.next ≤ M ∧ r.2.length = p0.length ∧ v = .int .i64 r.1 ∧ σ' = hp σ.objs [(w0, some ⟨46, 1, encL rL_Instr_o r.2⟩)] M) := by
 refine ACalls_fr (L := [(w0, some ⟨46, 1, encL rL_Instr_o p0⟩)]) (Q1 := fun v σ' => ∃ M : Nat, σ.next ≤ M ∧ r.2.length = p0.length ∧ v = .int .i64 r.1 ∧ σ' = hp E0 [(w0, some ⟨46, 1, encL rL_Instr_o r.2⟩)] M) (by simp [q0]) (fun hlt => ?_) ?_ ⟨_, Tryd.func14, rfl, rfl⟩
 rotate_left
 ·
  rintro v σ1 ⟨M, h0, h1, rfl, rfl⟩
  exact ⟨_, M, rfl, by simp, by simp; try omega, M, h0, h1, rfl, rfl⟩
 generalize σ.next = N0 at hlt ⊢
 have lw0 : w0 < N0 := hlt _ (.head _) rfl
 refine ACalls_fn tok Tryd.func14 (by kernel_rfl) rfl Tryd.ntmps14 Tryd.results14 rfl ?_
 simp only [argsA, Nat.reduceAdd, hp_next]
 unfold l_markInstrSS at H
 refine AWP_sr tok [] [0, 1] (fun a σ => a = [(0, .sl w0 0 p0.length), (1, .int .i64 p1)] ∧ σ = hp E0 [(w0, some ⟨46, 1, encL rL_Instr_o p0⟩)] (N0 + 1)) (fun K hK => ?_) ?_
 ·
  simp -dsimp -implicitDefEqProofs (maxDischargeDepth := 6)
  exact hK _ _ ⟨rfl, rfl⟩
 rintro a σ ⟨rfl, rfl⟩
 refine AWP_sq [1] fun K1 hK1 => ?_
 refine AWP_sr tok [] [0, 1, 5] (fun a σ => a = [(0, .sl w0 0 p0.length), (1, .int .i64 p1), (5, .int .i64 0)] ∧ σ = hp E0 [(w0, some ⟨46, 1, encL rL_Instr_o p0⟩)] (N0 + 2)) (fun K hK => ?_) ?_
 ·
  simp -dsimp -implicitDefEqProofs (maxDischargeDepth := 6)
  exact hK _ _ ⟨rfl, rfl⟩
 rintro a σ ⟨rfl, rfl⟩
 refine AWP_block (AWP_thenB ?_)
 obtain ⟨e1, hse1, H⟩ := bindE H
 refine AWP_lp [0, 1, 5] (fun s a σ => ∃ M1 : Nat, N0 ≤ M1 ∧ s.2.2.length = p0.length ∧ a = [(0, .sl w0 0 s.2.2.length), (1, .int .i64 s.1), (5, .int .i64 s.2.1)] ∧ σ = hp E0 [(w0, some ⟨46, 1, encL rL_Instr_o s.2.2⟩)] M1) (fun s x a σ => x = .exit 0 ∧ Rc G 19 N0 (fun a σ => ∃ M2 : Nat, N0 ≤ M2 ∧ s.2.length = p0.length ∧ a = [(1, .int .i64 s.1)] ∧ σ = hp E0 [(w0, some ⟨46, 1, encL rL_Instr_o s.2⟩)] M2) (AAct.keep a [1]) σ) hse1 ?_ ?_ ?_
 ·
  refine Rc.kp [0, 1, 5] [(0, .sl w0 0 p0.length), (1, .int .i64 p1), (5, .int .i64 0)] rfl ?_
  exact Rc.fin (AHeap.Sub.refl _) ⟨N0 + 2, (by omega), (by first | rfl | exact rfl | omega), rfl, rfl⟩
 ·
  clear H hse1
  rintro ⟨s1, s2, s3⟩ fl a σ H ⟨M1, fM1_0, fM1_1, rfl, rfl⟩ K2 O2 hK2 hO2
  unfold l_markInstrSS_L1 at H; dsimp only at H
  refine AWP_sq [0, 1, 5] fun K3 hK3 => ?_
  refine AWP_sr tok [] [0, 1, 5, 9] (fun a σ => a = [(0, .sl w0 0 s3.length), (1, .int .i64 s1), (5, .int .i64 s2), (9, .bool (ilt s2 (ilen s3)))] ∧ σ = hp E0 [(w0, some ⟨46, 1, encL rL_Instr_o s3⟩)] (M1 + 4)) (fun K hK => ?_) ?_
  ·
   simp -dsimp -implicitDefEqProofs (maxDischargeDepth := 6)
   exact hK _ _ ⟨rfl, rfl⟩
  rintro a σ ⟨rfl, rfl⟩
  refine AWP_cond (ilt s2 (ilen s3)) rfl (fun C1 => ?_) (fun C1 => ?_)
  ·
   replace H := ifT C1 H
   refine AWP_skip ?_
   show K3 _ _
   refine keepE (l := [0, 1, 5]) (x := [(0, .sl w0 0 s3.length), (1, .int .i64 s1), (5, .int .i64 s2)]) rfl fun a' ha => ?_
   refine hK3 _ _ ?_; rw [ha]
   refine Rc.mk ?_
   refine AWP_sq [0, 1, 5] fun K4 hK4 => ?_
   refine AWP_block (AWP_thenB ?_)
   obtain ⟨v6, hv6, H⟩ := bindE H
   refine gUnp AWP_ref (ty := 78) (sz := 5) (es := encL rInstr v6) (o := w0) (ob := ⟨46, 1, encL rL_Instr_o s3⟩) (row := [.osl 78 5 (encL rInstr v6)]) (r := s2.toNat) (i := 0) [(w0, some ⟨46, 1, (encL rL_Instr_o s3).set s2.toNat [.sl (M1 + 4) 0 v6.length]⟩), (M1 + 4, some ⟨78, 5, encL rInstr v6⟩)] (by simp (disch := omega)) (encL_at rL_Instr_o hv6) rfl (by simp (disch := omega) [List.set_set]) ?_
   obtain ⟨r7, hr7, H⟩ := bindE H
   refine AWP_rt tok [] [0, 1, 5] (fun a σ => ∃ M3 : Nat, M1 + 12 ≤ M3 ∧ r7.2.length = v6.length ∧ a = [(0, .sl w0 0 s3.length), (1, .int .i64 r7.1), (5, .int .i64 s2)] ∧ σ = hp E0 [(w0, some ⟨46, 1, (encL rL_Instr_o s3).set s2.toNat [.sl (M1 + 4) 0 v6.length]⟩), (M1 + 4, some ⟨78, 5, encL rInstr r7.2⟩)] M3) (fun K hK => ?_) ?_
   ·
    have e0 := nq (a := w0) (b := M1 + 4) (by omega)
    simp -dsimp -implicitDefEqProofs (maxDischargeDepth := 6) [e0, (gset hv6 _), List.set_set, ixo32 hv6, (idx_lt3 hv6).2.2]
    refine (c37 (H := hr7) (by simp [e0, (gset hv6 _), List.set_set, ixo32 hv6, (idx_lt3 hv6).2.2])).mono ?_; rintro _ _ ⟨M3, fM3_0, fM3_1, rfl, rfl⟩; simp only [hp_next] at fM3_0
    try simp -dsimp -implicitDefEqProofs (maxDischargeDepth := 6) [e0, (gset hv6 _), List.set_set, ixo32 hv6, (idx_lt3 hv6).2.2, hp_over_some, hp_over_none]
    exact hK _ _ ⟨M3, (by omega), fM3_1, rfl, rfl⟩
   rintro a σ ⟨M3, fM3_0, fM3_1, ha, rfl⟩
   (try rw [← fM3_1] at ha); (try rw [← fM3_1])
   refine hK4 _ _ ?_; rw [ha]
   refine Rc.mk ?_
   refine AWP_rt tok [] [0, 1, 5] (fun a σ => a = [(0, .sl w0 0 s3.length), (1, .int .i64 r7.1), (5, .int .i64 (iadd .i64 s2 1))] ∧ σ = hp E0 [(w0, some ⟨46, 1, (encL rL_Instr_o s3).set s2.toNat [.sl (M1 + 4) 0 r7.2.length]⟩), (M1 + 4, some ⟨78, 5, encL rInstr r7.2⟩)] (M3 + 3)) (fun K hK => ?_) ?_
   ·
    have e0 := nq (a := w0) (b := M1 + 4) (by omega)
    simp -dsimp -implicitDefEqProofs (maxDischargeDepth := 6) [e0, (gset hv6 _), List.set_set]
    exact hK _ _ ⟨rfl, rfl⟩
   rintro a σ ⟨ha, rfl⟩
   obtain ⟨l8, hl8, H⟩ := bindE H
   replace H := Option.some.inj H; subst H
   refine hK2 _ _ _ rfl ?_; rw [ha]
   refine gPk Rc_ref (k := r7.2.length) (o := w0) (ob := ⟨46, 1, (encL rL_Instr_o s3).set s2.toNat [.sl (M1 + 4) 0 r7.2.length]⟩) (row := [.sl (M1 + 4) 0 r7.2.length]) (d := (M1 + 4)) (obd := ⟨78, 5, encL rInstr r7.2⟩) (r := s2.toNat) (i := 0) [(w0, some ⟨46, 1, (encL rL_Instr_o s3).set s2.toNat [.osl 78 5 (encL rInstr r7.2)]⟩)] (by simp (disch := omega)) (gset hv6 _) rfl (by simp (disch := omega)) (by simp (disch := omega)) (by first | omega | simp) (by simp (disch := omega) [List.set_set, app_set] <;> omega) (by simp (disch := omega) [List.set_set, app_set]) ?_
   rw [show hp E0 [(w0, some ⟨46, 1, (encL rL_Instr_o s3).set s2.toNat [.osl 78 5 (encL rInstr r7.2)]⟩)] (M3 + 3) = hp E0 [(w0, some ⟨46, 1, encL rL_Instr_o l8⟩)] (M3 + 3) from by rw [(setx_iff.1 hl8).2, ← encL_set]; rfl]; (try rw [← setx_len hl8])
   exact Rc.fin (AHeap.Sub.refl _) ⟨M3 + 3, (by omega), (by first | rfl | exact ((setx_len hl8).trans fM1_1) | omega), rfl, rfl⟩
  ·
   replace H := ifF C1 H
   replace H := Option.some.inj H; subst H
   refine AWP_exit (hO2 _ _ _ _ rfl ⟨rfl, ?_⟩)
   refine Rc.rw (l := [1]) (X := [(1, .int .i64 s1)]) rfl ?_
   exact Rc.fin (AHeap.Sub.refl _) ⟨M1 + 4, (by omega), (by first | rfl | exact fM1_1 | omega), rfl, rfl⟩
 ·
  intro x a σ hx
  obtain ⟨y4, y5⟩ := e1
  obtain ⟨rfl, b, τ, hr, M2, fM2_0, fM2_1, rfl, rfl⟩ := hx
  dsimp only at H
  show K1 _ _
  refine hK1 _ _ (Rc_ref hr ?_)
  refine Rc.mk ?_
  refine AWP_sr tok [] [4] (fun a σ => a = [(4, .int .i64 y4)] ∧ σ = hp E0 [(w0, some ⟨46, 1, encL rL_Instr_o y5⟩)] (M2 + 2)) (fun K hK => ?_) ?_
  ·
   simp -dsimp -implicitDefEqProofs (maxDischargeDepth := 6)
   exact hK _ _ ⟨rfl, rfl⟩
  rintro a σ ⟨rfl, rfl⟩
  replace H := Option.some.inj H; subst H
  refine AWP_kp [4] [(4, .int .i64 y4)] rfl ?_
  refine AWP_ret ?_
  refine ⟨[.int .i64 y4], by simp, M2 + 2, by omega, by first | rfl | exact fM2_1 | omega, ?_, ?_⟩
  ·
   simp [encL_nil]
  ·
   first | rfl | simp [List.set_set]
theorem c30_o {p0 : (List gInstr)} {r : (List gInstr)} (H : l_toInstrS_o p0 = some r) {σ : AHeap} : ACalls Tryd.prog G 30 [.fsl (encL rInstr p0)] σ (fun v σ' => ∃ M n0 : Nat, σ.next ≤ M ∧ σ.next ≤ n0 ∧ n0 < M ∧ v = .sl n0 0 r.length ∧ σ' = hp σ.objs [(n0, some ⟨78, 5, encL rInstr r⟩)] M) := by
 refine ACalls_fr (L := []) (Q1 := fun v σ' => ∃ M n0 : Nat, σ.next ≤ M ∧ σ.next ≤ n0 ∧ n0 < M ∧ v = .sl n0 0 r.length ∧ σ' = hp E0 [(n0, some ⟨78, 5, encL rInstr r⟩)] M) (by simp []) (fun hlt => ?_) ?_ ⟨_, Tryd.func30, rfl, rfl⟩
 rotate_left
 ·
  rintro v σ1 ⟨M, n0, h0, h1, h2, rfl, rfl⟩
  exact ⟨_, M, rfl, by simp, by simp; try omega, M, n0, h0, h1, h2, rfl, rfl⟩
 generalize σ.next = N0 at hlt ⊢
 refine ACalls_fn tok Tryd.func30 (by kernel_rfl) rfl Tryd.ntmps30 Tryd.results30 rfl ?_
 simp only [argsA, Nat.reduceAdd, hp_next]
 unfold l_toInstrS_o at H
 refine AWP_sr tok [] [0] (fun a σ => a = [(0, .fsl (encL rInstr p0))] ∧ σ = hp E0 [] (N0 + 1)) (fun K hK => ?_) ?_
 ·
  simp -dsimp -implicitDefEqProofs (maxDischargeDepth := 6)
  exact hK _ _ ⟨rfl, rfl⟩
 rintro a σ ⟨rfl, rfl⟩
 obtain ⟨l1, hl1, H⟩ := bindE H
 refine AWP_sr tok [] [0, 3] (fun a σ => a = [(0, .fsl (encL rInstr p0)), (3, .sl (N0 + 3) 0 l1.length)] ∧ σ = hp E0 [(N0 + 3, some ⟨78, 5, encL rInstr l1⟩)] (N0 + 5)) (fun K hK => ?_) ?_
 ·
  simp -dsimp -implicitDefEqProofs (maxDischargeDepth := 6) [mak46 hl1]
  exact hK _ _ ⟨rfl, rfl⟩
 rintro a σ ⟨rfl, rfl⟩
 refine AWP_sq [3] fun K1 hK1 => ?_
 refine AWP_sr tok [] [0, 3, 4] (fun a σ => a = [(0, .fsl (encL rInstr p0)), (3, .sl (N0 + 3) 0 l1.length), (4, .int .i64 0)] ∧ σ = hp E0 [(N0 + 3, some ⟨78, 5, encL rInstr l1⟩)] (N0 + 6)) (fun K hK => ?_) ?_
 ·
  simp -dsimp -implicitDefEqProofs (maxDischargeDepth := 6)
  exact hK _ _ ⟨rfl, rfl⟩
 rintro a σ ⟨rfl, rfl⟩
 refine AWP_block (AWP_thenB ?_)
 obtain ⟨e1, hse1, H⟩ := bindE H
 refine AWP_lp [0, 3, 4] (fun s a σ => ∃ M1 o1 : Nat, N0 ≤ M1 ∧ N0 ≤ o1 ∧ o1 < M1 ∧ a = [(0, .fsl (encL rInstr p0)), (3, .sl o1 0 s.2.length), (4, .int .i64 s.1)] ∧ σ = hp E0 [(o1, some ⟨78, 5, encL rInstr s.2⟩)] M1) (fun s x a σ => x = .exit 0 ∧ Rc G 23 N0 (fun a σ => ∃ M2 o2 : Nat, N0 ≤ M2 ∧ N0 ≤ o2 ∧ o2 < M2 ∧ a = [(3, .sl o2 0 s.length)] ∧ σ = hp E0 [(o2, some ⟨78, 5, encL rInstr s⟩)] M2) (AAct.keep a [3]) σ) hse1 ?_ ?_ ?_
 ·
  refine Rc.kp [0, 3, 4] [(0, .fsl (encL rInstr p0)), (3, .sl (N0 + 3) 0 l1.length), (4, .int .i64 0)] rfl ?_
  exact Rc.fin (AHeap.Sub.refl _) ⟨N0 + 6, (N0 + 3), (by omega), (by omega), (by omega), rfl, rfl⟩
 ·
  clear H hse1
  rintro ⟨s2, s3⟩ fl a σ H ⟨M1, o1, fM1_0, fM1_1, fM1_2, rfl, rfl⟩ K2 O2 hK2 hO2
  unfold l_toInstrS_o_L1 at H; dsimp only at H
  refine AWP_sq [0, 3, 4] fun K3 hK3 => ?_
  refine AWP_sr tok [] [0, 3, 4, 11] (fun a σ => a = [(0, .fsl (encL rInstr p0)), (3, .sl o1 0 s3.length), (4, .int .i64 s2), (11, .bool (ilt s2 (ilen p0)))] ∧ σ = hp E0 [(o1, some ⟨78, 5, encL rInstr s3⟩)] (M1 + 4)) (fun K hK => ?_) ?_
  ·
   simp -dsimp -implicitDefEqProofs (maxDischargeDepth := 6)
   exact hK _ _ ⟨rfl, rfl⟩
  rintro a σ ⟨rfl, rfl⟩
  refine AWP_cond (ilt s2 (ilen p0)) rfl (fun C1 => ?_) (fun C1 => ?_)
  ·
   replace H := ifT C1 H
   refine AWP_skip ?_
   show K3 _ _
   refine keepE (l := [0, 3, 4]) (x := [(0, .fsl (encL rInstr p0)), (3, .sl o1 0 s3.length), (4, .int .i64 s2)]) rfl fun a' ha => ?_
   refine hK3 _ _ ?_; rw [ha]
   refine Rc.mk ?_
   refine AWP_sq [0, 3, 4] fun K4 hK4 => ?_
   refine AWP_block (AWP_thenB ?_)
   obtain ⟨v5, hv5, H⟩ := bindE H
   obtain ⟨r6, hr6, H⟩ := bindE H
   obtain ⟨v7, hv7, H⟩ := bindE H
   obtain ⟨l8, hl8, H⟩ := bindE H
   refine AWP_rt tok [] [0, 3, 4] (fun a σ => a = [(0, .fsl (encL rInstr p0)), (3, .sl o1 0 s3.length), (4, .int .i64 s2)] ∧ σ = hp E0 [(o1, some ⟨78, 5, encL rInstr l8⟩)] (M1 + 13)) (fun K hK => ?_) ?_
   ·
    simp -dsimp -implicitDefEqProofs (maxDischargeDepth := 6) [ix60 hv5, ixo46 hv7, (idx_lt3 hv7).2.2, (setx_iff.1 hl8).2.symm]
    refine (c58 hr6).app ?_; try simp -dsimp -implicitDefEqProofs (maxDischargeDepth := 6) [ix60 hv5, ixo46 hv7, (idx_lt3 hv7).2.2, (setx_iff.1 hl8).2.symm]
    exact hK _ _ ⟨rfl, rfl⟩
   rintro a σ ⟨ha, rfl⟩
   (try rw [← setx_len hl8] at ha); (try rw [← setx_len hl8])
   refine hK4 _ _ ?_; rw [ha]
   refine Rc.mk ?_
   refine AWP_rt tok [] [0, 3, 4] (fun a σ => a = [(0, .fsl (encL rInstr p0)), (3, .sl o1 0 l8.length), (4, .int .i64 (iadd .i64 s2 1))] ∧ σ = hp E0 [(o1, some ⟨78, 5, encL rInstr l8⟩)] (M1 + 16)) (fun K hK => ?_) ?_
   ·
    simp -dsimp -implicitDefEqProofs (maxDischargeDepth := 6)
    exact hK _ _ ⟨rfl, rfl⟩
   rintro a σ ⟨ha, rfl⟩
   replace H := Option.some.inj H; subst H
   refine hK2 _ _ _ rfl ?_; rw [ha]
   exact Rc.fin (AHeap.Sub.refl _) ⟨M1 + 16, o1, (by omega), (by omega), (by omega), rfl, rfl⟩
  ·
   replace H := ifF C1 H
   replace H := Option.some.inj H; subst H
   refine AWP_exit (hO2 _ _ _ _ rfl ⟨rfl, ?_⟩)
   refine Rc.rw (l := [3]) (X := [(3, .sl o1 0 s3.length)]) rfl ?_
   exact Rc.fin (AHeap.Sub.refl _) ⟨M1 + 4, o1, (by omega), (by omega), (by omega), rfl, rfl⟩
 ·
  intro x a σ hx
  obtain ⟨y4, rfl⟩ : ∃ x, x = e1 := ⟨_, rfl⟩
  obtain ⟨rfl, b, τ, hr, M2, o2, fM2_0, fM2_1, fM2_2, rfl, rfl⟩ := hx
  dsimp only at H
  show K1 _ _
  refine hK1 _ _ (Rc_ref hr ?_)
  refine Rc.mk ?_
  refine AWP_sr tok [] [2] (fun a σ => a = [(2, .sl o2 0 y4.length)] ∧ σ = hp E0 [(o2, some ⟨78, 5, encL rInstr y4⟩)] (M2 + 2)) (fun K hK => ?_) ?_
  ·
   simp -dsimp -implicitDefEqProofs (maxDischargeDepth := 6)
   exact hK _ _ ⟨rfl, rfl⟩
  rintro a σ ⟨rfl, rfl⟩
  replace H := Option.some.inj H; subst H
  refine AWP_kp [2] [(2, .sl o2 0 y4.length)] rfl ?_
  refine AWP_ret ?_
  refine ⟨[.sl o2 0 y4.length], by simp, M2 + 2, o2, by omega, by omega, by omega, ?_, ?_⟩
  ·
   simp [encL_nil]
  ·
   first | rfl | simp [List.set_set]
theorem c8_o2 {p0 : (List (List gInstr))} {r : (List (List gInstr))} (H : l_toInstrSS_o2 p0 = some r) {σ : AHeap} : ACalls Tryd.prog G 8 [.fsl (encL rL_Instr p0)] σ (fun v σ' => ∃ M n0 : Nat, σ.next ≤ M ∧ σ.next ≤ n0 ∧ n0 < M ∧ v = .sl n0 0 r.length ∧ σ' = hp σ.objs [(n0, some ⟨46, 1, encL rL_Instr_o r⟩)] M) := by
 refine ACalls_fr (L := []) (Q1 := fun v σ' => ∃ M n0 : Nat, σ.next ≤ M ∧ σ.next ≤ n0 ∧ n0 < M ∧ v = .sl n0 0 r.length ∧ σ' = hp E0 [(n0, some ⟨46, 1, encL rL_Instr_o r⟩)] M) (by simp []) (fun hlt => ?_) ?_ ⟨_, Tryd.func8, rfl, rfl⟩
 rotate_left
 ·
  rintro v σ1 ⟨M, n0, h0, h1, h2, rfl, rfl⟩
  exact ⟨_, M, rfl, by simp, by simp; try omega, M, n0, h0, h1, h2, rfl, rfl⟩
 generalize σ.next = N0 at hlt ⊢
 refine ACalls_fn tok Tryd.func8 (by kernel_rfl) rfl Tryd.ntmps8 Tryd.results8 rfl ?_
 simp only [argsA, Nat.reduceAdd, hp_next]
 unfold l_toInstrSS_o2 at H
 refine AWP_sr tok [] [0] (fun a σ => a = [(0, .fsl (encL rL_Instr p0))] ∧ σ = hp E0 [] (N0 + 1)) (fun K hK => ?_) ?_
 ·
  simp -dsimp -implicitDefEqProofs (maxDischargeDepth := 6)
  exact hK _ _ ⟨rfl, rfl⟩
 rintro a σ ⟨rfl, rfl⟩
 obtain ⟨l1, hl1, H⟩ := bindE H
 refine AWP_sr tok [] [0, 3] (fun a σ => a = [(0, .fsl (encL rL_Instr p0)), (3, .sl (N0 + 3) 0 l1.length)] ∧ σ = hp E0 [(N0 + 3, some ⟨46, 1, List.replicate (Int.toNat (ilen p0)) [.nilsl]⟩)] (N0 + 5)) (fun K hK => ?_) ?_
 ·
  simp -dsimp -implicitDefEqProofs (maxDischargeDepth := 6) [makr32 hl1]
  exact hK _ _ ⟨rfl, rfl⟩
 rintro a σ ⟨rfl, rfl⟩
 refine AWP_sq [3] fun K1 hK1 => ?_
 refine gRep AWP_ref (o := (N0 + 3)) (ty := 46) (sz := 1) (m := Int.toNat (ilen p0)) (c := [.nilsl]) (c' := [.osl 78 5 []]) (.own .nil) [(N0 + 3, some ⟨46, 1, encL rL_Instr_o l1⟩)] (by simp (disch := omega)) (by rw [mak_rep (f := rL_Instr_o) (c := [.osl 78 5 []]) hl1 rfl]; simp) ?_
 refine AWP_sr tok [] [0, 3, 4] (fun a σ => a = [(0, .fsl (encL rL_Instr p0)), (3, .sl (N0 + 3) 0 l1.length), (4, .int .i64 0)] ∧ σ = hp E0 [(N0 + 3, some ⟨46, 1, encL rL_Instr_o l1⟩)] (N0 + 6)) (fun K hK => ?_) ?_
 ·
  simp -dsimp -implicitDefEqProofs (maxDischargeDepth := 6)
  exact hK _ _ ⟨rfl, rfl⟩
 rintro a σ ⟨rfl, rfl⟩
 refine AWP_block (AWP_thenB ?_)
 obtain ⟨e1, hse1, H⟩ := bindE H
 refine AWP_lp [0, 3, 4] (fun s a σ => ∃ M1 o1 : Nat, N0 ≤ M1 ∧ N0 ≤ o1 ∧ o1 < M1 ∧ a = [(0, .fsl (encL rL_Instr p0)), (3, .sl o1 0 s.2.length), (4, .int .i64 s.1)] ∧ σ = hp E0 [(o1, some ⟨46, 1, encL rL_Instr_o s.2⟩)] M1) (fun s x a σ => x = .exit 0 ∧ Rc G 23 N0 (fun a σ => ∃ M2 o2 : Nat, N0 ≤ M2 ∧ N0 ≤ o2 ∧ o2 < M2 ∧ a = [(3, .sl o2 0 s.length)] ∧ σ = hp E0 [(o2, some ⟨46, 1, encL rL_Instr_o s⟩)] M2) (AAct.keep a [3]) σ) hse1 ?_ ?_ ?_
 ·
  refine Rc.kp [0, 3, 4] [(0, .fsl (encL rL_Instr p0)), (3, .sl (N0 + 3) 0 l1.length), (4, .int .i64 0)] rfl ?_
  exact Rc.fin (AHeap.Sub.refl _) ⟨N0 + 6, (N0 + 3), (by omega), (by omega), (by omega), rfl, rfl⟩
 ·
  clear H hse1
  rintro ⟨s2, s3⟩ fl a σ H ⟨M1, o1, fM1_0, fM1_1, fM1_2, rfl, rfl⟩ K2 O2 hK2 hO2
  unfold l_toInstrSS_o2_L1 at H; dsimp only at H
  refine AWP_sq [0, 3, 4] fun K3 hK3 => ?_
  refine AWP_sr tok [] [0, 3, 4, 11] (fun a σ => a = [(0, .fsl (encL rL_Instr p0)), (3, .sl o1 0 s3.length), (4, .int .i64 s2), (11, .bool (ilt s2 (ilen p0)))] ∧ σ = hp E0 [(o1, some ⟨46, 1, encL rL_Instr_o s3⟩)] (M1 + 4)) (fun K hK => ?_) ?_
  ·
   simp -dsimp -implicitDefEqProofs (maxDischargeDepth := 6)
   exact hK _ _ ⟨rfl, rfl⟩
  rintro a σ ⟨rfl, rfl⟩
  refine AWP_cond (ilt s2 (ilen p0)) rfl (fun C1 => ?_) (fun C1 => ?_)
  ·
   replace H := ifT C1 H
   refine AWP_skip ?_
   show K3 _ _
   refine keepE (l := [0, 3, 4]) (x := [(0, .fsl (encL rL_Instr p0)), (3, .sl o1 0 s3.length), (4, .int .i64 s2)]) rfl fun a' ha => ?_
   refine hK3 _ _ ?_; rw [ha]
   refine Rc.mk ?_
   refine AWP_sq [0, 3, 4] fun K4 hK4 => ?_
   refine AWP_block (AWP_thenB ?_)
   obtain ⟨v5, hv5, H⟩ := bindE H
   obtain ⟨r6, hr6, H⟩ := bindE H
   obtain ⟨v7, hv7, H⟩ := bindE H
   refine AWP_rt tok [] [0, 3, 4] (fun a σ => ∃ M3 o3 : Nat, M1 + 13 ≤ M3 ∧ M1 + 13 ≤ o3 ∧ o3 < M3 ∧ a = [(0, .fsl (encL rL_Instr p0)), (3, .sl o1 0 s3.length), (4, .int .i64 s2)] ∧ σ = hp E0 [(o1, some ⟨46, 1, (encL rL_Instr_o s3).set s2.toNat [.sl o3 0 r6.length]⟩), (o3, some ⟨78, 5, encL rInstr r6⟩)] M3) (fun K hK => ?_) ?_
   ·
    simp -dsimp -implicitDefEqProofs (maxDischargeDepth := 6) [ix23 hv5, ixo32 hv7, (idx_lt3 hv7).2.2]
    refine (c30_o (H := hr6) ).mono ?_; rintro _ _ ⟨M3, o3, fM3_0, fM3_1, fM3_2, rfl, rfl⟩; simp only [hp_next] at fM3_0 fM3_1 fM3_2
    have eM3_0 := nq (a := o3) (b := o1) (by omega)
    try simp -dsimp -implicitDefEqProofs (maxDischargeDepth := 6) [ix23 hv5, ixo32 hv7, (idx_lt3 hv7).2.2, eM3_0, hp_over_some, hp_over_none]
    exact hK _ _ ⟨M3, o3, (by omega), (by omega), (by omega), rfl, rfl⟩
   rintro a σ ⟨M3, o3, fM3_0, fM3_1, fM3_2, ha, rfl⟩
   refine hK4 _ _ ?_; rw [ha]
   refine Rc.mk ?_
   refine AWP_rt tok [] [0, 3, 4] (fun a σ => a = [(0, .fsl (encL rL_Instr p0)), (3, .sl o1 0 s3.length), (4, .int .i64 (iadd .i64 s2 1))] ∧ σ = hp E0 [(o1, some ⟨46, 1, (encL rL_Instr_o s3).set s2.toNat [.sl o3 0 r6.length]⟩), (o3, some ⟨78, 5, encL rInstr r6⟩)] (M3 + 3)) (fun K hK => ?_) ?_
   ·
    have e0 := nq (a := o1) (b := o3) (by omega)
    simp -dsimp -implicitDefEqProofs (maxDischargeDepth := 6) [e0, (gset hv7 _), List.set_set]
    exact hK _ _ ⟨rfl, rfl⟩
   rintro a σ ⟨ha, rfl⟩
   obtain ⟨l8, hl8, H⟩ := bindE H
   replace H := Option.some.inj H; subst H
   refine hK2 _ _ _ rfl ?_; rw [ha]
   refine gPk Rc_ref (k := r6.length) (o := o1) (ob := ⟨46, 1, (encL rL_Instr_o s3).set s2.toNat [.sl o3 0 r6.length]⟩) (row := [.sl o3 0 r6.length]) (d := o3) (obd := ⟨78, 5, encL rInstr r6⟩) (r := s2.toNat) (i := 0) [(o1, some ⟨46, 1, (encL rL_Instr_o s3).set s2.toNat [.osl 78 5 (encL rInstr r6)]⟩)] (by simp (disch := omega)) (gset hv7 _) rfl (by simp (disch := omega)) (by simp (disch := omega)) (by first | omega | simp) (by simp (disch := omega) [List.set_set, app_set] <;> omega) (by simp (disch := omega) [List.set_set, app_set]) ?_
   rw [show hp E0 [(o1, some ⟨46, 1, (encL rL_Instr_o s3).set s2.toNat [.osl 78 5 (encL rInstr r6)]⟩)] (M3 + 3) = hp E0 [(o1, some ⟨46, 1, encL rL_Instr_o l8⟩)] (M3 + 3) from by rw [(setx_iff.1 hl8).2, ← encL_set]; rfl]; (try rw [← setx_len hl8])
   exact Rc.fin (AHeap.Sub.refl _) ⟨M3 + 3, o1, (by omega), (by omega), (by omega), rfl, rfl⟩
  ·
   replace H := ifF C1 H
   replace H := Option.some.inj H; subst H
   refine AWP_exit (hO2 _ _ _ _ rfl ⟨rfl, ?_⟩)
   refine Rc.rw (l := [3]) (X := [(3, .sl o1 0 s3.length)]) rfl ?_
   exact Rc.fin (AHeap.Sub.refl _) ⟨M1 + 4, o1, (by omega), (by omega), (by omega), rfl, rfl⟩
 ·
  intro x a σ hx
  obtain ⟨y4, rfl⟩ : ∃ x, x = e1 := ⟨_, rfl⟩
  obtain ⟨rfl, b, τ, hr, M2, o2, fM2_0, fM2_1, fM2_2, rfl, rfl⟩ := hx
  dsimp only at H
  show K1 _ _
  refine hK1 _ _ (Rc_ref hr ?_)
  refine Rc.mk ?_
  refine AWP_sr tok [] [2] (fun a σ => a = [(2, .sl o2 0 y4.length)] ∧ σ = hp E0 [(o2, some ⟨46, 1, encL rL_Instr_o y4⟩)] (M2 + 2)) (fun K hK => ?_) ?_
  ·
   simp -dsimp -implicitDefEqProofs (maxDischargeDepth := 6)
   exact hK _ _ ⟨rfl, rfl⟩
  rintro a σ ⟨rfl, rfl⟩
  replace H := Option.some.inj H; subst H
  refine AWP_kp [2] [(2, .sl o2 0 y4.length)] rfl ?_
  refine AWP_ret ?_
  refine ⟨[.sl o2 0 y4.length], by simp, M2 + 2, o2, by omega, by omega, by omega, ?_, ?_⟩
  ·
   simp [encL_nil]
  ·
   first | rfl | simp [List.set_set]
theorem c38 {p0 : (List gMachine)} {p1 : Int} {r : Int × (List gMachine)} (H : l_markMachineS p0 p1 = some r) {σ : AHeap} {w0 : Nat} (q0 : σ.objs w0 = some ⟨53, 3, encL rMachine_oo p0⟩) : ACalls Tryd.prog G 38 [.sl w0 0 p0.length, .int .i64 p1] σ (fun v σ' => ∃ M : Nat, σ.next ≤ M ∧ r.2.length = p0.length ∧ v = .int .i64 r.1 ∧ σ' = hp σ.objs [(w0, some ⟨53, 3, encL rMachine_oo r.2⟩)] M) := by
 refine ACalls_fr (L := [(w0, some ⟨53, 3, encL rMachine_oo p0⟩)]) (Q1 := fun v σ' => ∃ M : Nat, σ.next ≤ M ∧ r.2.length = p0.length ∧ v = .int .i64 r.1 ∧ σ' = hp E0 [(w0, some ⟨53, 3, encL rMachine_oo r.2⟩)] M) (by simp [q0]) (fun hlt => ?_) ?_ ⟨_, Tryd.func38, rfl, rfl⟩
 rotate_left
 ·
  rintro v σ1 ⟨M, h0, h1, rfl, rfl⟩
  exact ⟨_, M, rfl, by simp, by simp; try omega, M, h0, h1, rfl, rfl⟩
 generalize σ.next = N0 at hlt ⊢
 have lw0 : w0 < N0 := hlt _ (.head _) rfl
 refine ACalls_fn tok Tryd.func38 (by kernel_rfl) rfl Tryd.ntmps38 Tryd.results38 rfl ?_
 simp only [argsA, Nat.reduceAdd, hp_next]
 unfold l_markMachineS at H
 refine AWP_sr tok [] [0, 1] (fun a σ => a = [(0, .sl w0 0 p0.length), (1, .int .i64 p1)] ∧ σ = hp E0 [(w0, some ⟨53, 3, encL rMachine_oo p0⟩)] (N0 + 1)) (fun K hK => ?_) ?_
 ·
  simp -dsimp -implicitDefEqProofs (maxDischargeDepth := 6)
  exact hK _ _ ⟨rfl, rfl⟩
 rintro a σ ⟨rfl, rfl⟩
 refine AWP_sq [1] fun K1 hK1 => ?_
 refine AWP_sr tok [] [0, 1, 5] (fun a σ => a = [(0, .sl w0 0 p0.length), (1, .int .i64 p1), (5, .int .i64 0)] ∧ σ = hp E0 [(w0, some ⟨53, 3, encL rMachine_oo p0⟩)] (N0 + 2)) (fun K hK => ?_) ?_
 ·
  simp -dsimp -implicitDefEqProofs (maxDischargeDepth := 6)
  exact hK _ _ ⟨rfl, rfl⟩
 rintro a σ ⟨rfl, rfl⟩
 refine AWP_block (AWP_thenB ?_)
 obtain ⟨e1, hse1, H⟩ := bindE H
 refine AWP_lp [0, 1, 5] (fun s a σ => ∃ M1 : Nat, N0 ≤ M1 ∧ s.2.2.length = p0.length ∧ a = [(0, .sl w0 0 s.2.2.length), (1, .int .i64 s.1), (5, .int .i64 s.2.1)] ∧ σ = hp E0 [(w0, some ⟨53, 3, encL rMachine_oo s.2.2⟩)] M1) (fun s x a σ => x = .exit 0 ∧ Rc G 34 N0 (fun a σ => ∃ M2 : Nat, N0 ≤ M2 ∧ s.2.length = p0.length ∧ a = [(1, .int .i64 s.1)] ∧ σ = hp E0 [(w0, some ⟨53, 3, encL rMachine_oo s.2⟩)] M2) (AAct.keep a [1]) σ) hse1 ?_ ?_ ?_
 ·
  refine Rc.kp [0, 1, 5] [(0, .sl w0 0 p0.length), (1, .int .i64 p1), (5, .int .i64 0)] rfl ?_
  exact Rc.fin (AHeap.Sub.refl _) ⟨N0 + 2, (by omega), (by first | rfl | exact rfl | omega), rfl, rfl⟩
 ·
  clear H hse1
  rintro ⟨s1, s2, s3⟩ fl a σ H ⟨M1, fM1_0, fM1_1, rfl, rfl⟩ K2 O2 hK2 hO2
  unfold l_markMachineS_L1 at H; dsimp only at H
  refine AWP_sq [0, 1, 5] fun K3 hK3 => ?_
  refine AWP_sr tok [] [0, 1, 5, 9] (fun a σ => a = [(0, .sl w0 0 s3.length), (1, .int .i64 s1), (5, .int .i64 s2), (9, .bool (ilt s2 (ilen s3)))] ∧ σ = hp E0 [(w0, some ⟨53, 3, encL rMachine_oo s3⟩)] (M1 + 4)) (fun K hK => ?_) ?_
  ·
   simp -dsimp -implicitDefEqProofs (maxDischargeDepth := 6)
   exact hK _ _ ⟨rfl, rfl⟩
  rintro a σ ⟨rfl, rfl⟩
  refine AWP_cond (ilt s2 (ilen s3)) rfl (fun C1 => ?_) (fun C1 => ?_)
  ·
   replace H := ifT C1 H
   refine AWP_skip ?_
   show K3 _ _
   refine keepE (l := [0, 1, 5]) (x := [(0, .sl w0 0 s3.length), (1, .int .i64 s1), (5, .int .i64 s2)]) rfl fun a' ha => ?_
   refine hK3 _ _ ?_; rw [ha]
   refine Rc.mk ?_
   refine AWP_sq [0, 1, 5] fun K4 hK4 => ?_
   refine AWP_block (AWP_thenB ?_)
   obtain ⟨v6, hv6, H⟩ := bindE H
   refine gUnp AWP_ref (ty := 3) (sz := 1) (es := encL rI v6.Regs) (o := w0) (ob := ⟨53, 3, encL rMachine_oo s3⟩) (row := [.osl 3 1 (encL rI v6.Regs), .int .i64 v6.Pc, .osl 3 1 (encL rI v6.Mem)]) (r := s2.toNat) (i := 0) [(w0, some ⟨53, 3, (encL rMachine_oo s3).set s2.toNat [.sl (M1 + 4) 0 v6.Regs.length, .int .i64 v6.Pc, .osl 3 1 (encL rI v6.Mem)]⟩), (M1 + 4, some ⟨3, 1, encL rI v6.Regs⟩)] (by simp (disch := omega)) (encL_at rMachine_oo hv6) rfl (by simp (disch := omega) [List.set_set]) ?_
   obtain ⟨r7, hr7, H⟩ := bindE H
   refine AWP_sr tok [] [0, 1, 5] (fun a σ => ∃ M3 : Nat, M1 + 13 ≤ M3 ∧ r7.2.length = v6.Regs.length ∧ a = [(0, .sl w0 0 s3.length), (1, .int .i64 r7.1), (5, .int .i64 s2)] ∧ σ = hp E0 [(w0, some ⟨53, 3, (encL rMachine_oo s3).set s2.toNat [.sl (M1 + 4) 0 v6.Regs.length, .int .i64 v6.Pc, .osl 3 1 (encL rI v6.Mem)]⟩), (M1 + 4, some ⟨3, 1, encL rI r7.2⟩)] M3) (fun K hK => ?_) ?_
   ·
    have e0 := nq (a := w0) (b := M1 + 4) (by omega)
    simp -dsimp -implicitDefEqProofs (maxDischargeDepth := 6) [e0, (gset hv6 _), List.set_set, ixo25 hv6, (idx_lt3 hv6).2.2]
    refine (c13 (H := hr7) (by simp [e0, (gset hv6 _), List.set_set, ixo25 hv6, (idx_lt3 hv6).2.2])).mono ?_; rintro _ _ ⟨M3, fM3_0, fM3_1, rfl, rfl⟩; simp only [hp_next] at fM3_0
    try simp -dsimp -implicitDefEqProofs (maxDischargeDepth := 6) [e0, (gset hv6 _), List.set_set, ixo25 hv6, (idx_lt3 hv6).2.2, hp_over_some, hp_over_none]
    exact hK _ _ ⟨M3, (by omega), fM3_1, rfl, rfl⟩
   rintro a σ ⟨M3, fM3_0, fM3_1, rfl, rfl⟩
   try rw [← fM3_1]
   refine AWP_sr tok [] [0, 1, 5] (fun a σ => a = [(0, .sl w0 0 s3.length), (1, .int .i64 r7.1), (5, .int .i64 s2)] ∧ σ = hp E0 [(w0, some ⟨53, 3, (encL rMachine_oo s3).set s2.toNat [.sl (M1 + 4) 0 r7.2.length, .int .i64 r7.1, .osl 3 1 (encL rI v6.Mem)]⟩), (M1 + 4, some ⟨3, 1, encL rI r7.2⟩)] (M3 + 6)) (fun K hK => ?_) ?_
   ·
    have e0 := nq (a := w0) (b := M1 + 4) (by omega)
    simp -dsimp -implicitDefEqProofs (maxDischargeDepth := 6) [e0, (gset hv6 _), List.set_set, ixo25 hv6, (idx_lt3 hv6).2.2]
    exact hK _ _ ⟨rfl, rfl⟩
   rintro a σ ⟨rfl, rfl⟩
   refine AWP_sr tok [] [0, 1, 5] (fun a σ => a = [(0, .sl w0 0 s3.length), (1, .int .i64 (iadd .i64 r7.1 1)), (5, .int .i64 s2)] ∧ σ = hp E0 [(w0, some ⟨53, 3, (encL rMachine_oo s3).set s2.toNat [.sl (M1 + 4) 0 r7.2.length, .int .i64 r7.1, .osl 3 1 (encL rI v6.Mem)]⟩), (M1 + 4, some ⟨3, 1, encL rI r7.2⟩)] (M3 + 9)) (fun K hK => ?_) ?_
   ·
    have e0 := nq (a := w0) (b := M1 + 4) (by omega)
    simp -dsimp -implicitDefEqProofs (maxDischargeDepth := 6) [e0, (gset hv6 _), List.set_set]
    exact hK _ _ ⟨rfl, rfl⟩
   rintro a σ ⟨rfl, rfl⟩
   refine gPk AWP_ref (k := r7.2.length) (o := w0) (ob := ⟨53, 3, (encL rMachine_oo s3).set s2.toNat [.sl (M1 + 4) 0 r7.2.length, .int .i64 r7.1, .osl 3 1 (encL rI v6.Mem)]⟩) (row := [.sl (M1 + 4) 0 r7.2.length, .int .i64 r7.1, .osl 3 1 (encL rI v6.Mem)]) (d := (M1 + 4)) (obd := ⟨3, 1, encL rI r7.2⟩) (r := s2.toNat) (i := 0) [(w0, some ⟨53, 3, (encL rMachine_oo s3).set s2.toNat [.osl 3 1 (encL rI r7.2), .int .i64 r7.1, .osl 3 1 (encL rI v6.Mem)]⟩)] (by simp (disch := omega)) (gset hv6 _) rfl (by simp (disch := omega)) (by simp (disch := omega)) (by first | omega | simp) (by simp (disch := omega) [List.set_set, app_set] <;> omega) (by simp (disch := omega) [List.set_set, app_set]) ?_
   obtain ⟨l8, hl8, H⟩ := bindE H
   rw [show hp E0 [(w0, some ⟨53, 3, (encL rMachine_oo s3).set s2.toNat [.osl 3 1 (encL rI r7.2), .int .i64 r7.1, .osl 3 1 (encL rI v6.Mem)]⟩)] (M3 + 9) = hp E0 [(w0, some ⟨53, 3, encL rMachine_oo l8⟩)] (M3 + 9) from by rw [(setx_iff.1 hl8).2, ← encL_set]; rfl]; (try rw [← setx_len hl8])
   obtain ⟨v9, hv9, H⟩ := bindE H
   refine gUnp AWP_ref (ty := 3) (sz := 1) (es := encL rI v9.Mem) (o := w0) (ob := ⟨53, 3, encL rMachine_oo l8⟩) (row := [.osl 3 1 (encL rI v9.Regs), .int .i64 v9.Pc, .osl 3 1 (encL rI v9.Mem)]) (r := s2.toNat) (i := 2) [(w0, some ⟨53, 3, (encL rMachine_oo l8).set s2.toNat [.osl 3 1 (encL rI v9.Regs), .int .i64 v9.Pc, .sl (M3 + 9) 0 v9.Mem.length]⟩), (M3 + 9, some ⟨3, 1, encL rI v9.Mem⟩)] (by simp (disch := omega)) (encL_at rMachine_oo hv9) rfl (by simp (disch := omega) [List.set_set]) ?_
   obtain ⟨r10, hr10, H⟩ := bindE H
   refine AWP_rt tok [] [0, 1, 5] (fun a σ => ∃ M4 : Nat, M3 + 18 ≤ M4 ∧ r10.2.length = v9.Mem.length ∧ a = [(0, .sl w0 0 l8.length), (1, .int .i64 r10.1), (5, .int .i64 s2)] ∧ σ = hp E0 [(w0, some ⟨53, 3, (encL rMachine_oo l8).set s2.toNat [.osl 3 1 (encL rI v9.Regs), .int .i64 v9.Pc, .sl (M3 + 9) 0 v9.Mem.length]⟩), (M3 + 9, some ⟨3, 1, encL rI r10.2⟩)] M4) (fun K hK => ?_) ?_
   ·
    have e0 := nq (a := w0) (b := M3 + 9) (by omega)
    simp -dsimp -implicitDefEqProofs (maxDischargeDepth := 6) [e0, (gset hv9 _), List.set_set, ixo25 hv9, (idx_lt3 hv9).2.2]
    refine (c13 (H := hr10) (by simp [e0, (gset hv9 _), List.set_set, ixo25 hv9, (idx_lt3 hv9).2.2])).mono ?_; rintro _ _ ⟨M4, fM4_0, fM4_1, rfl, rfl⟩; simp only [hp_next] at fM4_0
    try simp -dsimp -implicitDefEqProofs (maxDischargeDepth := 6) [e0, (gset hv9 _), List.set_set, ixo25 hv9, (idx_lt3 hv9).2.2, hp_over_some, hp_over_none]
    exact hK _ _ ⟨M4, (by omega), fM4_1, rfl, rfl⟩
   rintro a σ ⟨M4, fM4_0, fM4_1, ha, rfl⟩
   (try rw [← fM4_1] at ha); (try rw [← fM4_1])
   refine hK4 _ _ ?_; rw [ha]
   refine Rc.mk ?_
   refine AWP_rt tok [] [0, 1, 5] (fun a σ => a = [(0, .sl w0 0 l8.length), (1, .int .i64 r10.1), (5, .int .i64 (iadd .i64 s2 1))] ∧ σ = hp E0 [(w0, some ⟨53, 3, (encL rMachine_oo l8).set s2.toNat [.osl 3 1 (encL rI v9.Regs), .int .i64 v9.Pc, .sl (M3 + 9) 0 r10.2.length]⟩), (M3 + 9, some ⟨3, 1, encL rI r10.2⟩)] (M4 + 3)) (fun K hK => ?_) ?_
   ·
    have e0 := nq (a := w0) (b := M3 + 9) (by omega)
    simp -dsimp -implicitDefEqProofs (maxDischargeDepth := 6) [e0, (gset hv9 _), List.set_set]
    exact hK _ _ ⟨rfl, rfl⟩
   rintro a σ ⟨ha, rfl⟩
   obtain ⟨l11, hl11, H⟩ := bindE H
   replace H := Option.some.inj H; subst H
   refine hK2 _ _ _ rfl ?_; rw [ha]
   refine gPk Rc_ref (k := r10.2.length) (o := w0) (ob := ⟨53, 3, (encL rMachine_oo l8).set s2.toNat [.osl 3 1 (encL rI v9.Regs), .int .i64 v9.Pc, .sl (M3 + 9) 0 r10.2.length]⟩) (row := [.osl 3 1 (encL rI v9.Regs), .int .i64 v9.Pc, .sl (M3 + 9) 0 r10.2.length]) (d := (M3 + 9)) (obd := ⟨3, 1, encL rI r10.2⟩) (r := s2.toNat) (i := 2) [(w0, some ⟨53, 3, (encL rMachine_oo l8).set s2.toNat [.osl 3 1 (encL rI v9.Regs), .int .i64 v9.Pc, .osl 3 1 (encL rI r10.2)]⟩)] (by simp (disch := omega)) (gset hv9 _) rfl (by simp (disch := omega)) (by simp (disch := omega)) (by first | omega | simp) (by simp (disch := omega) [List.set_set, app_set] <;> omega) (by simp (disch := omega) [List.set_set, app_set]) ?_
   rw [show hp E0 [(w0, some ⟨53, 3, (encL rMachine_oo l8).set s2.toNat [.osl 3 1 (encL rI v9.Regs), .int .i64 v9.Pc, .osl 3 1 (encL rI r10.2)]⟩)] (M4 + 3) = hp E0 [(w0, some ⟨53, 3, encL rMachine_oo l11⟩)] (M4 + 3) from by rw [(setx_iff.1 hl11).2, ← encL_set]; rfl]; (try rw [← setx_len hl11])
   exact Rc.fin (AHeap.Sub.refl _) ⟨M4 + 3, (by omega), (by first | rfl | exact ((setx_len hl11).trans ((setx_len hl8).trans fM1_1)) | omega), rfl, rfl⟩
  ·
   replace H := ifF C1 H
   replace H := Option.some.inj H; subst H
   refine AWP_exit (hO2 _ _ _ _ rfl ⟨rfl, ?_⟩)
   refine Rc.rw (l := [1]) (X := [(1, .int .i64 s1)]) rfl ?_
   exact Rc.fin (AHeap.Sub.refl _) ⟨M1 + 4, (by omega), (by first | rfl | exact fM1_1 | omega), rfl, rfl⟩
 ·
  intro x a σ hx
  obtain ⟨y4, y5⟩ := e1
  obtain ⟨rfl, b, τ, hr, M2, fM2_0, fM2_1, rfl, rfl⟩ := hx
  dsimp only at H
  show K1 _ _
  refine hK1 _ _ (Rc_ref hr ?_)
  refine Rc.mk ?_
  refine AWP_sr tok [] [4] (fun a σ => a = [(4, .int .i64 y4)] ∧ σ = hp E0 [(w0, some ⟨53, 3, encL rMachine_oo y5⟩)] (M2 + 2)) (fun K hK => ?_) ?_
  ·
   simp -dsimp -implicitDefEqProofs (maxDischargeDepth := 6)
   exact hK _ _ ⟨rfl, rfl⟩
  rintro a σ ⟨rfl, rfl⟩
  replace H := Option.some.inj H; subst H
  refine AWP_kp [4] [(4, .int .i64 y4)] rfl ?_
  refine AWP_ret ?_
  refine ⟨[.int .i64 y4], by simp, M2 + 2, by omega, by first | rfl | exact fM2_1 | omega, ?_, ?_⟩
  ·
   simp [encL_nil]
  ·
   first | rfl | simp [List.set_set]
theorem c39 {p0 : (List gBox)} {p1 : Int} {r : Int × (List gBox)} (H : l_markBoxS p0 p1 = some r) {σ : AHeap} {w0 : Nat} (q0 : σ.objs w0 = some ⟨86, 2, encL rBox_o p0⟩) : ACalls Tryd.prog G 39 [.sl w0 0 p0.length, .int .i64 p1] σ (fun v σ' => ∃ M : Nat, σ.next ≤ M ∧ r.2.length = p0.length ∧ v = .int .i64 r.1 ∧ σ' = hp σ.objs [(w0, some ⟨86, 2, encL rBox_o r.2⟩)] M) := by
 refine ACalls_fr (L := [(w0, some ⟨86, 2, encL rBox_o p0⟩)]) (Q1 := fun v σ' => ∃ M : Nat, σ.next ≤ M ∧ r.2.length = p0.length ∧ v = .int .i64 r.1 ∧ σ' = hp E0 [(w0, some ⟨86, 2, encL rBox_o r.2⟩)] M) (by simp [q0]) (fun hlt => ?_) ?_ ⟨_, Tryd.func39, rfl, rfl⟩
 rotate_left
 ·
  rintro v σ1 ⟨M, h0, h1, rfl, rfl⟩
  exact ⟨_, M, rfl, by simp, by simp; try omega, M, h0, h1, rfl, rfl⟩
 generalize σ.next = N0 at hlt ⊢
 have lw0 : w0 < N0 := hlt _ (.head _) rfl
 refine ACalls_fn tok Tryd.func39 (by kernel_rfl) rfl Tryd.ntmps39 Tryd.results39 rfl ?_
 simp only [argsA, Nat.reduceAdd, hp_next]
 unfold l_markBoxS at H
 refine AWP_sr tok [] [0, 1] (fun a σ => a = [(0, .sl w0 0 p0.length), (1, .int .i64 p1)] ∧ σ = hp E0 [(w0, some ⟨86, 2, encL rBox_o p0⟩)] (N0 + 1)) (fun K hK => ?_) ?_
 ·
  simp -dsimp -implicitDefEqProofs (maxDischargeDepth := 6)
  exact hK _ _ ⟨rfl, rfl⟩
 rintro a σ ⟨rfl, rfl⟩
 refine AWP_sq [1] fun K1 hK1 => ?_
 refine AWP_sr tok [] [0, 1, 5] (fun a σ => a = [(0, .sl w0 0 p0.length), (1, .int .i64 p1), (5, .int .i64 0)] ∧ σ = hp E0 [(w0, some ⟨86, 2, encL rBox_o p0⟩)] (N0 + 2)) (fun K hK => ?_) ?_
 ·
  simp -dsimp -implicitDefEqProofs (maxDischargeDepth := 6)
  exact hK _ _ ⟨rfl, rfl⟩
 rintro a σ ⟨rfl, rfl⟩
 refine AWP_block (AWP_thenB ?_)
 obtain ⟨e1, hse1, H⟩ := bindE H
 refine AWP_lp [0, 1, 5] (fun s a σ => ∃ M1 : Nat, N0 ≤ M1 ∧ s.2.2.length = p0.length ∧ a = [(0, .sl w0 0 s.2.2.length), (1, .int .i64 s.1), (5, .int .i64 s.2.1)] ∧ σ = hp E0 [(w0, some ⟨86, 2, encL rBox_o s.2.2⟩)] M1) (fun s x a σ => x = .exit 0 ∧ Rc G 27 N0 (fun a σ => ∃ M2 : Nat, N0 ≤ M2 ∧ s.2.length = p0.length ∧ a = [(1, .int .i64 s.1)] ∧ σ = hp E0 [(w0, some ⟨86, 2, encL rBox_o s.2⟩)] M2) (AAct.keep a [1]) σ) hse1 ?_ ?_ ?_
 ·
  refine Rc.kp [0, 1, 5] [(0, .sl w0 0 p0.length), (1, .int .i64 p1), (5, .int .i64 0)] rfl ?_
  exact Rc.fin (AHeap.Sub.refl _) ⟨N0 + 2, (by omega), (by first | rfl | exact rfl | omega), rfl, rfl⟩
 ·
  clear H hse1
  rintro ⟨s1, s2, s3⟩ fl a σ H ⟨M1, fM1_0, fM1_1, rfl, rfl⟩ K2 O2 hK2 hO2
  unfold l_markBoxS_L1 at H; dsimp only at H
  refine AWP_sq [0, 1, 5] fun K3 hK3 => ?_
  refine AWP_sr tok [] [0, 1, 5, 9] (fun a σ => a = [(0, .sl w0 0 s3.length), (1, .int .i64 s1), (5, .int .i64 s2), (9, .bool (ilt s2 (ilen s3)))] ∧ σ = hp E0 [(w0, some ⟨86, 2, encL rBox_o s3⟩)] (M1 + 4)) (fun K hK => ?_) ?_
  ·
   simp -dsimp -implicitDefEqProofs (maxDischargeDepth := 6)
   exact hK _ _ ⟨rfl, rfl⟩
  rintro a σ ⟨rfl, rfl⟩
  refine AWP_cond (ilt s2 (ilen s3)) rfl (fun C1 => ?_) (fun C1 => ?_)
  ·
   replace H := ifT C1 H
   refine AWP_skip ?_
   show K3 _ _
   refine keepE (l := [0, 1, 5]) (x := [(0, .sl w0 0 s3.length), (1, .int .i64 s1), (5, .int .i64 s2)]) rfl fun a' ha => ?_
   refine hK3 _ _ ?_; rw [ha]
   refine Rc.mk ?_
   refine AWP_sq [0, 1, 5] fun K4 hK4 => ?_
   refine AWP_block (AWP_thenB ?_)
   obtain ⟨v6, hv6, H⟩ := bindE H
   obtain ⟨l7, hl7, H⟩ := bindE H
   refine AWP_sr tok [] [0, 1, 5] (fun a σ => a = [(0, .sl w0 0 s3.length), (1, .int .i64 s1), (5, .int .i64 s2)] ∧ σ = hp E0 [(w0, some ⟨86, 2, encL rBox_o l7⟩)] (M1 + 10)) (fun K hK => ?_) ?_
   ·
    simp -dsimp -implicitDefEqProofs (maxDischargeDepth := 6) [ixo26 hv6, (idx_lt3 hv6).2.2, (setx_iff.1 hl7).2.symm, set_rBox_o]
    exact hK _ _ ⟨rfl, rfl⟩
   rintro a σ ⟨rfl, rfl⟩
   try rw [← setx_len hl7]
   refine AWP_sr tok [] [0, 1, 5] (fun a σ => a = [(0, .sl w0 0 l7.length), (1, .int .i64 (iadd .i64 s1 1)), (5, .int .i64 s2)] ∧ σ = hp E0 [(w0, some ⟨86, 2, encL rBox_o l7⟩)] (M1 + 13)) (fun K hK => ?_) ?_
   ·
    simp -dsimp -implicitDefEqProofs (maxDischargeDepth := 6)
    exact hK _ _ ⟨rfl, rfl⟩
   rintro a σ ⟨rfl, rfl⟩
   obtain ⟨v8, hv8, H⟩ := bindE H
   refine gUnp AWP_ref (ty := 3) (sz := 1) (es := encL rI v8.Items) (o := w0) (ob := ⟨86, 2, encL rBox_o l7⟩) (row := [.int .i64 v8.Room, .osl 3 1 (encL rI v8.Items)]) (r := s2.toNat) (i := 1) [(w0, some ⟨86, 2, (encL rBox_o l7).set s2.toNat [.int .i64 v8.Room, .sl (M1 + 13) 0 v8.Items.length]⟩), (M1 + 13, some ⟨3, 1, encL rI v8.Items⟩)] (by simp (disch := omega)) (encL_at rBox_o hv8) rfl (by simp (disch := omega) [List.set_set]) ?_
   obtain ⟨r9, hr9, H⟩ := bindE H
   refine AWP_rt tok [] [0, 1, 5] (fun a σ => ∃ M3 : Nat, M1 + 22 ≤ M3 ∧ r9.2.length = v8.Items.length ∧ a = [(0, .sl w0 0 l7.length), (1, .int .i64 r9.1), (5, .int .i64 s2)] ∧ σ = hp E0 [(w0, some ⟨86, 2, (encL rBox_o l7).set s2.toNat [.int .i64 v8.Room, .sl (M1 + 13) 0 v8.Items.length]⟩), (M1 + 13, some ⟨3, 1, encL rI r9.2⟩)] M3) (fun K hK => ?_) ?_
   ·
    have e0 := nq (a := w0) (b := M1 + 13) (by omega)
    simp -dsimp -implicitDefEqProofs (maxDischargeDepth := 6) [e0, (gset hv8 _), List.set_set, ixo26 hv8, (idx_lt3 hv8).2.2]
    refine (c13 (H := hr9) (by simp [e0, (gset hv8 _), List.set_set, ixo26 hv8, (idx_lt3 hv8).2.2])).mono ?_; rintro _ _ ⟨M3, fM3_0, fM3_1, rfl, rfl⟩; simp only [hp_next] at fM3_0
    try simp -dsimp -implicitDefEqProofs (maxDischargeDepth := 6) [e0, (gset hv8 _), List.set_set, ixo26 hv8, (idx_lt3 hv8).2.2, hp_over_some, hp_over_none]
    exact hK _ _ ⟨M3, (by omega), fM3_1, rfl, rfl⟩
   rintro a σ ⟨M3, fM3_0, fM3_1, ha, rfl⟩
   (try rw [← fM3_1] at ha); (try rw [← fM3_1])
   refine hK4 _ _ ?_; rw [ha]
   refine Rc.mk ?_
   refine AWP_rt tok [] [0, 1, 5] (fun a σ => a = [(0, .sl w0 0 l7.length), (1, .int .i64 r9.1), (5, .int .i64 (iadd .i64 s2 1))] ∧ σ = hp E0 [(w0, some ⟨86, 2, (encL rBox_o l7).set s2.toNat [.int .i64 v8.Room, .sl (M1 + 13) 0 r9.2.length]⟩), (M1 + 13, some ⟨3, 1, encL rI r9.2⟩)] (M3 + 3)) (fun K hK => ?_) ?_
   ·
    have e0 := nq (a := w0) (b := M1 + 13) (by omega)
    simp -dsimp -implicitDefEqProofs (maxDischargeDepth := 6) [e0, (gset hv8 _), List.set_set]
    exact hK _ _ ⟨rfl, rfl⟩
   rintro a σ ⟨ha, rfl⟩
   obtain ⟨l10, hl10, H⟩ := bindE H
   replace H := Option.some.inj H; subst H
   refine hK2 _ _ _ rfl ?_; rw [ha]
   refine gPk Rc_ref (k := r9.2.length) (o := w0) (ob := ⟨86, 2, (encL rBox_o l7).set s2.toNat [.int .i64 v8.Room, .sl (M1 + 13) 0 r9.2.length]⟩) (row := [.int .i64 v8.Room, .sl (M1 + 13) 0 r9.2.length]) (d := (M1 + 13)) (obd := ⟨3, 1, encL rI r9.2⟩) (r := s2.toNat) (i := 1) [(w0, some ⟨86, 2, (encL rBox_o l7).set s2.toNat [.int .i64 v8.Room, .osl 3 1 (encL rI r9.2)]⟩)] (by simp (disch := omega)) (gset hv8 _) rfl (by simp (disch := omega)) (by simp (disch := omega)) (by first | omega | simp) (by simp (disch := omega) [List.set_set, app_set] <;> omega) (by simp (disch := omega) [List.set_set, app_set]) ?_
   rw [show hp E0 [(w0, some ⟨86, 2, (encL rBox_o l7).set s2.toNat [.int .i64 v8.Room, .osl 3 1 (encL rI r9.2)]⟩)] (M3 + 3) = hp E0 [(w0, some ⟨86, 2, encL rBox_o l10⟩)] (M3 + 3) from by rw [(setx_iff.1 hl10).2, ← encL_set]; rfl]; (try rw [← setx_len hl10])
   exact Rc.fin (AHeap.Sub.refl _) ⟨M3 + 3, (by omega), (by first | rfl | exact ((setx_len hl10).trans ((setx_len hl7).trans fM1_1)) | omega), rfl, rfl⟩
  ·
   replace H := ifF C1 H
   replace H := Option.some.inj H; subst H
   refine AWP_exit (hO2 _ _ _ _ rfl ⟨rfl, ?_⟩)
   refine Rc.rw (l := [1]) (X := [(1, .int .i64 s1)]) rfl ?_
   exact Rc.fin (AHeap.Sub.refl _) ⟨M1 + 4, (by omega), (by first | rfl | exact fM1_1 | omega), rfl, rfl⟩
 ·
  intro x a σ hx
  obtain ⟨y4, y5⟩ := e1
  obtain ⟨rfl, b, τ, hr, M2, fM2_0, fM2_1, rfl, rfl⟩ := hx
  dsimp only at H
  show K1 _ _
  refine hK1 _ _ (Rc_ref hr ?_)
  refine Rc.mk ?_
  refine AWP_sr tok [] [4] (fun a σ => a = [(4, .int .i64 y4)] ∧ σ = hp E0 [(w0, some ⟨86, 2, encL rBox_o y5⟩)] (M2 + 2)) (fun K hK => ?_) ?_
  ·
   simp -dsimp -implicitDefEqProofs (maxDischargeDepth := 6)
   exact hK _ _ ⟨rfl, rfl⟩
  rintro a σ ⟨rfl, rfl⟩
  replace H := Option.some.inj H; subst H
  refine AWP_kp [4] [(4, .int .i64 y4)] rfl ?_
  refine AWP_ret ?_
  refine ⟨[.int .i64 y4], by simp, M2 + 2, by omega, by first | rfl | exact fM2_1 | omega, ?_, ?_⟩
  ·
   simp [encL_nil]
  ·
   first | rfl | simp [List.set_set]
end Go.Proofs.YtlcilhmkbmgkeaaDoor
