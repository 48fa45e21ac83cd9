/- The contracts of functions of the program, part 7: each computes what its mirror computes. No conditions. -/
import Derived.Test.YtoklfbdcghgmlaaDoorDT6
set_option linter.unusedSimpArgs false
set_option linter.unusedVariables false
set_option maxRecDepth 20000
set_option maxHeartbeats 4000000
namespace Go.Proofs.YtoklfbdcghgmlaaDoor
open Go Go.Abs Go.RowKit

theorem c28 {p0 : (List gInstr)} {p1 : (List gInstr)} {r : Bool} (H : l_sameInstrs p0 p1 = some r) : APure Tryd.prog G 28 [.fsl (encL rInstr p0), .fsl (encL rInstr p1)] (.bool r) := by
 refine APure_thaw 4 (fun σ => ?_) (by simp)
 refine ACalls_fn tok Tryd.func28 (by kernel_rfl) rfl Tryd.ntmps28 Tryd.results28 rfl ?_
 simp only [argsA, Nat.reduceAdd]
 refine AWP_ids fun hfr => ?_
 obtain ⟨B, hB⟩ : ∃ B, B = σ.objs := ⟨_, rfl⟩
 obtain ⟨N0, hN0⟩ : ∃ N, N = σ.next := ⟨_, rfl⟩
 have hσ : σ = hp B [] N0 := by rw [hB, hN0]; rfl
 rw [← hN0, ← hB] at hfr ⊢
 rw [hσ]; clear hσ
 unfold l_sameInstrs at H
 refine AWP_seqk [0, 1] fun K1 hK1 => ?_
 refine AWP_regl tok [] ?_
 simp -dsimp -implicitDefEqProofs (maxDischargeDepth := 6)
 refine keepE2 (l := [0, 1]) (x := [(0, .fsl (encL rInstr p0)), (1, .fsl (encL rInstr p1))]) (s := hp B [] (N0 + 1)) rfl rfl fun a' ha => ?_
 refine hK1 _ _ ?_; rw [ha]
 refine AWP_seqk [0, 1] fun K2 hK2 => ?_
 refine AWP_seqk [0, 1, 10] fun K3 hK3 => ?_
 refine AWP_regl tok [] ?_
 simp -dsimp -implicitDefEqProofs (maxDischargeDepth := 6)
 refine keepE2 (l := [0, 1, 10]) (x := [(0, .fsl (encL rInstr p0)), (1, .fsl (encL rInstr p1)), (10, .bool (ine (ilen p0) (ilen p1)))]) (s := hp B [] (N0 + 6)) rfl rfl fun a' ha => ?_
 refine hK3 _ _ ?_; rw [ha]
 refine AWP_cond (ine (ilen p0) (ilen p1)) rfl (fun C3 => ?_) (fun C3 => ?_)
 ·
  replace H := ifT C3 H
  refine AWP_seqk [4] fun K4 hK4 => ?_
  refine AWP_regl tok [] ?_
  simp -dsimp -implicitDefEqProofs (maxDischargeDepth := 6)
  refine keepE2 (l := [4]) (x := [(4, .bool false)]) (s := hp B [] (N0 + 7)) rfl rfl fun a' ha => ?_
  refine hK4 _ _ ?_; rw [ha]
  refine AWP_ret ?_
  replace H := Option.some.inj H; subst H
  refine ⟨[.bool false], by simp, ?_, ?_⟩
  ·
   simp [encL_nil]
  ·
   intro o ho; exact lk_out (by simp; try omega)
 ·
  replace H := ifF C3 H
  refine AWP_skip ?_
  show K2 _ _
  refine keepE (l := [0, 1]) (x := [(0, .fsl (encL rInstr p0)), (1, .fsl (encL rInstr p1))]) rfl fun a' ha => ?_
  refine hK2 _ _ ?_; rw [ha]
  refine AWP_seqk [] fun K5 hK5 => ?_
  refine AWP_seqk [0, 1, 5] fun K6 hK6 => ?_
  refine AWP_regl tok [] ?_
  simp -dsimp -implicitDefEqProofs (maxDischargeDepth := 6)
  refine keepE2 (l := [0, 1, 5]) (x := [(0, .fsl (encL rInstr p0)), (1, .fsl (encL rInstr p1)), (5, .int .i64 0)]) (s := hp B [] (N0 + 7)) rfl rfl fun a' ha => ?_
  refine hK6 _ _ ?_; rw [ha]
  refine AWP_block ?_
  obtain ⟨e1, hse1, H⟩ := bindE H
  refine AWP_loopM [0, 1, 5] (fun s a σ => ∃ M1 : Nat, N0 ≤ M1 ∧ a = [(0, .fsl (encL rInstr p0)), (1, .fsl (encL rInstr p1)), (5, .int .i64 s)] ∧ σ = hp B [] M1) (fun e x a σ => SumP e (fun s => x = .exit 0 ∧ ∃ M2 : Nat, N0 ≤ M2 ∧ a.keep [] = [] ∧ σ = hp B [] M2) (fun s => x = .ret ∧ ∃ vs, resA T σ a [.tmp 4] = some vs ∧ thawA (fun o => decide (N0 ≤ o)) σ 4 (tupA vs) = .bool s ∧ ∀ o, o < N0 → σ.objs o = B o)) hse1 ?_ ?_ ?_
  ·
   exact ⟨_, AHeap.Sub.refl _, ⟨N0 + 7, by omega, rfl, rfl⟩⟩
  ·
   clear H hse1
   rintro s1 fl a σ H ⟨M1, hM1_0, rfl, rfl⟩
   unfold l_sameInstrs_L1 at H; dsimp only at H
   refine AWP_named fun K7 hK7 => ?_
   refine AWP_seqk [0, 1, 5] fun K8 hK8 => ?_
   refine AWP_seqk [0, 1, 5, 14] fun K9 hK9 => ?_
   refine AWP_regl tok [] ?_
   simp -dsimp -implicitDefEqProofs (maxDischargeDepth := 6)
   refine keepE2 (l := [0, 1, 5, 14]) (x := [(0, .fsl (encL rInstr p0)), (1, .fsl (encL rInstr p1)), (5, .int .i64 s1), (14, .bool (ilt s1 (ilen p0)))]) (s := hp B [] (M1 + 4)) rfl rfl fun a' ha => ?_
   refine hK9 _ _ ?_; rw [ha]
   refine AWP_cond (ilt s1 (ilen p0)) rfl (fun C2 => ?_) (fun C2 => ?_)
   ·
    replace H := ifT C2 H
    refine AWP_skip ?_
    show K8 _ _
    refine keepE (l := [0, 1, 5]) (x := [(0, .fsl (encL rInstr p0)), (1, .fsl (encL rInstr p1)), (5, .int .i64 s1)]) rfl fun a' ha => ?_
    refine hK8 _ _ ?_; rw [ha]
    refine AWP_seqk [0, 1, 5] fun K10 hK10 => ?_
    refine AWP_block ?_
    refine AWP_seqk [0, 1, 5, 25] fun K11 hK11 => ?_
    obtain ⟨v2, hv2, H⟩ := bindE H
    obtain ⟨v3, hv3, H⟩ := bindE H
    refine AWP_drawl tok tokM [] [] [0, 1, 2, 3, 4, 5, 6, 7, 8] (by decide) ?_
    simp only [pickL, nthO_succ, nthO_zero]
    simp -dsimp -implicitDefEqProofs (maxDischargeDepth := 6) [ix29 hv2, ix29 hv3]
    refine keepE2 (l := [0, 1, 5, 25]) (x := [(0, .fsl (encL rInstr p0)), (1, .fsl (encL rInstr p1)), (5, .int .i64 s1), (25, .bool (bnot (eqD v2 v3)))]) (s := hp B [] (M1 + 13)) rfl rfl fun a' ha => ?_
    refine hK11 _ _ ?_; rw [ha]
    refine AWP_cond (bnot (eqD v2 v3)) rfl (fun C1 => ?_) (fun C1 => ?_)
    ·
     replace H := ifT C1 H
     refine AWP_seqk [4] fun K12 hK12 => ?_
     refine AWP_regl tok [] ?_
     simp -dsimp -implicitDefEqProofs (maxDischargeDepth := 6)
     refine keepE2 (l := [4]) (x := [(4, .bool false)]) (s := hp B [] (M1 + 14)) rfl rfl fun a' ha => ?_
     refine hK12 _ _ ?_; rw [ha]
     refine AWP_ret ?_
     replace H := Option.some.inj H; subst H
     refine doneE (SumP.r ?_)
     refine ⟨rfl, [.bool false], by simp, ?_, ?_⟩
     ·
      simp [encL_nil]
     ·
      intro o ho; exact lk_out (by simp; try omega)
    ·
     replace H := ifF C1 H
     refine AWP_skip ?_
     show K10 _ _
     refine keepE (l := [0, 1, 5]) (x := [(0, .fsl (encL rInstr p0)), (1, .fsl (encL rInstr p1)), (5, .int .i64 s1)]) rfl fun a' ha => ?_
     refine hK10 _ _ ?_; rw [ha]
     refine AWP_regl tok [] ?_
     simp -dsimp -implicitDefEqProofs (maxDischargeDepth := 6)
     refine keepE2 (l := [0, 1, 5]) (x := [(0, .fsl (encL rInstr p0)), (1, .fsl (encL rInstr p1)), (5, .int .i64 (iadd .i64 s1 1))]) (s := hp B [] (M1 + 16)) rfl rfl fun a' ha => ?_
     refine hK7 _ _ ?_; replace H := Option.some.inj H; subst H; rw [ha]
     exact ⟨iadd .i64 s1 1, rfl, _, AHeap.Sub.refl _, ⟨M1 + 16, by omega, rfl, rfl⟩⟩
   ·
    replace H := ifF C2 H
    skip
    refine AWP_exit ?_
    replace H := Option.some.inj H; subst H
    refine doneE (SumP.l ?_)
    exact ⟨rfl, M1 + 4, by omega, rfl, rfl⟩
  ·
   intro x a σ hx
   rcases e1 with ⟨⟩ | r0
   ·
    obtain ⟨rfl, M2, hM2_0, ha, rfl⟩ := hx.gl
    dsimp only at H
    show K5 _ _
    refine hK5 _ _ ?_; rw [ha]
    refine AWP_seqk [4] fun K13 hK13 => ?_
    refine AWP_regl tok [] ?_
    simp -dsimp -implicitDefEqProofs (maxDischargeDepth := 6)
    refine keepE2 (l := [4]) (x := [(4, .bool true)]) (s := hp B [] (M2 + 1)) rfl rfl fun a' ha => ?_
    refine hK13 _ _ ?_; rw [ha]
    refine AWP_ret ?_
    replace H := Option.some.inj H; subst H
    refine ⟨[.bool true], by simp, ?_, ?_⟩
    ·
     simp [encL_nil]
    ·
     intro o ho; exact lk_out (by simp; try omega)
   ·
    obtain ⟨rfl, hx2⟩ := hx.gr; replace H := Option.some.inj H; subst H; exact hx2
theorem c5 {p0 : (List Int)} {r : Bool} (H : l_FnQuadCall p0 = some r) : APure Tryd.prog G 5 [.fsl (encL rI_u8 p0)] (.bool r) := by
 refine APure_thaw 4 (fun σ => ?_) (by simp)
 refine ACalls_fn tok Tryd.func5 (by kernel_rfl) rfl Tryd.ntmps5 Tryd.results5 rfl ?_
 simp only [argsA, Nat.reduceAdd]
 refine AWP_ids fun hfr => ?_
 obtain ⟨B, hB⟩ : ∃ B, B = σ.objs := ⟨_, rfl⟩
 obtain ⟨N0, hN0⟩ : ∃ N, N = σ.next := ⟨_, rfl⟩
 have hσ : σ = hp B [] N0 := by rw [hB, hN0]; rfl
 rw [← hN0, ← hB] at hfr ⊢
 rw [hσ]; clear hσ
 unfold l_FnQuadCall at H
 refine AWP_seqk [0] fun K1 hK1 => ?_
 refine AWP_regl tok [] ?_
 simp -dsimp -implicitDefEqProofs (maxDischargeDepth := 6)
 refine keepE2 (l := [0]) (x := [(0, .fsl (encL rI_u8 p0))]) (s := hp B [] (N0 + 1)) rfl rfl fun a' ha => ?_
 refine hK1 _ _ ?_; rw [ha]
 refine AWP_seqk [0] fun K2 hK2 => ?_
 refine AWP_seqk [0, 14] fun K3 hK3 => ?_
 refine AWP_regl tok [] ?_
 simp -dsimp -implicitDefEqProofs (maxDischargeDepth := 6)
 refine keepE2 (l := [0, 14]) (x := [(0, .fsl (encL rI_u8 p0)), (14, .bool (igt (ilen p0) 1048576))]) (s := hp B [] (N0 + 4)) rfl rfl fun a' ha => ?_
 refine hK3 _ _ ?_; rw [ha]
 refine AWP_cond (igt (ilen p0) 1048576) rfl (fun C6 => ?_) (fun C6 => ?_)
 ·
  replace H := ifT C6 H
  refine AWP_seqk [2] fun K4 hK4 => ?_
  refine AWP_regl tok [] ?_
  simp -dsimp -implicitDefEqProofs (maxDischargeDepth := 6)
  refine keepE2 (l := [2]) (x := [(2, .bool true)]) (s := hp B [] (N0 + 5)) rfl rfl fun a' ha => ?_
  refine hK4 _ _ ?_; rw [ha]
  refine AWP_ret ?_
  replace H := Option.some.inj H; subst H
  refine ⟨[.bool true], by simp, ?_, ?_⟩
  ·
   simp [encL_nil]
  ·
   intro o ho; exact lk_out (by simp; try omega)
 ·
  replace H := ifF C6 H
  refine AWP_skip ?_
  show K2 _ _
  refine keepE (l := [0]) (x := [(0, .fsl (encL rI_u8 p0))]) rfl fun a' ha => ?_
  refine hK2 _ _ ?_; rw [ha]
  refine AWP_seqk [3, 4, 5] fun K5 hK5 => ?_
  obtain ⟨r1, hr1, H⟩ := bindE H
  refine AWP_regl tok [] ?_
  simp -dsimp -implicitDefEqProofs (maxDischargeDepth := 6)
  refine (c27 hr1).app ?_; try simp -dsimp -implicitDefEqProofs (maxDischargeDepth := 6)
  refine keepE2 (l := [3, 4, 5]) (x := [(3, .ptr (N0 + 10) 0 0), (4, .int .i64 r1.2.1), (5, .int .i64 r1.2.2)]) (s := hp B [(N0 + 10, some ⟨40, 5, [[.int .i64 r1.1.Op, .int .i64 r1.1.Dst, .int .i64 r1.1.A, .int .i64 r1.1.B, .int .i64 r1.1.N]]⟩)] (N0 + 14)) rfl rfl fun a' ha => ?_
  refine hK5 _ _ ?_; rw [ha]
  refine AWP_seqk [3, 4, 5, 6, 7] fun K6 hK6 => ?_
  obtain ⟨r2, hr2, H⟩ := bindE H
  refine AWP_regl tok [] ?_
  simp -dsimp -implicitDefEqProofs (maxDischargeDepth := 6)
  refine (c25 hr2).app ?_; try simp -dsimp -implicitDefEqProofs (maxDischargeDepth := 6)
  refine keepE2 (l := [3, 4, 5, 6, 7]) (x := [(3, .ptr (N0 + 10) 0 0), (4, .int .i64 r1.2.1), (5, .int .i64 r1.2.2), (6, .fsl (encL rInstr r2.1)), (7, .bool r2.2)]) (s := hp B [(N0 + 10, some ⟨40, 5, [[.int .i64 r1.1.Op, .int .i64 r1.1.Dst, .int .i64 r1.1.A, .int .i64 r1.1.B, .int .i64 r1.1.N]]⟩)] (N0 + 23)) rfl rfl fun a' ha => ?_
  refine hK6 _ _ ?_; rw [ha]
  refine AWP_seqk [3, 6, 7, 8, 9] fun K7 hK7 => ?_
  obtain ⟨r3, hr3, H⟩ := bindE H
  refine AWP_regl tok [] ?_
  simp -dsimp -implicitDefEqProofs (maxDischargeDepth := 6)
  refine (c23 hr3).app ?_; try simp -dsimp -implicitDefEqProofs (maxDischargeDepth := 6)
  refine keepE2 (l := [3, 6, 7, 8, 9]) (x := [(3, .ptr (N0 + 10) 0 0), (6, .fsl (encL rInstr r2.1)), (7, .bool r2.2), (8, .fsl (encL rInstr r3.1)), (9, .bool r3.2)]) (s := hp B [(N0 + 10, some ⟨40, 5, [[.int .i64 r1.1.Op, .int .i64 r1.1.Dst, .int .i64 r1.1.A, .int .i64 r1.1.B, .int .i64 r1.1.N]]⟩)] (N0 + 32)) rfl rfl fun a' ha => ?_
  refine hK7 _ _ ?_; rw [ha]
  refine AWP_seqk [3, 6] fun K8 hK8 => ?_
  refine AWP_seqk [3, 6, 7, 8, 9, 47] fun K9 hK9 => ?_
  obtain ⟨g5, hg5, H⟩ := bindE H
  obtain ⟨g6, hg6, H⟩ := bindE H
  have J2 : ∀ a' σ', AAct.keep a' [3, 6, 7, 8, 9, 47] = [(3, .ptr (N0 + 10) 0 0), (6, .fsl (encL rInstr r2.1)), (7, .bool r2.2), (8, .fsl (encL rInstr r3.1)), (9, .bool r3.2), (47, .bool g6)] → σ' = hp B [(N0 + 10, some ⟨40, 5, [[.int .i64 r1.1.Op, .int .i64 r1.1.Dst, .int .i64 r1.1.A, .int .i64 r1.1.B, .int .i64 r1.1.N]]⟩)] (N0 + 45) → K9 a' σ' := by
   intro a' σ' ha hs; subst hs
   refine hK9 _ _ ?_; rw [ha]
   refine AWP_cond g6 rfl (fun C5 => ?_) (fun C5 => ?_)
   ·
    replace H := ifT C5 H
    refine AWP_seqk [2] fun K10 hK10 => ?_
    obtain ⟨g8, hg8, H⟩ := bindE H
    have J1 : ∀ a' σ', AAct.keep a' [2] = [(2, .bool g8)] → σ' = hp B [(N0 + 10, some ⟨40, 5, [[.int .i64 r1.1.Op, .int .i64 r1.1.Dst, .int .i64 r1.1.A, .int .i64 r1.1.B, .int .i64 r1.1.N]]⟩)] (N0 + 54) → K10 a' σ' := by
     intro a' σ' ha hs; subst hs
     refine hK10 _ _ ?_; rw [ha]
     refine AWP_ret ?_
     replace H := Option.some.inj H; subst H
     have e0 : N0 ≤ N0 + 10 := by omega
     refine ⟨[.bool g8], by simp [e0], ?_, ?_⟩
     ·
      simp [encL_nil, e0]
     ·
      intro o ho; exact lk_out (by simp; try omega)
    refine AWP_regl tok [] ?_
    simp -dsimp -implicitDefEqProofs (maxDischargeDepth := 6)
    cases hbg8 : beqb r2.2 r3.2
    ·
     replace hg8 := ifF hbg8 hg8
     replace hg8 := Option.some.inj hg8; subst hg8
     try simp -dsimp -implicitDefEqProofs (maxDischargeDepth := 6) [hbg8]
     exact J1 _ _ rfl rfl
    ·
     replace hg8 := ifT hbg8 hg8
     obtain ⟨r7, hr7, hg8⟩ := bindE hg8
     replace hg8 := Option.some.inj hg8; subst hg8
     try simp -dsimp -implicitDefEqProofs (maxDischargeDepth := 6) [hbg8]
     refine (c28 hr7).app ?_; try simp -dsimp -implicitDefEqProofs (maxDischargeDepth := 6) [hbg8]
     exact J1 _ _ rfl rfl
   ·
    replace H := ifF C5 H
    refine AWP_skip ?_
    show K8 _ _
    refine keepE (l := [3, 6]) (x := [(3, .ptr (N0 + 10) 0 0), (6, .fsl (encL rInstr r2.1))]) rfl fun a' ha => ?_
    refine hK8 _ _ ?_; rw [ha]
    refine AWP_seqk [3, 6, 10] fun K11 hK11 => ?_
    refine AWP_regl tok [] ?_
    simp -dsimp -implicitDefEqProofs (maxDischargeDepth := 6)
    refine keepE2 (l := [3, 6, 10]) (x := [(3, .ptr (N0 + 10) 0 0), (6, .fsl (encL rInstr r2.1)), (10, .int .i64 0)]) (s := hp B [(N0 + 10, some ⟨40, 5, [[.int .i64 r1.1.Op, .int .i64 r1.1.Dst, .int .i64 r1.1.A, .int .i64 r1.1.B, .int .i64 r1.1.N]]⟩)] (N0 + 46)) rfl rfl fun a' ha => ?_
    refine hK11 _ _ ?_; rw [ha]
    refine AWP_seqk [3, 10] fun K12 hK12 => ?_
    refine AWP_seqk [3, 6, 10, 11] fun K13 hK13 => ?_
    refine AWP_regl tok [] ?_
    simp -dsimp -implicitDefEqProofs (maxDischargeDepth := 6)
    refine keepE2 (l := [3, 6, 10, 11]) (x := [(3, .ptr (N0 + 10) 0 0), (6, .fsl (encL rInstr r2.1)), (10, .int .i64 0), (11, .int .i64 0)]) (s := hp B [(N0 + 10, some ⟨40, 5, [[.int .i64 r1.1.Op, .int .i64 r1.1.Dst, .int .i64 r1.1.A, .int .i64 r1.1.B, .int .i64 r1.1.N]]⟩)] (N0 + 47)) rfl rfl fun a' ha => ?_
    refine hK13 _ _ ?_; rw [ha]
    refine AWP_block ?_
    obtain ⟨e1, hse1, H⟩ := bindE H
    refine AWP_loopM [3, 6, 10, 11] (fun s a σ => ∃ M1 o1 : Nat, N0 ≤ M1 ∧ N0 ≤ o1 ∧ o1 < M1 ∧ a = [(3, .ptr o1 0 0), (6, .fsl (encL rInstr r2.1)), (10, .int .i64 s.1), (11, .int .i64 s.2.1)] ∧ σ = hp B [(o1, some ⟨40, 5, [[.int .i64 s.2.2.Op, .int .i64 s.2.2.Dst, .int .i64 s.2.2.A, .int .i64 s.2.2.B, .int .i64 s.2.2.N]]⟩)] M1) (fun e x a σ => SumP e (fun s => x = .exit 0 ∧ ∃ M2 o2 : Nat, N0 ≤ M2 ∧ N0 ≤ o2 ∧ o2 < M2 ∧ a.keep [3, 10] = [(3, .ptr o2 0 0), (10, .int .i64 s.1)] ∧ σ = hp B [(o2, some ⟨40, 5, [[.int .i64 s.2.Op, .int .i64 s.2.Dst, .int .i64 s.2.A, .int .i64 s.2.B, .int .i64 s.2.N]]⟩)] M2) (fun s => x = .ret ∧ ∃ vs, resA T σ a [.tmp 2] = some vs ∧ thawA (fun o => decide (N0 ≤ o)) σ 4 (tupA vs) = .bool s ∧ ∀ o, o < N0 → σ.objs o = B o)) hse1 ?_ ?_ ?_
    ·
     exact ⟨_, AHeap.Sub.refl _, ⟨N0 + 47, (N0 + 10), by omega, by omega, by omega, rfl, rfl⟩⟩
    ·
     clear H hse1
     rintro ⟨s9, s10, s11⟩ fl a σ H ⟨M1, o1, hM1_0, hM1_1, hM1_2, rfl, rfl⟩
     unfold l_FnQuadCall_L1 at H; dsimp only at H
     refine AWP_named fun K14 hK14 => ?_
     refine AWP_seqk [3, 6, 10, 11] fun K15 hK15 => ?_
     refine AWP_seqk [3, 6, 10, 11, 59] fun K16 hK16 => ?_
     refine AWP_regl tok [] ?_
     simp -dsimp -implicitDefEqProofs (maxDischargeDepth := 6)
     refine keepE2 (l := [3, 6, 10, 11, 59]) (x := [(3, .ptr o1 0 0), (6, .fsl (encL rInstr r2.1)), (10, .int .i64 s9), (11, .int .i64 s10), (59, .bool (ilt s10 (ilen r2.1)))]) (s := hp B [(o1, some ⟨40, 5, [[.int .i64 s11.Op, .int .i64 s11.Dst, .int .i64 s11.A, .int .i64 s11.B, .int .i64 s11.N]]⟩)] (M1 + 4)) rfl rfl fun a' ha => ?_
     refine hK16 _ _ ?_; rw [ha]
     refine AWP_cond (ilt s10 (ilen r2.1)) rfl (fun C3 => ?_) (fun C3 => ?_)
     ·
      replace H := ifT C3 H
      refine AWP_skip ?_
      show K15 _ _
      refine keepE (l := [3, 6, 10, 11]) (x := [(3, .ptr o1 0 0), (6, .fsl (encL rInstr r2.1)), (10, .int .i64 s9), (11, .int .i64 s10)]) rfl fun a' ha => ?_
      refine hK15 _ _ ?_; rw [ha]
      refine AWP_seqk [3, 6, 10, 11] fun K17 hK17 => ?_
      refine AWP_block ?_
      refine AWP_seqk [3, 6, 10, 11, 67] fun K18 hK18 => ?_
      obtain ⟨v14, hv14, H⟩ := bindE H
      refine AWP_regl tok [] ?_
      simp -dsimp -implicitDefEqProofs (maxDischargeDepth := 6) [ix29 hv14]
      refine keepE2 (l := [3, 6, 10, 11, 67]) (x := [(3, .ptr o1 0 0), (6, .fsl (encL rInstr r2.1)), (10, .int .i64 s9), (11, .int .i64 s10), (67, .bool (ieq v14.Op 15))]) (s := hp B [(o1, some ⟨40, 5, [[.int .i64 s11.Op, .int .i64 s11.Dst, .int .i64 s11.A, .int .i64 s11.B, .int .i64 s11.N]]⟩)] (M1 + 10)) rfl rfl fun a' ha => ?_
      refine hK18 _ _ ?_; rw [ha]
      refine AWP_cond (ieq v14.Op 15) rfl (fun C2 => ?_) (fun C2 => ?_)
      ·
       replace H := ifT C2 H
       refine AWP_seqk [3, 6, 10, 11] fun K19 hK19 => ?_
       refine AWP_regl tok [] ?_
       simp -dsimp -implicitDefEqProofs (maxDischargeDepth := 6)
       refine keepE2 (l := [3, 6, 10, 11]) (x := [(3, .ptr o1 0 0), (6, .fsl (encL rInstr r2.1)), (10, .int .i64 (iadd .i64 s9 1)), (11, .int .i64 s10)]) (s := hp B [(o1, some ⟨40, 5, [[.int .i64 s11.Op, .int .i64 s11.Dst, .int .i64 s11.A, .int .i64 s11.B, .int .i64 s11.N]]⟩)] (M1 + 13)) rfl rfl fun a' ha => ?_
       refine hK19 _ _ ?_; rw [ha]
       refine AWP_seqk [3, 6, 10, 11, 75] fun K20 hK20 => ?_
       refine AWP_regl tok [] ?_
       simp -dsimp -implicitDefEqProofs (maxDischargeDepth := 6) [ix29 hv14]
       refine keepE2 (l := [3, 6, 10, 11, 75]) (x := [(3, .ptr o1 0 0), (6, .fsl (encL rInstr r2.1)), (10, .int .i64 (iadd .i64 s9 1)), (11, .int .i64 s10), (75, .bool (bnot (eqD v14 (⟨15, 1, 0, 0, 0⟩ : gInstr))))]) (s := hp B [(o1, some ⟨40, 5, [[.int .i64 s11.Op, .int .i64 s11.Dst, .int .i64 s11.A, .int .i64 s11.B, .int .i64 s11.N]]⟩)] (M1 + 19)) rfl rfl fun a' ha => ?_
       refine hK20 _ _ ?_; rw [ha]
       refine AWP_cond (bnot (eqD v14 (⟨15, 1, 0, 0, 0⟩ : gInstr))) rfl (fun C1 => ?_) (fun C1 => ?_)
       ·
        replace H := ifT C1 H
        refine AWP_seqk [2] fun K21 hK21 => ?_
        refine AWP_regl tok [] ?_
        simp -dsimp -implicitDefEqProofs (maxDischargeDepth := 6)
        refine keepE2 (l := [2]) (x := [(2, .bool false)]) (s := hp B [(o1, some ⟨40, 5, [[.int .i64 s11.Op, .int .i64 s11.Dst, .int .i64 s11.A, .int .i64 s11.B, .int .i64 s11.N]]⟩)] (M1 + 20)) rfl rfl fun a' ha => ?_
        refine hK21 _ _ ?_; rw [ha]
        refine AWP_ret ?_
        replace H := Option.some.inj H; subst H
        have e0 : N0 ≤ o1 := by omega
        refine doneE (SumP.r ?_)
        refine ⟨rfl, [.bool false], by simp [e0], ?_, ?_⟩
        ·
         simp [encL_nil, e0]
        ·
         intro o ho; exact lk_out (by simp; try omega)
       ·
        replace H := ifF C1 H
        refine AWP_skip ?_
        show K17 _ _
        refine keepE (l := [3, 6, 10, 11]) (x := [(3, .ptr o1 0 0), (6, .fsl (encL rInstr r2.1)), (10, .int .i64 (iadd .i64 s9 1)), (11, .int .i64 s10)]) rfl fun a' ha => ?_
        refine hK17 _ _ ?_; rw [ha]
        refine AWP_regl tok [] ?_
        simp -dsimp -implicitDefEqProofs (maxDischargeDepth := 6)
        refine keepE2 (l := [3, 6, 10, 11]) (x := [(3, .ptr o1 0 0), (6, .fsl (encL rInstr r2.1)), (10, .int .i64 (iadd .i64 s9 1)), (11, .int .i64 (iadd .i64 s10 1))]) (s := hp B [(o1, some ⟨40, 5, [[.int .i64 s11.Op, .int .i64 s11.Dst, .int .i64 s11.A, .int .i64 s11.B, .int .i64 s11.N]]⟩)] (M1 + 22)) rfl rfl fun a' ha => ?_
        refine hK14 _ _ ?_; replace H := Option.some.inj H; subst H; rw [ha]
        exact ⟨(iadd .i64 s9 1, iadd .i64 s10 1, s11), rfl, _, AHeap.Sub.refl _, ⟨M1 + 22, o1, by omega, by omega, by omega, rfl, rfl⟩⟩
      ·
       replace H := ifF C2 H
       refine AWP_skip ?_
       show K17 _ _
       refine keepE (l := [3, 6, 10, 11]) (x := [(3, .ptr o1 0 0), (6, .fsl (encL rInstr r2.1)), (10, .int .i64 s9), (11, .int .i64 s10)]) rfl fun a' ha => ?_
       refine hK17 _ _ ?_; rw [ha]
       refine AWP_regl tok [] ?_
       simp -dsimp -implicitDefEqProofs (maxDischargeDepth := 6)
       refine keepE2 (l := [3, 6, 10, 11]) (x := [(3, .ptr o1 0 0), (6, .fsl (encL rInstr r2.1)), (10, .int .i64 s9), (11, .int .i64 (iadd .i64 s10 1))]) (s := hp B [(o1, some ⟨40, 5, [[.int .i64 s11.Op, .int .i64 s11.Dst, .int .i64 s11.A, .int .i64 s11.B, .int .i64 s11.N]]⟩)] (M1 + 13)) rfl rfl fun a' ha => ?_
       refine hK14 _ _ ?_; replace H := Option.some.inj H; subst H; rw [ha]
       exact ⟨(s9, iadd .i64 s10 1, s11), rfl, _, AHeap.Sub.refl _, ⟨M1 + 13, o1, by omega, by omega, by omega, rfl, rfl⟩⟩
     ·
      replace H := ifF C3 H
      skip
      refine AWP_exit ?_
      replace H := Option.some.inj H; subst H
      refine doneE (SumP.l ?_)
      exact ⟨rfl, M1 + 4, o1, by omega, by omega, by omega, rfl, rfl⟩
    ·
     intro x a σ hx
     rcases e1 with ⟨x12, x13⟩ | r0
     ·
      obtain ⟨rfl, M2, o2, hM2_0, hM2_1, hM2_2, ha, rfl⟩ := hx.gl
      dsimp only at H
      show K12 _ _
      refine hK12 _ _ ?_; rw [ha]
      refine AWP_seqk [10] fun K22 hK22 => ?_
      refine AWP_seqk [10, 78] fun K23 hK23 => ?_
      refine AWP_regl tok [] ?_
      simp -dsimp -implicitDefEqProofs (maxDischargeDepth := 6)
      refine keepE2 (l := [10, 78]) (x := [(10, .int .i64 x12), (78, .bool (ige x13.Op 6))]) (s := hp B [(o2, some ⟨40, 5, [[.int .i64 x13.Op, .int .i64 x13.Dst, .int .i64 x13.A, .int .i64 x13.B, .int .i64 x13.N]]⟩)] (M2 + 3)) rfl rfl fun a' ha => ?_
      refine hK23 _ _ ?_; rw [ha]
      refine AWP_cond (ige x13.Op 6) rfl (fun C4 => ?_) (fun C4 => ?_)
      ·
       replace H := ifT C4 H
       refine AWP_seqk [2] fun K24 hK24 => ?_
       refine AWP_regl tok [] ?_
       simp -dsimp -implicitDefEqProofs (maxDischargeDepth := 6)
       refine keepE2 (l := [2]) (x := [(2, .bool (ieq x12 1))]) (s := hp B [(o2, some ⟨40, 5, [[.int .i64 x13.Op, .int .i64 x13.Dst, .int .i64 x13.A, .int .i64 x13.B, .int .i64 x13.N]]⟩)] (M2 + 6)) rfl rfl fun a' ha => ?_
       refine hK24 _ _ ?_; rw [ha]
       refine AWP_ret ?_
       replace H := Option.some.inj H; subst H
       have e0 : N0 ≤ o2 := by omega
       refine ⟨[.bool (ieq x12 1)], by simp [e0], ?_, ?_⟩
       ·
        simp [encL_nil, e0]
       ·
        intro o ho; exact lk_out (by simp; try omega)
      ·
       replace H := ifF C4 H
       refine AWP_skip ?_
       show K22 _ _
       refine keepE (l := [10]) (x := [(10, .int .i64 x12)]) rfl fun a' ha => ?_
       refine hK22 _ _ ?_; rw [ha]
       refine AWP_seqk [2] fun K25 hK25 => ?_
       refine AWP_regl tok [] ?_
       simp -dsimp -implicitDefEqProofs (maxDischargeDepth := 6)
       refine keepE2 (l := [2]) (x := [(2, .bool (ieq x12 0))]) (s := hp B [(o2, some ⟨40, 5, [[.int .i64 x13.Op, .int .i64 x13.Dst, .int .i64 x13.A, .int .i64 x13.B, .int .i64 x13.N]]⟩)] (M2 + 6)) rfl rfl fun a' ha => ?_
       refine hK25 _ _ ?_; rw [ha]
       refine AWP_ret ?_
       replace H := Option.some.inj H; subst H
       have e0 : N0 ≤ o2 := by omega
       refine ⟨[.bool (ieq x12 0)], by simp [e0], ?_, ?_⟩
       ·
        simp [encL_nil, e0]
       ·
        intro o ho; exact lk_out (by simp; try omega)
     ·
      obtain ⟨rfl, hx2⟩ := hx.gr; replace H := Option.some.inj H; subst H; exact hx2
  refine AWP_regl tok [] ?_
  simp -dsimp -implicitDefEqProofs (maxDischargeDepth := 6)
  cases hbg5 : bneb r2.2 r3.2
  ·
   replace hg5 := ifF hbg5 hg5
   obtain ⟨r4, hr4, hg5⟩ := bindE hg5
   replace hg5 := Option.some.inj hg5; subst hg5
   try simp -dsimp -implicitDefEqProofs (maxDischargeDepth := 6) [hbg5]
   refine (c28 hr4).app ?_; try simp -dsimp -implicitDefEqProofs (maxDischargeDepth := 6) [hbg5]
   cases hbg6 : (bnot r4)
   ·
    replace hg6 := ifF hbg6 hg6
    replace hg6 := Option.some.inj hg6; subst hg6
    try simp -dsimp -implicitDefEqProofs (maxDischargeDepth := 6) [hbg5, hbg6]
    exact J2 _ _ rfl rfl
   ·
    replace hg6 := ifT hbg6 hg6
    replace hg6 := Option.some.inj hg6; subst hg6
    try simp -dsimp -implicitDefEqProofs (maxDischargeDepth := 6) [hbg5, hbg6]
    exact J2 _ _ rfl rfl
  ·
   replace hg5 := ifT hbg5 hg5
   replace hg5 := Option.some.inj hg5; subst hg5
   try simp -dsimp -implicitDefEqProofs (maxDischargeDepth := 6) [hbg5]
   replace hg6 := ifT rfl hg6
   replace hg6 := Option.some.inj hg6; subst hg6
   try simp -dsimp -implicitDefEqProofs (maxDischargeDepth := 6) [hbg5]
   exact J2 _ _ rfl rfl
theorem c6 {p0 : (List Int)} {r : Bool} (H : l_FnQuadInstrsColors p0 = some r) : APure Tryd.prog G 6 [.fsl (encL rI_u8 p0)] (.bool r) := by
 refine APure_thaw 4 (fun σ => ?_) (by simp)
 refine ACalls_fn tok Tryd.func6 (by kernel_rfl) rfl Tryd.ntmps6 Tryd.results6 rfl ?_
 simp only [argsA, Nat.reduceAdd]
 refine AWP_ids fun hfr => ?_
 obtain ⟨B, hB⟩ : ∃ B, B = σ.objs := ⟨_, rfl⟩
 obtain ⟨N0, hN0⟩ : ∃ N, N = σ.next := ⟨_, rfl⟩
 have hσ : σ = hp B [] N0 := by rw [hB, hN0]; rfl
 rw [← hN0, ← hB] at hfr ⊢
 rw [hσ]; clear hσ
 unfold l_FnQuadInstrsColors at H
 refine AWP_seqk [0] fun K1 hK1 => ?_
 refine AWP_regl tok [] ?_
 simp -dsimp -implicitDefEqProofs (maxDischargeDepth := 6)
 refine keepE2 (l := [0]) (x := [(0, .fsl (encL rI_u8 p0))]) (s := hp B [] (N0 + 1)) rfl rfl fun a' ha => ?_
 refine hK1 _ _ ?_; rw [ha]
 refine AWP_seqk [0] fun K2 hK2 => ?_
 refine AWP_seqk [0, 18] fun K3 hK3 => ?_
 refine AWP_regl tok [] ?_
 simp -dsimp -implicitDefEqProofs (maxDischargeDepth := 6)
 refine keepE2 (l := [0, 18]) (x := [(0, .fsl (encL rI_u8 p0)), (18, .bool (igt (ilen p0) 1048576))]) (s := hp B [] (N0 + 4)) rfl rfl fun a' ha => ?_
 refine hK3 _ _ ?_; rw [ha]
 refine AWP_cond (igt (ilen p0) 1048576) rfl (fun C4 => ?_) (fun C4 => ?_)
 ·
  replace H := ifT C4 H
  refine AWP_seqk [2] fun K4 hK4 => ?_
  refine AWP_regl tok [] ?_
  simp -dsimp -implicitDefEqProofs (maxDischargeDepth := 6)
  refine keepE2 (l := [2]) (x := [(2, .bool true)]) (s := hp B [] (N0 + 5)) rfl rfl fun a' ha => ?_
  refine hK4 _ _ ?_; rw [ha]
  refine AWP_ret ?_
  replace H := Option.some.inj H; subst H
  refine ⟨[.bool true], by simp, ?_, ?_⟩
  ·
   simp [encL_nil]
  ·
   intro o ho; exact lk_out (by simp; try omega)
 ·
  replace H := ifF C4 H
  refine AWP_skip ?_
  show K2 _ _
  refine keepE (l := [0]) (x := [(0, .fsl (encL rI_u8 p0))]) rfl fun a' ha => ?_
  refine hK2 _ _ ?_; rw [ha]
  refine AWP_seqk [3, 4, 5] fun K5 hK5 => ?_
  obtain ⟨r1, hr1, H⟩ := bindE H
  refine AWP_regl tok [] ?_
  simp -dsimp -implicitDefEqProofs (maxDischargeDepth := 6)
  refine (c27 hr1).app ?_; try simp -dsimp -implicitDefEqProofs (maxDischargeDepth := 6)
  refine keepE2 (l := [3, 4, 5]) (x := [(3, .ptr (N0 + 10) 0 0), (4, .int .i64 r1.2.1), (5, .int .i64 r1.2.2)]) (s := hp B [(N0 + 10, some ⟨40, 5, [[.int .i64 r1.1.Op, .int .i64 r1.1.Dst, .int .i64 r1.1.A, .int .i64 r1.1.B, .int .i64 r1.1.N]]⟩)] (N0 + 14)) rfl rfl fun a' ha => ?_
  refine hK5 _ _ ?_; rw [ha]
  refine AWP_seqk [3, 4, 5, 6, 7] fun K6 hK6 => ?_
  obtain ⟨r2, hr2, H⟩ := bindE H
  refine AWP_regl tok [] ?_
  simp -dsimp -implicitDefEqProofs (maxDischargeDepth := 6)
  refine (c25 hr2).app ?_; try simp -dsimp -implicitDefEqProofs (maxDischargeDepth := 6)
  refine keepE2 (l := [3, 4, 5, 6, 7]) (x := [(3, .ptr (N0 + 10) 0 0), (4, .int .i64 r1.2.1), (5, .int .i64 r1.2.2), (6, .fsl (encL rInstr r2.1)), (7, .bool r2.2)]) (s := hp B [(N0 + 10, some ⟨40, 5, [[.int .i64 r1.1.Op, .int .i64 r1.1.Dst, .int .i64 r1.1.A, .int .i64 r1.1.B, .int .i64 r1.1.N]]⟩)] (N0 + 23)) rfl rfl fun a' ha => ?_
  refine hK6 _ _ ?_; rw [ha]
  refine AWP_seqk [3, 4, 5, 6, 7, 8, 9] fun K7 hK7 => ?_
  obtain ⟨r3, hr3, H⟩ := bindE H
  refine AWP_regl tok [] ?_
  simp -dsimp -implicitDefEqProofs (maxDischargeDepth := 6)
  refine (c23 hr3).app ?_; try simp -dsimp -implicitDefEqProofs (maxDischargeDepth := 6)
  refine keepE2 (l := [3, 4, 5, 6, 7, 8, 9]) (x := [(3, .ptr (N0 + 10) 0 0), (4, .int .i64 r1.2.1), (5, .int .i64 r1.2.2), (6, .fsl (encL rInstr r2.1)), (7, .bool r2.2), (8, .fsl (encL rInstr r3.1)), (9, .bool r3.2)]) (s := hp B [(N0 + 10, some ⟨40, 5, [[.int .i64 r1.1.Op, .int .i64 r1.1.Dst, .int .i64 r1.1.A, .int .i64 r1.1.B, .int .i64 r1.1.N]]⟩)] (N0 + 32)) rfl rfl fun a' ha => ?_
  refine hK7 _ _ ?_; rw [ha]
  refine AWP_seqk [3, 4, 5, 6] fun K8 hK8 => ?_
  refine AWP_seqk [3, 4, 5, 6, 7, 8, 9, 51] fun K9 hK9 => ?_
  obtain ⟨g5, hg5, H⟩ := bindE H
  obtain ⟨g6, hg6, H⟩ := bindE H
  have J5 : ∀ a' σ', AAct.keep a' [3, 4, 5, 6, 7, 8, 9, 51] = [(3, .ptr (N0 + 10) 0 0), (4, .int .i64 r1.2.1), (5, .int .i64 r1.2.2), (6, .fsl (encL rInstr r2.1)), (7, .bool r2.2), (8, .fsl (encL rInstr r3.1)), (9, .bool r3.2), (51, .bool g6)] → σ' = hp B [(N0 + 10, some ⟨40, 5, [[.int .i64 r1.1.Op, .int .i64 r1.1.Dst, .int .i64 r1.1.A, .int .i64 r1.1.B, .int .i64 r1.1.N]]⟩)] (N0 + 45) → K9 a' σ' := by
   intro a' σ' ha hs; subst hs
   refine hK9 _ _ ?_; rw [ha]
   refine AWP_cond g6 rfl (fun C3 => ?_) (fun C3 => ?_)
   ·
    replace H := ifT C3 H
    refine AWP_seqk [2] fun K10 hK10 => ?_
    obtain ⟨g8, hg8, H⟩ := bindE H
    have J1 : ∀ a' σ', AAct.keep a' [2] = [(2, .bool g8)] → σ' = hp B [(N0 + 10, some ⟨40, 5, [[.int .i64 r1.1.Op, .int .i64 r1.1.Dst, .int .i64 r1.1.A, .int .i64 r1.1.B, .int .i64 r1.1.N]]⟩)] (N0 + 54) → K10 a' σ' := by
     intro a' σ' ha hs; subst hs
     refine hK10 _ _ ?_; rw [ha]
     refine AWP_ret ?_
     replace H := Option.some.inj H; subst H
     have e0 : N0 ≤ N0 + 10 := by omega
     refine ⟨[.bool g8], by simp [e0], ?_, ?_⟩
     ·
      simp [encL_nil, e0]
     ·
      intro o ho; exact lk_out (by simp; try omega)
    refine AWP_regl tok [] ?_
    simp -dsimp -implicitDefEqProofs (maxDischargeDepth := 6)
    cases hbg8 : beqb r2.2 r3.2
    ·
     replace hg8 := ifF hbg8 hg8
     replace hg8 := Option.some.inj hg8; subst hg8
     try simp -dsimp -implicitDefEqProofs (maxDischargeDepth := 6) [hbg8]
     exact J1 _ _ rfl rfl
    ·
     replace hg8 := ifT hbg8 hg8
     obtain ⟨r7, hr7, hg8⟩ := bindE hg8
     replace hg8 := Option.some.inj hg8; subst hg8
     try simp -dsimp -implicitDefEqProofs (maxDischargeDepth := 6) [hbg8]
     refine (c28 hr7).app ?_; try simp -dsimp -implicitDefEqProofs (maxDischargeDepth := 6) [hbg8]
     exact J1 _ _ rfl rfl
   ·
    replace H := ifF C3 H
    refine AWP_skip ?_
    show K8 _ _
    refine keepE (l := [3, 4, 5, 6]) (x := [(3, .ptr (N0 + 10) 0 0), (4, .int .i64 r1.2.1), (5, .int .i64 r1.2.2), (6, .fsl (encL rInstr r2.1))]) rfl fun a' ha => ?_
    refine hK8 _ _ ?_; rw [ha]
    refine AWP_seqk [3, 5, 6, 10, 11] fun K11 hK11 => ?_
    obtain ⟨r9, hr9, H⟩ := bindE H
    refine AWP_regl tok [] ?_
    simp -dsimp -implicitDefEqProofs (maxDischargeDepth := 6)
    refine (c25 hr9).app ?_; try simp -dsimp -implicitDefEqProofs (maxDischargeDepth := 6)
    refine keepE2 (l := [3, 5, 6, 10, 11]) (x := [(3, .ptr (N0 + 10) 0 0), (5, .int .i64 r1.2.2), (6, .fsl (encL rInstr r2.1)), (10, .fsl (encL rInstr r9.1)), (11, .bool r9.2)]) (s := hp B [(N0 + 10, some ⟨40, 5, [[.int .i64 r1.1.Op, .int .i64 r1.1.Dst, .int .i64 r1.1.A, .int .i64 r1.1.B, .int .i64 r1.1.N]]⟩)] (N0 + 56)) rfl rfl fun a' ha => ?_
    refine hK11 _ _ ?_; rw [ha]
    refine AWP_seqk [3, 6, 10, 11, 12, 13] fun K12 hK12 => ?_
    obtain ⟨r10, hr10, H⟩ := bindE H
    refine AWP_regl tok [] ?_
    simp -dsimp -implicitDefEqProofs (maxDischargeDepth := 6)
    refine (c25 hr10).app ?_; try simp -dsimp -implicitDefEqProofs (maxDischargeDepth := 6)
    refine keepE2 (l := [3, 6, 10, 11, 12, 13]) (x := [(3, .ptr (N0 + 10) 0 0), (6, .fsl (encL rInstr r2.1)), (10, .fsl (encL rInstr r9.1)), (11, .bool r9.2), (12, .fsl (encL rInstr r10.1)), (13, .bool r10.2)]) (s := hp B [(N0 + 10, some ⟨40, 5, [[.int .i64 r1.1.Op, .int .i64 r1.1.Dst, .int .i64 r1.1.A, .int .i64 r1.1.B, .int .i64 r1.1.N]]⟩)] (N0 + 64)) rfl rfl fun a' ha => ?_
    refine hK12 _ _ ?_; rw [ha]
    refine AWP_seqk [6, 10, 11, 13] fun K13 hK13 => ?_
    refine AWP_seqk [3, 6, 10, 11, 12, 13, 14] fun K14 hK14 => ?_
    refine AWP_regl tok [] ?_
    simp -dsimp -implicitDefEqProofs (maxDischargeDepth := 6)
    refine keepE2 (l := [3, 6, 10, 11, 12, 13, 14]) (x := [(3, .ptr (N0 + 10) 0 0), (6, .fsl (encL rInstr r2.1)), (10, .fsl (encL rInstr r9.1)), (11, .bool r9.2), (12, .fsl (encL rInstr r10.1)), (13, .bool r10.2), (14, .int .i64 0)]) (s := hp B [(N0 + 10, some ⟨40, 5, [[.int .i64 r1.1.Op, .int .i64 r1.1.Dst, .int .i64 r1.1.A, .int .i64 r1.1.B, .int .i64 r1.1.N]]⟩)] (N0 + 65)) rfl rfl fun a' ha => ?_
    refine hK14 _ _ ?_; rw [ha]
    refine AWP_block ?_
    obtain ⟨e1, hse1, H⟩ := bindE H
    refine AWP_loopM [3, 6, 10, 11, 12, 13, 14] (fun s a σ => ∃ M1 o1 : Nat, N0 ≤ M1 ∧ N0 ≤ o1 ∧ o1 < M1 ∧ a = [(3, .ptr o1 0 0), (6, .fsl (encL rInstr r2.1)), (10, .fsl (encL rInstr r9.1)), (11, .bool r9.2), (12, .fsl (encL rInstr r10.1)), (13, .bool r10.2), (14, .int .i64 s.1)] ∧ σ = hp B [(o1, some ⟨40, 5, [[.int .i64 s.2.Op, .int .i64 s.2.Dst, .int .i64 s.2.A, .int .i64 s.2.B, .int .i64 s.2.N]]⟩)] M1) (fun e x a σ => SumP e (fun s => x = .exit 0 ∧ ∃ M2 : Nat, N0 ≤ M2 ∧ a.keep [6, 10, 11, 13] = [(6, .fsl (encL rInstr r2.1)), (10, .fsl (encL rInstr r9.1)), (11, .bool r9.2), (13, .bool r10.2)] ∧ σ = hp B [] M2) (fun s => x = .ret ∧ ∃ vs, resA T σ a [.tmp 2] = some vs ∧ thawA (fun o => decide (N0 ≤ o)) σ 4 (tupA vs) = .bool s ∧ ∀ o, o < N0 → σ.objs o = B o)) hse1 ?_ ?_ ?_
    ·
     exact ⟨_, AHeap.Sub.refl _, ⟨N0 + 65, (N0 + 10), by omega, by omega, by omega, rfl, rfl⟩⟩
    ·
     clear H hse1
     rintro ⟨s11, s12⟩ fl a σ H ⟨M1, o1, hM1_0, hM1_1, hM1_2, rfl, rfl⟩
     unfold l_FnQuadInstrsColors_L1 at H; dsimp only at H
     refine AWP_named fun K15 hK15 => ?_
     refine AWP_seqk [3, 6, 10, 11, 12, 13, 14] fun K16 hK16 => ?_
     refine AWP_seqk [3, 6, 10, 11, 12, 13, 14, 78] fun K17 hK17 => ?_
     refine AWP_regl tok [] ?_
     simp -dsimp -implicitDefEqProofs (maxDischargeDepth := 6)
     refine keepE2 (l := [3, 6, 10, 11, 12, 13, 14, 78]) (x := [(3, .ptr o1 0 0), (6, .fsl (encL rInstr r2.1)), (10, .fsl (encL rInstr r9.1)), (11, .bool r9.2), (12, .fsl (encL rInstr r10.1)), (13, .bool r10.2), (14, .int .i64 s11), (78, .bool (ilt s11 (ilen r10.1)))]) (s := hp B [(o1, some ⟨40, 5, [[.int .i64 s12.Op, .int .i64 s12.Dst, .int .i64 s12.A, .int .i64 s12.B, .int .i64 s12.N]]⟩)] (M1 + 4)) rfl rfl fun a' ha => ?_
     refine hK17 _ _ ?_; rw [ha]
     refine AWP_cond (ilt s11 (ilen r10.1)) rfl (fun C2 => ?_) (fun C2 => ?_)
     ·
      replace H := ifT C2 H
      refine AWP_skip ?_
      show K16 _ _
      refine keepE (l := [3, 6, 10, 11, 12, 13, 14]) (x := [(3, .ptr o1 0 0), (6, .fsl (encL rInstr r2.1)), (10, .fsl (encL rInstr r9.1)), (11, .bool r9.2), (12, .fsl (encL rInstr r10.1)), (13, .bool r10.2), (14, .int .i64 s11)]) rfl fun a' ha => ?_
      refine hK16 _ _ ?_; rw [ha]
      refine AWP_seqk [3, 6, 10, 11, 12, 13, 14] fun K18 hK18 => ?_
      refine AWP_block ?_
      refine AWP_seqk [3, 6, 10, 11, 12, 13, 14, 15] fun K19 hK19 => ?_
      obtain ⟨g13, hg13, H⟩ := bindE H
      obtain ⟨g14, hg14, H⟩ := bindE H
      have J3 : ∀ a' σ', AAct.keep a' [3, 6, 10, 11, 12, 13, 14, 15] = [(3, .ptr o1 0 0), (6, .fsl (encL rInstr r2.1)), (10, .fsl (encL rInstr r9.1)), (11, .bool r9.2), (12, .fsl (encL rInstr r10.1)), (13, .bool r10.2), (14, .int .i64 s11), (15, .bool g14)] → σ' = hp B [(o1, some ⟨40, 5, [[.int .i64 s12.Op, .int .i64 s12.Dst, .int .i64 s12.A, .int .i64 s12.B, .int .i64 s12.N]]⟩)] (M1 + 18) → K19 a' σ' := by
       intro a' σ' ha hs; subst hs
       refine hK19 _ _ ?_; rw [ha]
       refine AWP_seqk [3, 6, 10, 11, 12, 13, 14, 110] fun K20 hK20 => ?_
       obtain ⟨g17, hg17, H⟩ := bindE H
       have J2 : ∀ a' σ', AAct.keep a' [3, 6, 10, 11, 12, 13, 14, 110] = [(3, .ptr o1 0 0), (6, .fsl (encL rInstr r2.1)), (10, .fsl (encL rInstr r9.1)), (11, .bool r9.2), (12, .fsl (encL rInstr r10.1)), (13, .bool r10.2), (14, .int .i64 s11), (110, .bool g17)] → σ' = hp B [(o1, some ⟨40, 5, [[.int .i64 s12.Op, .int .i64 s12.Dst, .int .i64 s12.A, .int .i64 s12.B, .int .i64 s12.N]]⟩)] (M1 + 35) → K20 a' σ' := by
        intro a' σ' ha hs; subst hs
        refine hK20 _ _ ?_; rw [ha]
        refine AWP_cond g17 rfl (fun C1 => ?_) (fun C1 => ?_)
        ·
         replace H := ifT C1 H
         refine AWP_seqk [2] fun K21 hK21 => ?_
         refine AWP_regl tok [] ?_
         simp -dsimp -implicitDefEqProofs (maxDischargeDepth := 6)
         refine keepE2 (l := [2]) (x := [(2, .bool false)]) (s := hp B [(o1, some ⟨40, 5, [[.int .i64 s12.Op, .int .i64 s12.Dst, .int .i64 s12.A, .int .i64 s12.B, .int .i64 s12.N]]⟩)] (M1 + 36)) rfl rfl fun a' ha => ?_
         refine hK21 _ _ ?_; rw [ha]
         refine AWP_ret ?_
         replace H := Option.some.inj H; subst H
         have e0 : N0 ≤ o1 := by omega
         refine doneE (SumP.r ?_)
         refine ⟨rfl, [.bool false], by simp [e0], ?_, ?_⟩
         ·
          simp [encL_nil, e0]
         ·
          intro o ho; exact lk_out (by simp; try omega)
        ·
         replace H := ifF C1 H
         refine AWP_skip ?_
         show K18 _ _
         refine keepE (l := [3, 6, 10, 11, 12, 13, 14]) (x := [(3, .ptr o1 0 0), (6, .fsl (encL rInstr r2.1)), (10, .fsl (encL rInstr r9.1)), (11, .bool r9.2), (12, .fsl (encL rInstr r10.1)), (13, .bool r10.2), (14, .int .i64 s11)]) rfl fun a' ha => ?_
         refine hK18 _ _ ?_; rw [ha]
         refine AWP_regl tok [] ?_
         simp -dsimp -implicitDefEqProofs (maxDischargeDepth := 6)
         refine keepE2 (l := [3, 6, 10, 11, 12, 13, 14]) (x := [(3, .ptr o1 0 0), (6, .fsl (encL rInstr r2.1)), (10, .fsl (encL rInstr r9.1)), (11, .bool r9.2), (12, .fsl (encL rInstr r10.1)), (13, .bool r10.2), (14, .int .i64 (iadd .i64 s11 1))]) (s := hp B [(o1, some ⟨40, 5, [[.int .i64 s12.Op, .int .i64 s12.Dst, .int .i64 s12.A, .int .i64 s12.B, .int .i64 s12.N]]⟩)] (M1 + 38)) rfl rfl fun a' ha => ?_
         refine hK15 _ _ ?_; replace H := Option.some.inj H; subst H; rw [ha]
         exact ⟨(iadd .i64 s11 1, s12), rfl, _, AHeap.Sub.refl _, ⟨M1 + 38, o1, by omega, by omega, by omega, rfl, rfl⟩⟩
       refine AWP_regl tok [] ?_
       simp -dsimp -implicitDefEqProofs (maxDischargeDepth := 6)
       cases hbg17 : g14
       ·
        replace hg17 := ifF hbg17 hg17
        replace hg17 := Option.some.inj hg17; subst hg17
        try simp -dsimp -implicitDefEqProofs (maxDischargeDepth := 6) [hbg17]
        exact J2 _ _ rfl rfl
       ·
        replace hg17 := ifT hbg17 hg17
        obtain ⟨v15, hv15, hg17⟩ := bindE hg17
        obtain ⟨g16, hg16, hg17⟩ := bindE hg17
        replace hg17 := Option.some.inj hg17; subst hg17
        try simp -dsimp -implicitDefEqProofs (maxDischargeDepth := 6) [hbg17, ix29 hv15]
        cases hbg16 : ieq v15.Op 14
        ·
         replace hg16 := ifF hbg16 hg16
         replace hg16 := Option.some.inj hg16; subst hg16
         try simp -dsimp -implicitDefEqProofs (maxDischargeDepth := 6) [hbg17, ix29 hv15, hbg16, ix29 hv15]
         exact J2 _ _ rfl rfl
        ·
         replace hg16 := ifT hbg16 hg16
         replace hg16 := Option.some.inj hg16; subst hg16
         try simp -dsimp -implicitDefEqProofs (maxDischargeDepth := 6) [hbg17, ix29 hv15, hbg16]
         exact J2 _ _ rfl rfl
      refine AWP_regl tok [] ?_
      simp -dsimp -implicitDefEqProofs (maxDischargeDepth := 6)
      cases hbg13 : ilt s12.Dst 8
      ·
       replace hg13 := ifF hbg13 hg13
       replace hg13 := Option.some.inj hg13; subst hg13
       try simp -dsimp -implicitDefEqProofs (maxDischargeDepth := 6) [hbg13]
       replace hg14 := ifF rfl hg14
       replace hg14 := Option.some.inj hg14; subst hg14
       try simp -dsimp -implicitDefEqProofs (maxDischargeDepth := 6) [hbg13]
       exact J3 _ _ rfl rfl
      ·
       replace hg13 := ifT hbg13 hg13
       replace hg13 := Option.some.inj hg13; subst hg13
       try simp -dsimp -implicitDefEqProofs (maxDischargeDepth := 6) [hbg13]
       cases hbg14 : (ilt s12.A 8)
       ·
        replace hg14 := ifF hbg14 hg14
        replace hg14 := Option.some.inj hg14; subst hg14
        try simp -dsimp -implicitDefEqProofs (maxDischargeDepth := 6) [hbg13, hbg14]
        exact J3 _ _ rfl rfl
       ·
        replace hg14 := ifT hbg14 hg14
        replace hg14 := Option.some.inj hg14; subst hg14
        try simp -dsimp -implicitDefEqProofs (maxDischargeDepth := 6) [hbg13, hbg14]
        exact J3 _ _ rfl rfl
     ·
      replace H := ifF C2 H
      refine AWP_sub (AHeap.Sub.trans (AHeap.Sub.refl _) (hp_drop (by first | exact hfr _ (by omega) | omega) (by simp; try omega))) ?_
      refine AWP_exit ?_
      replace H := Option.some.inj H; subst H
      refine doneE (SumP.l ?_)
      exact ⟨rfl, M1 + 4, by omega, rfl, rfl⟩
    ·
     intro x a σ hx
     rcases e1 with ⟨⟩ | r0
     ·
      obtain ⟨rfl, M2, hM2_0, ha, rfl⟩ := hx.gl
      dsimp only at H
      show K13 _ _
      refine hK13 _ _ ?_; rw [ha]
      refine AWP_seqk [2] fun K22 hK22 => ?_
      obtain ⟨g18, hg18, H⟩ := bindE H
      obtain ⟨g19, hg19, H⟩ := bindE H
      have J4 : ∀ a' σ', AAct.keep a' [2] = [(2, .bool g19)] → σ' = hp B [] (M2 + 12) → K22 a' σ' := by
       intro a' σ' ha hs; subst hs
       refine hK22 _ _ ?_; rw [ha]
       refine AWP_ret ?_
       replace H := Option.some.inj H; subst H
       refine ⟨[.bool g19], by simp, ?_, ?_⟩
       ·
        simp [encL_nil]
       ·
        intro o ho; exact lk_out (by simp; try omega)
      refine AWP_regl tok [] ?_
      simp -dsimp -implicitDefEqProofs (maxDischargeDepth := 6)
      cases hbg18 : r9.2
      ·
       replace hg18 := ifF hbg18 hg18
       replace hg18 := Option.some.inj hg18; subst hg18
       try simp -dsimp -implicitDefEqProofs (maxDischargeDepth := 6) [hbg18]
       replace hg19 := ifF rfl hg19
       replace hg19 := Option.some.inj hg19; subst hg19
       try simp -dsimp -implicitDefEqProofs (maxDischargeDepth := 6) [hbg18]
       exact J4 _ _ rfl rfl
      ·
       replace hg18 := ifT hbg18 hg18
       replace hg18 := Option.some.inj hg18; subst hg18
       try simp -dsimp -implicitDefEqProofs (maxDischargeDepth := 6) [hbg18]
       cases hbg19 : r10.2
       ·
        replace hg19 := ifF hbg19 hg19
        replace hg19 := Option.some.inj hg19; subst hg19
        try simp -dsimp -implicitDefEqProofs (maxDischargeDepth := 6) [hbg18, hbg19]
        exact J4 _ _ rfl rfl
       ·
        replace hg19 := ifT hbg19 hg19
        replace hg19 := Option.some.inj hg19; subst hg19
        try simp -dsimp -implicitDefEqProofs (maxDischargeDepth := 6) [hbg18, hbg19]
        exact J4 _ _ rfl rfl
     ·
      obtain ⟨rfl, hx2⟩ := hx.gr; replace H := Option.some.inj H; subst H; exact hx2
  refine AWP_regl tok [] ?_
  simp -dsimp -implicitDefEqProofs (maxDischargeDepth := 6)
  cases hbg5 : bneb r2.2 r3.2
  ·
   replace hg5 := ifF hbg5 hg5
   obtain ⟨r4, hr4, hg5⟩ := bindE hg5
   replace hg5 := Option.some.inj hg5; subst hg5
   try simp -dsimp -implicitDefEqProofs (maxDischargeDepth := 6) [hbg5]
   refine (c28 hr4).app ?_; try simp -dsimp -implicitDefEqProofs (maxDischargeDepth := 6) [hbg5]
   cases hbg6 : (bnot r4)
   ·
    replace hg6 := ifF hbg6 hg6
    replace hg6 := Option.some.inj hg6; subst hg6
    try simp -dsimp -implicitDefEqProofs (maxDischargeDepth := 6) [hbg5, hbg6]
    exact J5 _ _ rfl rfl
   ·
    replace hg6 := ifT hbg6 hg6
    replace hg6 := Option.some.inj hg6; subst hg6
    try simp -dsimp -implicitDefEqProofs (maxDischargeDepth := 6) [hbg5, hbg6]
    exact J5 _ _ rfl rfl
  ·
   replace hg5 := ifT hbg5 hg5
   replace hg5 := Option.some.inj hg5; subst hg5
   try simp -dsimp -implicitDefEqProofs (maxDischargeDepth := 6) [hbg5]
   replace hg6 := ifT rfl hg6
   replace hg6 := Option.some.inj hg6; subst hg6
   try simp -dsimp -implicitDefEqProofs (maxDischargeDepth := 6) [hbg5]
   exact J5 _ _ rfl rfl
end Go.Proofs.YtoklfbdcghgmlaaDoor
