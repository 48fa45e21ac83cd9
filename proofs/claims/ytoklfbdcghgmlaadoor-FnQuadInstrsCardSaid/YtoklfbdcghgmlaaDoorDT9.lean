/- The contracts of functions of the program, part 9: each computes what its mirror computes. No conditions. -/
import Derived.Test.YtoklfbdcghgmlaaDoorDT8
set_option linter.unusedSimpArgs false
set_option linter.unusedVariables false
set_option maxRecDepth 20000
set_option maxHeartbeats 4000000
namespace Go.Proofs.YtoklfbdcghgmlaaDoor
open Go Go.Abs Go.RowKit

theorem c45 {p0 : (List Int)} {p1 : Int} {r : Bool} (H : l_hasInt p0 p1 = some r) : APure Tryd.prog G 45 [.fsl (encL rI p0), .int .i64 p1] (.bool r) := by
 refine APure_thaw 4 (fun σ => ?_) (by simp)
 refine ACalls_fn tok Tryd.func45 (by kernel_rfl) rfl Tryd.ntmps45 Tryd.results45 rfl ?_
 simp only [argsA, Nat.reduceAdd]
 refine AWP_ids fun hfr => ?_
 obtain ⟨B, hB⟩ : ∃ B, B = σ.objs := ⟨_, rfl⟩
 obtain ⟨N0, hN0⟩ : ∃ N, N = σ.next := ⟨_, rfl⟩
 have hσ : σ = hp B [] N0 := by rw [hB, hN0]; rfl
 rw [← hN0, ← hB] at hfr ⊢
 rw [hσ]; clear hσ
 unfold l_hasInt at H
 refine AWP_seqk [0, 1] fun K1 hK1 => ?_
 refine AWP_regl tok [] ?_
 simp -dsimp -implicitDefEqProofs (maxDischargeDepth := 6)
 refine keepE2 (l := [0, 1]) (x := [(0, .fsl (encL rI p0)), (1, .int .i64 p1)]) (s := hp B [] (N0 + 1)) rfl rfl fun a' ha => ?_
 refine hK1 _ _ ?_; rw [ha]
 refine AWP_seqk [] fun K2 hK2 => ?_
 refine AWP_seqk [0, 1, 5] fun K3 hK3 => ?_
 refine AWP_regl tok [] ?_
 simp -dsimp -implicitDefEqProofs (maxDischargeDepth := 6)
 refine keepE2 (l := [0, 1, 5]) (x := [(0, .fsl (encL rI p0)), (1, .int .i64 p1), (5, .int .i64 0)]) (s := hp B [] (N0 + 2)) rfl rfl fun a' ha => ?_
 refine hK3 _ _ ?_; rw [ha]
 refine AWP_block ?_
 obtain ⟨e1, hse1, H⟩ := bindE H
 refine AWP_loopM [0, 1, 5] (fun s a σ => ∃ M1 : Nat, N0 ≤ M1 ∧ a = [(0, .fsl (encL rI p0)), (1, .int .i64 p1), (5, .int .i64 s)] ∧ σ = hp B [] M1) (fun e x a σ => SumP e (fun s => x = .exit 0 ∧ ∃ M2 : Nat, N0 ≤ M2 ∧ a.keep [] = [] ∧ σ = hp B [] M2) (fun s => x = .ret ∧ ∃ vs, resA T σ a [.tmp 4] = some vs ∧ thawA (fun o => decide (N0 ≤ o)) σ 4 (tupA vs) = .bool s ∧ ∀ o, o < N0 → σ.objs o = B o)) hse1 ?_ ?_ ?_
 ·
  exact ⟨_, AHeap.Sub.refl _, ⟨N0 + 2, by omega, rfl, rfl⟩⟩
 ·
  clear H hse1
  rintro s1 fl a σ H ⟨M1, hM1_0, rfl, rfl⟩
  unfold l_hasInt_L1 at H; dsimp only at H
  refine AWP_named fun K4 hK4 => ?_
  refine AWP_seqk [0, 1, 5] fun K5 hK5 => ?_
  refine AWP_seqk [0, 1, 5, 9] fun K6 hK6 => ?_
  refine AWP_regl tok [] ?_
  simp -dsimp -implicitDefEqProofs (maxDischargeDepth := 6)
  refine keepE2 (l := [0, 1, 5, 9]) (x := [(0, .fsl (encL rI p0)), (1, .int .i64 p1), (5, .int .i64 s1), (9, .bool (ilt s1 (ilen p0)))]) (s := hp B [] (M1 + 4)) rfl rfl fun a' ha => ?_
  refine hK6 _ _ ?_; rw [ha]
  refine AWP_cond (ilt s1 (ilen p0)) rfl (fun C2 => ?_) (fun C2 => ?_)
  ·
   replace H := ifT C2 H
   refine AWP_skip ?_
   show K5 _ _
   refine keepE (l := [0, 1, 5]) (x := [(0, .fsl (encL rI p0)), (1, .int .i64 p1), (5, .int .i64 s1)]) rfl fun a' ha => ?_
   refine hK5 _ _ ?_; rw [ha]
   refine AWP_seqk [0, 1, 5] fun K7 hK7 => ?_
   refine AWP_block ?_
   refine AWP_seqk [0, 1, 5, 17] fun K8 hK8 => ?_
   obtain ⟨v2, hv2, H⟩ := bindE H
   refine AWP_regl tok [] ?_
   simp -dsimp -implicitDefEqProofs (maxDischargeDepth := 6) [ix24 hv2]
   refine keepE2 (l := [0, 1, 5, 17]) (x := [(0, .fsl (encL rI p0)), (1, .int .i64 p1), (5, .int .i64 s1), (17, .bool (ieq v2 p1))]) (s := hp B [] (M1 + 10)) rfl rfl fun a' ha => ?_
   refine hK8 _ _ ?_; rw [ha]
   refine AWP_cond (ieq v2 p1) rfl (fun C1 => ?_) (fun C1 => ?_)
   ·
    replace H := ifT C1 H
    refine AWP_seqk [4] fun K9 hK9 => ?_
    refine AWP_regl tok [] ?_
    simp -dsimp -implicitDefEqProofs (maxDischargeDepth := 6)
    refine keepE2 (l := [4]) (x := [(4, .bool true)]) (s := hp B [] (M1 + 11)) rfl rfl fun a' ha => ?_
    refine hK9 _ _ ?_; rw [ha]
    refine AWP_ret ?_
    replace H := Option.some.inj H; subst H
    refine doneE (SumP.r ?_)
    refine ⟨rfl, [.bool true], by simp, ?_, ?_⟩
    ·
     simp [encL_nil]
    ·
     intro o ho; exact lk_out (by simp; try omega)
   ·
    replace H := ifF C1 H
    refine AWP_skip ?_
    show K7 _ _
    refine keepE (l := [0, 1, 5]) (x := [(0, .fsl (encL rI p0)), (1, .int .i64 p1), (5, .int .i64 s1)]) rfl fun a' ha => ?_
    refine hK7 _ _ ?_; rw [ha]
    refine AWP_regl tok [] ?_
    simp -dsimp -implicitDefEqProofs (maxDischargeDepth := 6)
    refine keepE2 (l := [0, 1, 5]) (x := [(0, .fsl (encL rI p0)), (1, .int .i64 p1), (5, .int .i64 (iadd .i64 s1 1))]) (s := hp B [] (M1 + 13)) rfl rfl fun a' ha => ?_
    refine hK4 _ _ ?_; replace H := Option.some.inj H; subst H; rw [ha]
    exact ⟨iadd .i64 s1 1, rfl, _, AHeap.Sub.refl _, ⟨M1 + 13, by omega, rfl, rfl⟩⟩
  ·
   replace H := ifF C2 H
   skip
   refine AWP_exit ?_
   replace H := Option.some.inj H; subst H
   refine doneE (SumP.l ?_)
   exact ⟨rfl, M1 + 4, by omega, rfl, rfl⟩
 ·
  intro x a σ hx
  rcases e1 with ⟨⟩ | r0
  ·
   obtain ⟨rfl, M2, hM2_0, ha, rfl⟩ := hx.gl
   dsimp only at H
   show K2 _ _
   refine hK2 _ _ ?_; rw [ha]
   refine AWP_seqk [4] fun K10 hK10 => ?_
   refine AWP_regl tok [] ?_
   simp -dsimp -implicitDefEqProofs (maxDischargeDepth := 6)
   refine keepE2 (l := [4]) (x := [(4, .bool false)]) (s := hp B [] (M2 + 1)) rfl rfl fun a' ha => ?_
   refine hK10 _ _ ?_; rw [ha]
   refine AWP_ret ?_
   replace H := Option.some.inj H; subst H
   refine ⟨[.bool false], by simp, ?_, ?_⟩
   ·
    simp [encL_nil]
   ·
    intro o ho; exact lk_out (by simp; try omega)
  ·
   obtain ⟨rfl, hx2⟩ := hx.gr; replace H := Option.some.inj H; subst H; exact hx2
theorem c10 {p0 : (List Int)} {r : Bool} (H : l_FnQuadInstrs p0 = some r) : APure Tryd.prog G 10 [.fsl (encL rI_u8 p0)] (.bool r) := by
 refine APure_thaw 4 (fun σ => ?_) (by simp)
 refine ACalls_fn tok Tryd.func10 (by kernel_rfl) rfl Tryd.ntmps10 Tryd.results10 rfl ?_
 simp only [argsA, Nat.reduceAdd]
 refine AWP_ids fun hfr => ?_
 obtain ⟨B, hB⟩ : ∃ B, B = σ.objs := ⟨_, rfl⟩
 obtain ⟨N0, hN0⟩ : ∃ N, N = σ.next := ⟨_, rfl⟩
 have hσ : σ = hp B [] N0 := by rw [hB, hN0]; rfl
 rw [← hN0, ← hB] at hfr ⊢
 rw [hσ]; clear hσ
 unfold l_FnQuadInstrs at H
 refine AWP_seqk [0] fun K1 hK1 => ?_
 refine AWP_regl tok [] ?_
 simp -dsimp -implicitDefEqProofs (maxDischargeDepth := 6)
 refine keepE2 (l := [0]) (x := [(0, .fsl (encL rI_u8 p0))]) (s := hp B [] (N0 + 1)) rfl rfl fun a' ha => ?_
 refine hK1 _ _ ?_; rw [ha]
 refine AWP_seqk [0] fun K2 hK2 => ?_
 refine AWP_seqk [0, 15] fun K3 hK3 => ?_
 refine AWP_regl tok [] ?_
 simp -dsimp -implicitDefEqProofs (maxDischargeDepth := 6)
 refine keepE2 (l := [0, 15]) (x := [(0, .fsl (encL rI_u8 p0)), (15, .bool (igt (ilen p0) 1048576))]) (s := hp B [] (N0 + 4)) rfl rfl fun a' ha => ?_
 refine hK3 _ _ ?_; rw [ha]
 refine AWP_cond (igt (ilen p0) 1048576) rfl (fun C4 => ?_) (fun C4 => ?_)
 ·
  replace H := ifT C4 H
  refine AWP_seqk [2] fun K4 hK4 => ?_
  refine AWP_regl tok [] ?_
  simp -dsimp -implicitDefEqProofs (maxDischargeDepth := 6)
  refine keepE2 (l := [2]) (x := [(2, .bool true)]) (s := hp B [] (N0 + 5)) rfl rfl fun a' ha => ?_
  refine hK4 _ _ ?_; rw [ha]
  refine AWP_ret ?_
  replace H := Option.some.inj H; subst H
  refine ⟨[.bool true], by simp, ?_, ?_⟩
  ·
   simp [encL_nil]
  ·
   intro o ho; exact lk_out (by simp; try omega)
 ·
  replace H := ifF C4 H
  refine AWP_skip ?_
  show K2 _ _
  refine keepE (l := [0]) (x := [(0, .fsl (encL rI_u8 p0))]) rfl fun a' ha => ?_
  refine hK2 _ _ ?_; rw [ha]
  refine AWP_seqk [3, 4, 5] fun K5 hK5 => ?_
  obtain ⟨r1, hr1, H⟩ := bindE H
  refine AWP_regl tok [] ?_
  simp -dsimp -implicitDefEqProofs (maxDischargeDepth := 6)
  refine (c27 hr1).app ?_; try simp -dsimp -implicitDefEqProofs (maxDischargeDepth := 6)
  refine keepE2 (l := [3, 4, 5]) (x := [(3, .ptr (N0 + 10) 0 0), (4, .int .i64 r1.2.1), (5, .int .i64 r1.2.2)]) (s := hp B [(N0 + 10, some ⟨40, 5, [[.int .i64 r1.1.Op, .int .i64 r1.1.Dst, .int .i64 r1.1.A, .int .i64 r1.1.B, .int .i64 r1.1.N]]⟩)] (N0 + 14)) rfl rfl fun a' ha => ?_
  refine hK5 _ _ ?_; rw [ha]
  refine AWP_seqk [3, 4, 5, 6, 7] fun K6 hK6 => ?_
  obtain ⟨r2, hr2, H⟩ := bindE H
  refine AWP_regl tok [] ?_
  simp -dsimp -implicitDefEqProofs (maxDischargeDepth := 6)
  refine (c25 hr2).app ?_; try simp -dsimp -implicitDefEqProofs (maxDischargeDepth := 6)
  refine keepE2 (l := [3, 4, 5, 6, 7]) (x := [(3, .ptr (N0 + 10) 0 0), (4, .int .i64 r1.2.1), (5, .int .i64 r1.2.2), (6, .fsl (encL rInstr r2.1)), (7, .bool r2.2)]) (s := hp B [(N0 + 10, some ⟨40, 5, [[.int .i64 r1.1.Op, .int .i64 r1.1.Dst, .int .i64 r1.1.A, .int .i64 r1.1.B, .int .i64 r1.1.N]]⟩)] (N0 + 23)) rfl rfl fun a' ha => ?_
  refine hK6 _ _ ?_; rw [ha]
  refine AWP_seqk [4, 6, 7, 8, 9] fun K7 hK7 => ?_
  obtain ⟨r3, hr3, H⟩ := bindE H
  refine AWP_regl tok [] ?_
  simp -dsimp -implicitDefEqProofs (maxDischargeDepth := 6)
  refine (c23 hr3).app ?_; try simp -dsimp -implicitDefEqProofs (maxDischargeDepth := 6)
  refine keepE2 (l := [4, 6, 7, 8, 9]) (x := [(4, .int .i64 r1.2.1), (6, .fsl (encL rInstr r2.1)), (7, .bool r2.2), (8, .fsl (encL rInstr r3.1)), (9, .bool r3.2)]) (s := hp B [(N0 + 10, some ⟨40, 5, [[.int .i64 r1.1.Op, .int .i64 r1.1.Dst, .int .i64 r1.1.A, .int .i64 r1.1.B, .int .i64 r1.1.N]]⟩)] (N0 + 32)) rfl rfl fun a' ha => ?_
  refine hK7 _ _ ?_; rw [ha]
  refine AWP_seqk [4, 6] fun K8 hK8 => ?_
  refine AWP_seqk [4, 6, 7, 8, 9, 48] fun K9 hK9 => ?_
  obtain ⟨g5, hg5, H⟩ := bindE H
  obtain ⟨g6, hg6, H⟩ := bindE H
  have J4 : ∀ a' σ', AAct.keep a' [4, 6, 7, 8, 9, 48] = [(4, .int .i64 r1.2.1), (6, .fsl (encL rInstr r2.1)), (7, .bool r2.2), (8, .fsl (encL rInstr r3.1)), (9, .bool r3.2), (48, .bool g6)] → σ' = hp B [(N0 + 10, some ⟨40, 5, [[.int .i64 r1.1.Op, .int .i64 r1.1.Dst, .int .i64 r1.1.A, .int .i64 r1.1.B, .int .i64 r1.1.N]]⟩)] (N0 + 45) → K9 a' σ' := by
   intro a' σ' ha hs; subst hs
   refine hK9 _ _ ?_; rw [ha]
   refine AWP_cond g6 rfl (fun C3 => ?_) (fun C3 => ?_)
   ·
    replace H := ifT C3 H
    refine AWP_seqk [2] fun K10 hK10 => ?_
    obtain ⟨g8, hg8, H⟩ := bindE H
    have J1 : ∀ a' σ', AAct.keep a' [2] = [(2, .bool g8)] → σ' = hp B [(N0 + 10, some ⟨40, 5, [[.int .i64 r1.1.Op, .int .i64 r1.1.Dst, .int .i64 r1.1.A, .int .i64 r1.1.B, .int .i64 r1.1.N]]⟩)] (N0 + 54) → K10 a' σ' := by
     intro a' σ' ha hs; subst hs
     refine hK10 _ _ ?_; rw [ha]
     refine AWP_ret ?_
     replace H := Option.some.inj H; subst H
     have e0 : N0 ≤ N0 + 10 := by omega
     refine ⟨[.bool g8], by simp [e0], ?_, ?_⟩
     ·
      simp [encL_nil, e0]
     ·
      intro o ho; exact lk_out (by simp; try omega)
    refine AWP_regl tok [] ?_
    simp -dsimp -implicitDefEqProofs (maxDischargeDepth := 6)
    cases hbg8 : beqb r2.2 r3.2
    ·
     replace hg8 := ifF hbg8 hg8
     replace hg8 := Option.some.inj hg8; subst hg8
     try simp -dsimp -implicitDefEqProofs (maxDischargeDepth := 6) [hbg8]
     exact J1 _ _ rfl rfl
    ·
     replace hg8 := ifT hbg8 hg8
     obtain ⟨r7, hr7, hg8⟩ := bindE hg8
     replace hg8 := Option.some.inj hg8; subst hg8
     try simp -dsimp -implicitDefEqProofs (maxDischargeDepth := 6) [hbg8]
     refine (c28 hr7).app ?_; try simp -dsimp -implicitDefEqProofs (maxDischargeDepth := 6) [hbg8]
     exact J1 _ _ rfl rfl
   ·
    replace H := ifF C3 H
    refine AWP_skip ?_
    show K8 _ _
    refine keepE (l := [4, 6]) (x := [(4, .int .i64 r1.2.1), (6, .fsl (encL rInstr r2.1))]) rfl fun a' ha => ?_
    refine hK8 _ _ ?_; rw [ha]
    refine AWP_seqk [4, 6, 10] fun K11 hK11 => ?_
    have q0 : ∀ σ i, buildSliceA T 24 true i 8 [(0, .int .i64 8), (1, .int .i64 9), (2, .int .i64 18), (3, .int .i64 19), (4, .int .i64 20), (5, .int .i64 21), (6, .int .i64 22), (7, .int .i64 23)] σ = some (.fsl (encL rI ([8, 9, 18, 19, 20, 21, 22, 23] : List Int)), σ) := fun _ _ => rfl
    refine AWP_regl tok [0] ?_
    simp -dsimp -implicitDefEqProofs (maxDischargeDepth := 6) [q0]
    refine keepE2 (l := [4, 6, 10]) (x := [(4, .int .i64 r1.2.1), (6, .fsl (encL rInstr r2.1)), (10, .fsl (encL rI ([8, 9, 18, 19, 20, 21, 22, 23] : List Int)))]) (s := hp B [(N0 + 10, some ⟨40, 5, [[.int .i64 r1.1.Op, .int .i64 r1.1.Dst, .int .i64 r1.1.A, .int .i64 r1.1.B, .int .i64 r1.1.N]]⟩)] (N0 + 47)) rfl rfl fun a' ha => ?_
    refine hK11 _ _ ?_; rw [ha]
    refine AWP_seqk [6, 11] fun K12 hK12 => ?_
    obtain ⟨l9, hl9, H⟩ := bindE H
    obtain ⟨l10, hl10, H⟩ := bindE H
    obtain ⟨l11, hl11, H⟩ := bindE H
    have q1 : ∀ σ i, buildSliceA T 24 false i 9 [(0, .int .i64 0), (1, .int .i64 1), (2, .int .i64 2), (3, .int .i64 5), (4, .int .i64 6), (5, .int .i64 7), (6, .int .i64 10), (7, .int .i64 11), (8, .int .i64 17)] σ = some (.sl i 0 (List.length l9), σ.put i ⟨3, 1, encL rI l9⟩) := by rw [← Option.some.inj hl9]; intro _ _; rfl
    refine AWP_regl tok [] ?_
    simp -dsimp -implicitDefEqProofs (maxDischargeDepth := 6) [q1, cuth_24 hl10, app24 hl11]
    refine keepE2 (l := [6, 11]) (x := [(6, .fsl (encL rInstr r2.1)), (11, .sl (N0 + 51) 0 l11.length)]) (s := hp B [(N0 + 10, some ⟨40, 5, [[.int .i64 r1.1.Op, .int .i64 r1.1.Dst, .int .i64 r1.1.A, .int .i64 r1.1.B, .int .i64 r1.1.N]]⟩), (N0 + 47, none), (N0 + 51, some ⟨3, 1, encL rI l11⟩)] (N0 + 53)) rfl rfl fun a' ha => ?_
    refine hK12 _ _ ?_; rw [ha]
    refine AWP_seqk [6] fun K13 hK13 => ?_
    refine AWP_seqk [6, 11, 12] fun K14 hK14 => ?_
    refine AWP_regl tok [] ?_
    simp -dsimp -implicitDefEqProofs (maxDischargeDepth := 6)
    refine keepE2 (l := [6, 11, 12]) (x := [(6, .fsl (encL rInstr r2.1)), (11, .sl (N0 + 51) 0 l11.length), (12, .int .i64 0)]) (s := hp B [(N0 + 10, some ⟨40, 5, [[.int .i64 r1.1.Op, .int .i64 r1.1.Dst, .int .i64 r1.1.A, .int .i64 r1.1.B, .int .i64 r1.1.N]]⟩), (N0 + 47, none), (N0 + 51, some ⟨3, 1, encL rI l11⟩)] (N0 + 54)) rfl rfl fun a' ha => ?_
    refine hK14 _ _ ?_; rw [ha]
    refine AWP_block ?_
    obtain ⟨e1, hse1, H⟩ := bindE H
    refine AWP_loopM [6, 11, 12] (fun s a σ => ∃ M1 o1 : Nat, N0 ≤ M1 ∧ N0 ≤ o1 ∧ o1 < M1 ∧ a = [(6, .fsl (encL rInstr r2.1)), (11, .sl o1 0 s.2.length), (12, .int .i64 s.1)] ∧ σ = hp B [(o1, some ⟨3, 1, encL rI s.2⟩)] M1) (fun e x a σ => SumP e (fun s => x = .exit 0 ∧ ∃ M2 : Nat, N0 ≤ M2 ∧ a.keep [6] = [(6, .fsl (encL rInstr r2.1))] ∧ σ = hp B [] M2) (fun s => x = .ret ∧ ∃ vs, resA T σ a [.tmp 2] = some vs ∧ thawA (fun o => decide (N0 ≤ o)) σ 4 (tupA vs) = .bool s ∧ ∀ o, o < N0 → σ.objs o = B o)) hse1 ?_ ?_ ?_
    ·
     exact ⟨_, AHeap.Sub.trans (AHeap.Sub.trans (hp_skip (AHeap.Sub.refl _)) (hp_drop (by first | exact hfr _ (by omega) | omega) (by simp; try omega))) (hp_drop (by first | exact hfr _ (by omega) | omega) (by simp; try omega)), ⟨N0 + 54, (N0 + 51), by omega, by omega, by omega, rfl, rfl⟩⟩
    ·
     clear H hse1
     rintro ⟨s12, s13⟩ fl a σ H ⟨M1, o1, hM1_0, hM1_1, hM1_2, rfl, rfl⟩
     unfold l_FnQuadInstrs_L1 at H; dsimp only at H
     refine AWP_named fun K15 hK15 => ?_
     refine AWP_seqk [6, 11, 12] fun K16 hK16 => ?_
     refine AWP_seqk [6, 11, 12, 66] fun K17 hK17 => ?_
     refine AWP_regl tok [] ?_
     simp -dsimp -implicitDefEqProofs (maxDischargeDepth := 6)
     refine keepE2 (l := [6, 11, 12, 66]) (x := [(6, .fsl (encL rInstr r2.1)), (11, .sl o1 0 s13.length), (12, .int .i64 s12), (66, .bool (ilt s12 (ilen r2.1)))]) (s := hp B [(o1, some ⟨3, 1, encL rI s13⟩)] (M1 + 4)) rfl rfl fun a' ha => ?_
     refine hK17 _ _ ?_; rw [ha]
     refine AWP_cond (ilt s12 (ilen r2.1)) rfl (fun C2 => ?_) (fun C2 => ?_)
     ·
      replace H := ifT C2 H
      refine AWP_skip ?_
      show K16 _ _
      refine keepE (l := [6, 11, 12]) (x := [(6, .fsl (encL rInstr r2.1)), (11, .sl o1 0 s13.length), (12, .int .i64 s12)]) rfl fun a' ha => ?_
      refine hK16 _ _ ?_; rw [ha]
      refine AWP_seqk [6, 11, 12] fun K18 hK18 => ?_
      refine AWP_block ?_
      refine AWP_seqk [6, 11, 12, 104] fun K19 hK19 => ?_
      obtain ⟨v14, hv14, H⟩ := bindE H
      obtain ⟨r15, hr15, H⟩ := bindE H
      obtain ⟨g17, hg17, H⟩ := bindE H
      obtain ⟨g19, hg19, H⟩ := bindE H
      obtain ⟨g21, hg21, H⟩ := bindE H
      have J2 : ∀ a' σ', AAct.keep a' [6, 11, 12, 104] = [(6, .fsl (encL rInstr r2.1)), (11, .sl o1 0 s13.length), (12, .int .i64 s12), (104, .bool g21)] → σ' = hp B [(o1, some ⟨3, 1, encL rI s13⟩)] (M1 + 40) → K19 a' σ' := by
       intro a' σ' ha hs; subst hs
       refine hK19 _ _ ?_; rw [ha]
       refine AWP_cond g21 rfl (fun C1 => ?_) (fun C1 => ?_)
       ·
        replace H := ifT C1 H
        refine AWP_seqk [2] fun K20 hK20 => ?_
        refine AWP_regl tok [] ?_
        simp -dsimp -implicitDefEqProofs (maxDischargeDepth := 6)
        refine keepE2 (l := [2]) (x := [(2, .bool false)]) (s := hp B [(o1, some ⟨3, 1, encL rI s13⟩)] (M1 + 41)) rfl rfl fun a' ha => ?_
        refine hK20 _ _ ?_; rw [ha]
        refine AWP_ret ?_
        replace H := Option.some.inj H; subst H
        have e0 : N0 ≤ o1 := by omega
        refine doneE (SumP.r ?_)
        refine ⟨rfl, [.bool false], by simp [e0], ?_, ?_⟩
        ·
         simp [encL_nil, e0]
        ·
         intro o ho; exact lk_out (by simp; try omega)
       ·
        replace H := ifF C1 H
        refine AWP_skip ?_
        show K18 _ _
        refine keepE (l := [6, 11, 12]) (x := [(6, .fsl (encL rInstr r2.1)), (11, .sl o1 0 s13.length), (12, .int .i64 s12)]) rfl fun a' ha => ?_
        refine hK18 _ _ ?_; rw [ha]
        refine AWP_regl tok [] ?_
        simp -dsimp -implicitDefEqProofs (maxDischargeDepth := 6)
        refine keepE2 (l := [6, 11, 12]) (x := [(6, .fsl (encL rInstr r2.1)), (11, .sl o1 0 s13.length), (12, .int .i64 (iadd .i64 s12 1))]) (s := hp B [(o1, some ⟨3, 1, encL rI s13⟩)] (M1 + 43)) rfl rfl fun a' ha => ?_
        refine hK15 _ _ ?_; replace H := Option.some.inj H; subst H; rw [ha]
        exact ⟨(iadd .i64 s12 1, s13), rfl, _, AHeap.Sub.refl _, ⟨M1 + 43, o1, by omega, by omega, by omega, rfl, rfl⟩⟩
      refine AWP_regl tok [] ?_
      simp -dsimp -implicitDefEqProofs (maxDischargeDepth := 6) [ix29 hv14]
      refine (c44 hr15).app ?_; try simp -dsimp -implicitDefEqProofs (maxDischargeDepth := 6) [ix29 hv14]
      cases hbg17 : bnot r15
      ·
       replace hg17 := ifF hbg17 hg17
       obtain ⟨r16, hr16, hg17⟩ := bindE hg17
       replace hg17 := Option.some.inj hg17; subst hg17
       try simp -dsimp -implicitDefEqProofs (maxDischargeDepth := 6) [ix29 hv14, hbg17, ix29 hv14]
       refine (borrow 4 (c45 hr16) (by simp [ix29 hv14, hbg17, ix29 hv14]) rfl).mono ?_; rintro _ _ ⟨rfl, rfl⟩; try simp -dsimp -implicitDefEqProofs (maxDischargeDepth := 6) [ix29 hv14, hbg17, ix29 hv14]
       cases hbg19 : (bnot r16)
       ·
        replace hg19 := ifF hbg19 hg19
        obtain ⟨r18, hr18, hg19⟩ := bindE hg19
        replace hg19 := Option.some.inj hg19; subst hg19
        try simp -dsimp -implicitDefEqProofs (maxDischargeDepth := 6) [ix29 hv14, hbg17, ix29 hv14, hbg19, ix29 hv14]
        refine (borrow 4 (c45 hr18) (by simp [ix29 hv14, hbg17, ix29 hv14, hbg19, ix29 hv14]) rfl).mono ?_; rintro _ _ ⟨rfl, rfl⟩; try simp -dsimp -implicitDefEqProofs (maxDischargeDepth := 6) [ix29 hv14, hbg17, ix29 hv14, hbg19, ix29 hv14]
        cases hbg21 : (bnot r18)
        ·
         replace hg21 := ifF hbg21 hg21
         obtain ⟨r20, hr20, hg21⟩ := bindE hg21
         replace hg21 := Option.some.inj hg21; subst hg21
         try simp -dsimp -implicitDefEqProofs (maxDischargeDepth := 6) [ix29 hv14, hbg17, ix29 hv14, hbg19, ix29 hv14, hbg21, ix29 hv14]
         refine (borrow 4 (c45 hr20) (by simp [ix29 hv14, hbg17, ix29 hv14, hbg19, ix29 hv14, hbg21, ix29 hv14]) rfl).mono ?_; rintro _ _ ⟨rfl, rfl⟩; try simp -dsimp -implicitDefEqProofs (maxDischargeDepth := 6) [ix29 hv14, hbg17, ix29 hv14, hbg19, ix29 hv14, hbg21, ix29 hv14]
         exact J2 _ _ rfl rfl
        ·
         replace hg21 := ifT hbg21 hg21
         replace hg21 := Option.some.inj hg21; subst hg21
         try simp -dsimp -implicitDefEqProofs (maxDischargeDepth := 6) [ix29 hv14, hbg17, ix29 hv14, hbg19, ix29 hv14, hbg21]
         exact J2 _ _ rfl rfl
       ·
        replace hg19 := ifT hbg19 hg19
        replace hg19 := Option.some.inj hg19; subst hg19
        try simp -dsimp -implicitDefEqProofs (maxDischargeDepth := 6) [ix29 hv14, hbg17, ix29 hv14, hbg19]
        replace hg21 := ifT rfl hg21
        replace hg21 := Option.some.inj hg21; subst hg21
        try simp -dsimp -implicitDefEqProofs (maxDischargeDepth := 6) [ix29 hv14, hbg17, ix29 hv14, hbg19]
        exact J2 _ _ rfl rfl
      ·
       replace hg17 := ifT hbg17 hg17
       replace hg17 := Option.some.inj hg17; subst hg17
       try simp -dsimp -implicitDefEqProofs (maxDischargeDepth := 6) [ix29 hv14, hbg17]
       replace hg19 := ifT rfl hg19
       replace hg19 := Option.some.inj hg19; subst hg19
       try simp -dsimp -implicitDefEqProofs (maxDischargeDepth := 6) [ix29 hv14, hbg17]
       replace hg21 := ifT rfl hg21
       replace hg21 := Option.some.inj hg21; subst hg21
       try simp -dsimp -implicitDefEqProofs (maxDischargeDepth := 6) [ix29 hv14, hbg17]
       exact J2 _ _ rfl rfl
     ·
      replace H := ifF C2 H
      refine AWP_sub (AHeap.Sub.trans (AHeap.Sub.refl _) (hp_drop (by first | exact hfr _ (by omega) | omega) (by simp; try omega))) ?_
      refine AWP_exit ?_
      replace H := Option.some.inj H; subst H
      refine doneE (SumP.l ?_)
      exact ⟨rfl, M1 + 4, by omega, rfl, rfl⟩
    ·
     intro x a σ hx
     rcases e1 with ⟨⟩ | r0
     ·
      obtain ⟨rfl, M2, hM2_0, ha, rfl⟩ := hx.gl
      dsimp only at H
      show K13 _ _
      refine hK13 _ _ ?_; rw [ha]
      refine AWP_seqk [2] fun K21 hK21 => ?_
      obtain ⟨g22, hg22, H⟩ := bindE H
      have J3 : ∀ a' σ', AAct.keep a' [2] = [(2, .bool g22)] → σ' = hp B [] (M2 + 9) → K21 a' σ' := by
       intro a' σ' ha hs; subst hs
       refine hK21 _ _ ?_; rw [ha]
       refine AWP_ret ?_
       replace H := Option.some.inj H; subst H
       refine ⟨[.bool g22], by simp, ?_, ?_⟩
       ·
        simp [encL_nil]
       ·
        intro o ho; exact lk_out (by simp; try omega)
      refine AWP_regl tok [] ?_
      simp -dsimp -implicitDefEqProofs (maxDischargeDepth := 6)
      cases hbg22 : ige (ilen r2.1) 1
      ·
       replace hg22 := ifF hbg22 hg22
       replace hg22 := Option.some.inj hg22; subst hg22
       try simp -dsimp -implicitDefEqProofs (maxDischargeDepth := 6) [hbg22]
       exact J3 _ _ rfl rfl
      ·
       replace hg22 := ifT hbg22 hg22
       replace hg22 := Option.some.inj hg22; subst hg22
       try simp -dsimp -implicitDefEqProofs (maxDischargeDepth := 6) [hbg22]
       exact J3 _ _ rfl rfl
     ·
      obtain ⟨rfl, hx2⟩ := hx.gr; replace H := Option.some.inj H; subst H; exact hx2
  refine AWP_regl tok [] ?_
  simp -dsimp -implicitDefEqProofs (maxDischargeDepth := 6)
  cases hbg5 : bneb r2.2 r3.2
  ·
   replace hg5 := ifF hbg5 hg5
   obtain ⟨r4, hr4, hg5⟩ := bindE hg5
   replace hg5 := Option.some.inj hg5; subst hg5
   try simp -dsimp -implicitDefEqProofs (maxDischargeDepth := 6) [hbg5]
   refine (c28 hr4).app ?_; try simp -dsimp -implicitDefEqProofs (maxDischargeDepth := 6) [hbg5]
   cases hbg6 : (bnot r4)
   ·
    replace hg6 := ifF hbg6 hg6
    replace hg6 := Option.some.inj hg6; subst hg6
    try simp -dsimp -implicitDefEqProofs (maxDischargeDepth := 6) [hbg5, hbg6]
    exact J4 _ _ rfl rfl
   ·
    replace hg6 := ifT hbg6 hg6
    replace hg6 := Option.some.inj hg6; subst hg6
    try simp -dsimp -implicitDefEqProofs (maxDischargeDepth := 6) [hbg5, hbg6]
    exact J4 _ _ rfl rfl
  ·
   replace hg5 := ifT hbg5 hg5
   replace hg5 := Option.some.inj hg5; subst hg5
   try simp -dsimp -implicitDefEqProofs (maxDischargeDepth := 6) [hbg5]
   replace hg6 := ifT rfl hg6
   replace hg6 := Option.some.inj hg6; subst hg6
   try simp -dsimp -implicitDefEqProofs (maxDischargeDepth := 6) [hbg5]
   exact J4 _ _ rfl rfl
end Go.Proofs.YtoklfbdcghgmlaaDoor
