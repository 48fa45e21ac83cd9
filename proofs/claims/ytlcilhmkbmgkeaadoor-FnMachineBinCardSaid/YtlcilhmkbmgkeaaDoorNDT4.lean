/- The contracts of functions of the program, part 4: each computes what its mirror computes. No conditions. -/
import Derived.Test.YtlcilhmkbmgkeaaDoorNDT3
set_option linter.unusedSimpArgs false
set_option linter.unusedVariables false
set_option maxRecDepth 20000
set_option maxHeartbeats 4000000
namespace Go.Proofs.YtlcilhmkbmgkeaaDoor
open Go Go.Abs Go.RowKit

theorem c23_o2_b {p0 : gMachine} {p1 : Int} {r : gMachine × Int × Int} (H : i_MachineRun_o2 p0 p1 = some r) {σ : AHeap} {args : List AV} (hy : args.map (thawA (fun _ => true) σ 8) = [.agg [.fsl (encL rI p0.Regs), .int .i64 p0.Pc, .fsl (encL rI p0.Mem)], .int .i64 p1]) : ACalls Tryd.prog G 23 args σ (fun v σ' => ∃ M n0 n1 : Nat, σ.next ≤ M ∧ σ.next ≤ n0 ∧ n0 < M ∧ σ.next ≤ n1 ∧ n1 < M ∧ ¬ n0 = n1 ∧ v = .tup [.agg [.sl n0 0 r.1.Regs.length, .int .i64 r.1.Pc, .sl n1 0 r.1.Mem.length], .int .i64 r.2.1, .int .i64 r.2.2] ∧ σ' = hp σ.objs [(n0, some ⟨3, 1, encL rI r.1.Regs⟩), (n1, some ⟨3, 1, encL rI r.1.Mem⟩)] M) := by
 refine borrowQ 8 8 (c23_o2 (σ := ⟨E0, σ.next⟩) H) hy ?_
 rintro _ _ ⟨M, n0, n1, h0, h1, h2, h3, h4, h5, rfl, rfl⟩
 refine ⟨_, M, rfl, by simp [AV.rnf, AV.simp1], fun p hp ob ho => ?_, by simp, M, n0, n1, h0, h1, h2, h3, h4, h5, rfl, rfl⟩
 simp only [List.mem_cons, List.not_mem_nil, or_false] at hp
 rcases hp with rfl | rfl <;> (cases ho; first | exact encL_nf (fun x => nf_rI 7 x) _ | exact encL_nf (fun x => nf_rI 7 x) _ | simp [AV.nf, AV.simp1])
theorem c24 {p0 : Int} {p1 : Int} {p2 : Int} {r : Int × Bool} (H : i_Apply p0 p1 p2 = some r) : APure Tryd.prog G 24 [.int .i64 p0, .int .i64 p1, .int .i64 p2] (.tup [.int .i64 r.1, .bool r.2]) := by
 refine APure_fn (fun N0 => ?_) (by simp)
 refine ACalls_fn tok Tryd.func24 (by kernel_rfl) rfl Tryd.ntmps24 Tryd.results24 rfl ?_
 simp only [argsA, Nat.reduceAdd, hp_next]
 unfold i_Apply at H
 refine S0 tok [] [0, 1, 2] ?_
 refine AWP_sq [0, 1, 2] fun K1 hK1 => ?_
 obtain ⟨r1, hr1, H⟩ := bindE H
 obtain ⟨g3, hg3, H⟩ := bindE H
 obtain ⟨g5, hg5, H⟩ := bindE H
 refine AWP_sr tok [] [0, 1, 2, 20] (fun a σ => a = [(0, .int .i64 p0), (1, .int .i64 p1), (2, .int .i64 p2), (20, .bool g5)] ∧ σ = hp E0 [] (N0 + 15)) (fun K hK => ?_) ?_
 ·
  simp -dsimp -implicitDefEqProofs (maxDischargeDepth := 6)
  refine (c54 hr1).app ?_; try simp -dsimp -implicitDefEqProofs (maxDischargeDepth := 6)
  cases hbg3 : bnot r1
  ·
   replace hg3 := ifF hbg3 hg3
   obtain ⟨r2, hr2, hg3⟩ := bindE hg3
   replace hg3 := oi hg3; subst hg3
   try simp -dsimp -implicitDefEqProofs (maxDischargeDepth := 6) [hbg3]
   refine (c55 hr2).app ?_; try simp -dsimp -implicitDefEqProofs (maxDischargeDepth := 6) [hbg3]
   cases hbg5 : (bnot r2)
   ·
    replace hg5 := ifF hbg5 hg5
    obtain ⟨r4, hr4, hg5⟩ := bindE hg5
    replace hg5 := oi hg5; subst hg5
    try simp -dsimp -implicitDefEqProofs (maxDischargeDepth := 6) [hbg3, hbg5]
    refine (c55 hr4).app ?_; try simp -dsimp -implicitDefEqProofs (maxDischargeDepth := 6) [hbg3, hbg5]
    exact hK _ _ ⟨rfl, rfl⟩
   ·
    replace hg5 := ifT hbg5 hg5
    replace hg5 := oi hg5; subst hg5
    try simp -dsimp -implicitDefEqProofs (maxDischargeDepth := 6) [hbg3, hbg5]
    exact hK _ _ ⟨rfl, rfl⟩
  ·
   replace hg3 := ifT hbg3 hg3
   replace hg3 := oi hg3; subst hg3
   try simp -dsimp -implicitDefEqProofs (maxDischargeDepth := 6) [hbg3]
   replace hg5 := ifT rfl hg5
   replace hg5 := oi hg5; subst hg5
   try simp -dsimp -implicitDefEqProofs (maxDischargeDepth := 6) [hbg3]
   exact hK _ _ ⟨rfl, rfl⟩
 rintro a σ ⟨rfl, rfl⟩
 refine AWP_cond g5 rfl (fun C1 => ?_) (fun C1 => ?_)
 ·
  replace H := ifT C1 H
  refine S0 tok [] [6, 7] ?_
  replace H := oi H; subst H; exact AWP_ret ⟨_, rfl, 4, by simp [encL_nil]⟩
 ·
  replace H := ifF C1 H
  refine AWP_skip (Jn hK1 ?_)
  obtain ⟨r6, hr6, H⟩ := bindE H
  refine Sx tok [] [6, 7] (by intro K k; (repeat first | simp -dsimp -implicitDefEqProofs (maxDischargeDepth := 6) | refine (c56 hr6).app ?_); exact k) ?_
  replace H := oi H; subst H; exact AWP_ret ⟨_, rfl, 4, by simp [encL_nil]⟩
theorem c4 {p0 : (List Int)} {p1 : (List Int)} {r : Bool} (H : l_FnMachineBin p0 p1 = some r) : APure Tryd.prog G 4 [.fsl (encL rI_u8 p0), .fsl (encL rI_u8 p1)] (.bool r) := by
 refine APure_fn (fun N0 => ?_) (by simp)
 refine ACalls_fn tok Tryd.func4 (by kernel_rfl) rfl Tryd.ntmps4 Tryd.results4 rfl ?_
 simp only [argsA, Nat.reduceAdd, hp_next]
 unfold l_FnMachineBin at H
 refine S0 tok [] [0, 1] ?_
 refine AWP_sq [0, 1] fun K1 hK1 => ?_
 obtain ⟨g1, hg1, H⟩ := bindE H
 refine AWP_sr tok [] [0, 1, 31] (fun a σ => a = [(0, .fsl (encL rI_u8 p0)), (1, .fsl (encL rI_u8 p1)), (31, .bool g1)] ∧ σ = hp E0 [] (N0 + 9)) (fun K hK => ?_) ?_
 ·
  simp -dsimp -implicitDefEqProofs (maxDischargeDepth := 6)
  cases hbg1 : igt (ilen p0) 1048576
  ·
   replace hg1 := ifF hbg1 hg1
   replace hg1 := oi hg1; subst hg1
   try simp -dsimp -implicitDefEqProofs (maxDischargeDepth := 6) [hbg1]
   exact hK _ _ ⟨rfl, rfl⟩
  ·
   replace hg1 := ifT hbg1 hg1
   replace hg1 := oi hg1; subst hg1
   try simp -dsimp -implicitDefEqProofs (maxDischargeDepth := 6) [hbg1]
   exact hK _ _ ⟨rfl, rfl⟩
 rintro a σ ⟨rfl, rfl⟩
 refine AWP_cond g1 rfl (fun C1 => ?_) (fun C1 => ?_)
 ·
  replace H := ifT C1 H
  refine S0 tok [] [4] ?_
  replace H := oi H; subst H; exact AWP_ret ⟨_, rfl, 4, by simp [encL_nil]⟩
 ·
  replace H := ifF C1 H
  refine AWP_skip (Jn hK1 ?_)
  obtain ⟨r2, hr2, H⟩ := bindE H
  refine Sx tok [] [1, 5, 6, 7] (by intro K k; (repeat first | simp -dsimp -implicitDefEqProofs (maxDischargeDepth := 6) | refine (c17 hr2).app ?_); exact k) ?_
  obtain ⟨r3, hr3, H⟩ := bindE H
  refine Sx tok [] [1, 5, 6, 7, 8, 9] (by intro K k; (repeat first | simp -dsimp -implicitDefEqProofs (maxDischargeDepth := 6) | refine (c18 hr3).app ?_); exact k) ?_
  obtain ⟨r4, hr4, H⟩ := bindE H
  refine Sx tok [] [1, 5, 6, 8, 9, 10, 11] (by intro K k; (repeat first | simp -dsimp -implicitDefEqProofs (maxDischargeDepth := 6) | refine (c19 hr4).app ?_); exact k) ?_
  refine AWP_sq [1, 5, 6, 8] fun K2 hK2 => ?_
  obtain ⟨g6, hg6, H⟩ := bindE H
  obtain ⟨g7, hg7, H⟩ := bindE H
  refine AWP_sr tok [] [1, 5, 6, 8, 9, 10, 11, 64] (fun a σ => a = [(1, .fsl (encL rI_u8 p1)), (5, .ptr (N0 + 15) 0 0), (6, .int .i64 r2.2.1), (8, .fsl (encL rInstr r3.1)), (9, .bool r3.2), (10, .fsl (encL rInstr r4.1)), (11, .bool r4.2), (64, .bool g7)] ∧ σ = hp E0 [(N0 + 15, some ⟨43, 5, [[.int .i64 r2.1.Op, .int .i64 r2.1.Dst, .int .i64 r2.1.A, .int .i64 r2.1.B, .int .i64 r2.1.N]]⟩)] (N0 + 50)) (fun K hK => ?_) ?_
  ·
   simp -dsimp -implicitDefEqProofs (maxDischargeDepth := 6)
   cases hbg6 : bneb r3.2 r4.2
   ·
    replace hg6 := ifF hbg6 hg6
    obtain ⟨r5, hr5, hg6⟩ := bindE hg6
    replace hg6 := oi hg6; subst hg6
    try simp -dsimp -implicitDefEqProofs (maxDischargeDepth := 6) [hbg6]
    refine (c20 hr5).app ?_; try simp -dsimp -implicitDefEqProofs (maxDischargeDepth := 6) [hbg6]
    cases hbg7 : (bnot r5)
    ·
     replace hg7 := ifF hbg7 hg7
     replace hg7 := oi hg7; subst hg7
     try simp -dsimp -implicitDefEqProofs (maxDischargeDepth := 6) [hbg6, hbg7]
     exact hK _ _ ⟨rfl, rfl⟩
    ·
     replace hg7 := ifT hbg7 hg7
     replace hg7 := oi hg7; subst hg7
     try simp -dsimp -implicitDefEqProofs (maxDischargeDepth := 6) [hbg6, hbg7]
     exact hK _ _ ⟨rfl, rfl⟩
   ·
    replace hg6 := ifT hbg6 hg6
    replace hg6 := oi hg6; subst hg6
    try simp -dsimp -implicitDefEqProofs (maxDischargeDepth := 6) [hbg6]
    replace hg7 := ifT rfl hg7
    replace hg7 := oi hg7; subst hg7
    try simp -dsimp -implicitDefEqProofs (maxDischargeDepth := 6) [hbg6]
    exact hK _ _ ⟨rfl, rfl⟩
  rintro a σ ⟨rfl, rfl⟩
  refine AWP_cond g7 rfl (fun C2 => ?_) (fun C2 => ?_)
  ·
   replace H := ifT C2 H
   obtain ⟨g9, hg9, H⟩ := bindE H
   refine AWP_sr tok [] [4] (fun a σ => a = [(4, .bool g9)] ∧ σ = hp E0 [(N0 + 15, some ⟨43, 5, [[.int .i64 r2.1.Op, .int .i64 r2.1.Dst, .int .i64 r2.1.A, .int .i64 r2.1.B, .int .i64 r2.1.N]]⟩)] (N0 + 59)) (fun K hK => ?_) ?_
   ·
    simp -dsimp -implicitDefEqProofs (maxDischargeDepth := 6)
    cases hbg9 : beqb r3.2 r4.2
    ·
     replace hg9 := ifF hbg9 hg9
     replace hg9 := oi hg9; subst hg9
     try simp -dsimp -implicitDefEqProofs (maxDischargeDepth := 6) [hbg9]
     exact hK _ _ ⟨rfl, rfl⟩
    ·
     replace hg9 := ifT hbg9 hg9
     obtain ⟨r8, hr8, hg9⟩ := bindE hg9
     replace hg9 := oi hg9; subst hg9
     try simp -dsimp -implicitDefEqProofs (maxDischargeDepth := 6) [hbg9]
     refine (c20 hr8).app ?_; try simp -dsimp -implicitDefEqProofs (maxDischargeDepth := 6) [hbg9]
     exact hK _ _ ⟨rfl, rfl⟩
   rintro a σ ⟨rfl, rfl⟩
   replace H := oi H; subst H; exact AWP_ret ⟨_, rfl, 4, by simp [encL_nil]⟩
  ·
   replace H := ifF C2 H
   refine AWP_skip (Jn hK2 ?_)
   refine AWP_sq [1, 5, 6, 8] fun K3 hK3 => ?_
   refine S0 tok [] [1, 5, 6, 8, 75] ?_
   refine AWP_cond (ine r2.1.Op 3) rfl (fun C3 => ?_) (fun C3 => ?_)
   ·
    replace H := ifT C3 H
    refine S0 tok [] [4] ?_
    replace H := oi H; subst H; exact AWP_ret ⟨_, rfl, 4, by simp [encL_nil]⟩
   ·
    replace H := ifF C3 H
    refine AWP_skip (Jn hK3 ?_)
    have q0 : ∀ σ i, buildSliceA T 22 true i 8 [(0, .int .i64 8), (1, .int .i64 9), (2, .int .i64 18), (3, .int .i64 19), (4, .int .i64 20), (5, .int .i64 21), (6, .int .i64 22), (7, .int .i64 23)] σ = some (.fsl (encL rI ([8, 9, 18, 19, 20, 21, 22, 23] : List Int)), σ) := fun _ _ => rfl
    refine Sx tok [0] [1, 5, 6, 8, 12] (by intro K k; simp -dsimp -implicitDefEqProofs (maxDischargeDepth := 6) [q0]; exact k) ?_
    obtain ⟨r10, hr10, H⟩ := bindE H
    refine Sx tok [] [1, 5, 6, 8, 12, 13] (by intro K k; (repeat first | simp -dsimp -implicitDefEqProofs (maxDischargeDepth := 6) | refine (c21 hr10).app ?_); exact k) ?_
    obtain ⟨v11, hv11, H⟩ := bindE H
    refine Sx tok [] [5, 6, 8, 12, 13, 14] (by intro K k; simp -dsimp -implicitDefEqProofs (maxDischargeDepth := 6) [hv11]; exact k) ?_
    obtain ⟨j1, hj1, H⟩ := bindE H
    refine AWP_seq (AWP_named fun K10 hK10 => ?_)
    have hJ1 : ∀ a σ, Rc G 204 N0 (fun a σ => ∃ M1 : Nat, N0 ≤ M1 ∧ N0 + 15 < M1 ∧ a = [(5, .ptr (N0 + 15) 0 0), (6, .int .i64 r2.2.1), (8, .fsl (encL rInstr r3.1)), (12, .fsl (encL rI ([8, 9, 18, 19, 20, 21, 22, 23] : List Int))), (13, .int .i64 r10), (14, .int .i64 j1)] ∧ σ = hp E0 [(N0 + 15, some ⟨43, 5, [[.int .i64 r2.1.Op, .int .i64 r2.1.Dst, .int .i64 r2.1.A, .int .i64 r2.1.B, .int .i64 r2.1.N]]⟩)] M1) (a.keep [5, 6, 8, 12, 13, 14]) σ → K10 a σ := by
     rintro a σ ⟨b, τ, hr, M1, fM1_0, fM1_1, rfl, rfl⟩
     refine hK10 _ _ (AWP_keep [5, 6, 8, 12, 13, 14] (AWP_ref hr ?_))
     obtain ⟨r13, hr13, H⟩ := bindE H
     obtain ⟨l14, hl14, H⟩ := bindE H
     obtain ⟨l15, hl15, H⟩ := bindE H
     refine AWP_syC tok tokM [] [0, 2, 3, 5, 6] [1, 2, 3, 0, 4, 5, 6] [] [5, 6, 8, 12, 13, 14, 15] (fun a σ => ∃ M2 o1 : Nat, M1 + 7 ≤ M2 ∧ M1 + 7 ≤ o1 ∧ o1 < M2 ∧ a = [(5, .ptr (N0 + 15) 0 0), (6, .int .i64 r2.2.1), (8, .fsl (encL rInstr r3.1)), (12, .fsl (encL rI ([8, 9, 18, 19, 20, 21, 22, 23] : List Int))), (13, .int .i64 r10), (14, .int .i64 j1), (15, .ptr (M1 + 5) 0 0)] ∧ σ = hp E0 [(N0 + 15, some ⟨43, 5, [[.int .i64 r2.1.Op, .int .i64 r2.1.Dst, .int .i64 r2.1.A, .int .i64 r2.1.B, .int .i64 r2.1.N]]⟩), (M1 + 3, some ⟨3, 1, encL rI l14⟩), (M1, some ⟨3, 1, encL rI l15⟩), (M1 + 5, some ⟨53, 3, [[.sl M1 0 l15.length, .int .i64 0, .sl (M1 + 3) 0 l14.length]]⟩)] M2) (by decide) (by kernel_rfl) (fun K hK => ?_) ?_
     ·
      simp only [pickL, nthO_succ, nthO_zero]
      have e0 := nQ (N0 + 15) (M1 + 3)
      have e1 := nQ (N0 + 12) M1
      have e2 := nQ (N0 + 15) M1
      have e3 := nQ (N0 + 15) (M1 + 5)
      have e4 := nQ (N0 + 10) M1
      simp -dsimp -implicitDefEqProofs (maxDischargeDepth := 6) [e0, e1, e2, e3, e4, appz22_3 hl14, mak22 hl15]
      refine (c22_o (H := hr13) ).mono ?_; rintro _ _ ⟨M2, o1, fM2_0, fM2_1, fM2_2, rfl, rfl⟩; simp only [hp_next] at fM2_0 fM2_1 fM2_2
      have eM2_0 := nQ o1 (N0 + 15)
      have eM2_1 := nQ o1 (M1 + 3)
      have eM2_2 := nQ o1 M1
      have eM2_3 := nQ o1 (M1 + 5)
      try simp -dsimp -implicitDefEqProofs (maxDischargeDepth := 6) [e0, e1, e2, e3, e4, appz22_3 hl14, mak22 hl15, eM2_0, eM2_1, eM2_2, eM2_3, hp_over_some, hp_over_none]
      exact hK _ _ ⟨M2, o1, (by omega), (by omega), (by omega), rfl, rfl⟩
     rintro a σ ⟨M2, o1, fM2_0, fM2_1, fM2_2, rfl, rfl⟩
     obtain ⟨v16, hv16, H⟩ := bindE H
     obtain ⟨l17, hl17, H⟩ := bindE H
     refine Sx tok [] [5, 6, 8, 12, 13, 14, 15] (by
      intro K k
      have e0 := nQ (N0 + 15) (M1 + 3)
      have e1 := nQ (N0 + 12) M1
      have e2 := nQ (N0 + 15) M1
      have e3 := nQ (N0 + 15) (M1 + 5)
      have e4 := nQ (N0 + 10) M1
      simp -dsimp -implicitDefEqProofs (maxDischargeDepth := 6) [e0, e1, e2, e3, e4, ixo22 hv16, (show _[2]? = some v16 from (idx_lt3 hv16).2.2), (show List.set _ 2 _ = l17 from (setx_iff.1 hl17).2.symm)]
      exact k) ?_
     try rw [← setx_len hl17]
     have q1 : ∀ σ i, buildSliceA T 22 true i 2 [(0, .int .i64 r2.1.A), (1, .int .i64 r2.1.B)] σ = some (.fsl (encL rI ([r2.1.A, r2.1.B] : List Int)), σ) := fun _ _ => rfl
     refine Sx tok [4] [5, 6, 8, 12, 13, 14, 15, 16] (by
      intro K k
      have e0 := nQ (N0 + 15) (M1 + 3)
      have e1 := nQ (N0 + 12) M1
      have e2 := nQ (N0 + 15) M1
      have e3 := nQ (N0 + 15) (M1 + 5)
      have e4 := nQ (N0 + 10) M1
      simp -dsimp -implicitDefEqProofs (maxDischargeDepth := 6) [e0, e1, e2, e3, e4, q1]
      exact k) ?_
     refine AWP_sq [5, 6, 8, 12, 13, 14, 15] fun K4 hK4 => ?_
     refine Sx tok [] [5, 6, 8, 12, 13, 14, 15, 16, 17] (by
      intro K k
      have e0 := nQ (N0 + 15) (M1 + 3)
      have e1 := nQ (N0 + 12) M1
      have e2 := nQ (N0 + 15) M1
      have e3 := nQ (N0 + 15) (M1 + 5)
      have e4 := nQ (N0 + 10) M1
      simp -dsimp -implicitDefEqProofs (maxDischargeDepth := 6) [e0, e1, e2, e3, e4]
      exact k) ?_
     refine AWP_block (AWP_thenB ?_)
     obtain ⟨e2, hse2, H⟩ := bindE H
     refine AWP_lp [5, 6, 8, 12, 13, 14, 15, 16, 17] (fun s a σ => ∃ M3 o2 o3 : Nat, N0 ≤ M3 ∧ N0 ≤ o2 ∧ o2 < M3 ∧ N0 ≤ o3 ∧ o3 < M3 ∧ ¬ o2 = o3 ∧ a = [(5, .ptr o2 0 0), (6, .int .i64 r2.2.1), (8, .fsl (encL rInstr r3.1)), (12, .fsl (encL rI ([8, 9, 18, 19, 20, 21, 22, 23] : List Int))), (13, .int .i64 r10), (14, .int .i64 j1), (15, .ptr o3 0 0), (16, .fsl (encL rI ([r2.1.A, r2.1.B] : List Int))), (17, .int .i64 s.1)] ∧ σ = hp E0 [(o2, some ⟨43, 5, [[.int .i64 s.2.1.Op, .int .i64 s.2.1.Dst, .int .i64 s.2.1.A, .int .i64 s.2.1.B, .int .i64 s.2.1.N]]⟩), (o3, some ⟨53, 3, [[.osl 3 1 (encL rI s.2.2.Regs), .int .i64 s.2.2.Pc, .osl 3 1 (encL rI s.2.2.Mem)]]⟩)] M3) (fun s x a σ => x = .exit 0 ∧ Rc G 204 N0 (fun a σ => ∃ M4 o4 o5 : Nat, N0 ≤ M4 ∧ N0 ≤ o4 ∧ o4 < M4 ∧ N0 ≤ o5 ∧ o5 < M4 ∧ ¬ o4 = o5 ∧ a = [(5, .ptr o4 0 0), (6, .int .i64 r2.2.1), (8, .fsl (encL rInstr r3.1)), (12, .fsl (encL rI ([8, 9, 18, 19, 20, 21, 22, 23] : List Int))), (13, .int .i64 r10), (14, .int .i64 j1), (15, .ptr o5 0 0)] ∧ σ = hp E0 [(o4, some ⟨43, 5, [[.int .i64 s.1.Op, .int .i64 s.1.Dst, .int .i64 s.1.A, .int .i64 s.1.B, .int .i64 s.1.N]]⟩), (o5, some ⟨53, 3, [[.osl 3 1 (encL rI s.2.Regs), .int .i64 s.2.Pc, .osl 3 1 (encL rI s.2.Mem)]]⟩)] M4) (AAct.keep a [5, 6, 8, 12, 13, 14, 15]) σ) hse2 ?_ ?_ ?_
     ·
      refine Rc.kp [5, 6, 8, 12, 13, 14, 15, 16, 17] [(5, .ptr (N0 + 15) 0 0), (6, .int .i64 r2.2.1), (8, .fsl (encL rInstr r3.1)), (12, .fsl (encL rI ([8, 9, 18, 19, 20, 21, 22, 23] : List Int))), (13, .int .i64 r10), (14, .int .i64 j1), (15, .ptr (M1 + 5) 0 0), (16, .fsl (encL rI ([r2.1.A, r2.1.B] : List Int))), (17, .int .i64 0)] rfl ?_
      refine gP Rc_ref (M1 + 5) 0 0 ?_
      refine gP Rc_ref (M1 + 5) 0 2 ?_
      exact Rc.fin (AHeap.Sub.refl _) ⟨M2 + 14, (N0 + 15), (M1 + 5), (by omega), (by omega), (by omega), (by omega), (by omega), (by omega), rfl, rfl⟩
     ·
      clear H hse2
      rintro ⟨s18, s19, s20⟩ fl a σ H ⟨M3, o2, o3, fM3_0, fM3_1, fM3_2, fM3_3, fM3_4, fM3_5, rfl, rfl⟩ K5 O5 hK5 hO5
      unfold l_FnMachineBin_L1 at H; dsimp only at H
      refine AWP_sq [5, 6, 8, 12, 13, 14, 15, 16, 17] fun K6 hK6 => ?_
      refine Sx tok [] [5, 6, 8, 12, 13, 14, 15, 16, 17, 109] (by
       intro K k
       have e0 := nQ o2 o3
       simp -dsimp -implicitDefEqProofs (maxDischargeDepth := 6) [e0]
       exact k) ?_
      refine AWP_cond (ilt s18 2) rfl (fun C4 => ?_) (fun C4 => ?_)
      ·
       replace H := ifT C4 H
       refine AWP_skip (Jn hK6 ?_)
       refine AWP_sq [5, 6, 8, 12, 13, 14, 15, 16, 17] fun K7 hK7 => ?_
       refine AWP_block (AWP_thenB ?_)
       obtain ⟨v23, hv23, H⟩ := bindE H
       have q2 : ∀ σ i, buildSliceA T 22 true i 2 [(0, .int .i64 r10), (1, .int .i64 j1)] σ = some (.fsl (encL rI ([r10, j1] : List Int)), σ) := fun _ _ => rfl
       refine Sx tok [2] [5, 6, 8, 12, 13, 14, 15, 16, 17, 18] (by
        intro K k
        have e0 := nQ o2 o3
        simp -dsimp -implicitDefEqProofs (maxDischargeDepth := 6) [e0, q2, ix22 hv23]
        exact k) ?_
       obtain ⟨v24, hv24, H⟩ := bindE H
       refine Sx tok [] [5, 6, 8, 12, 13, 14, 15, 16, 17, 18, 123] (by
        intro K k
        have e0 := nQ o2 o3
        simp -dsimp -implicitDefEqProofs (maxDischargeDepth := 6) [e0, ix22 hv24]
        exact k) ?_
       refine AWP_cond (ilt v24 r2.2.1) rfl (fun C5 => ?_) (fun C5 => ?_)
       ·
        replace H := ifT C5 H
        refine gU AWP_ref o3 0 0 ?_
        obtain ⟨v25, hv25, H⟩ := bindE H
        obtain ⟨v26, hv26, H⟩ := bindE H
        obtain ⟨l27, hl27, H⟩ := bindE H
        refine AWP_rd tok tokM [] [1, 10, 11] [0, 2, 3, 4, 5, 6, 7, 8, 9, 1, 10, 11] [5, 6, 8, 12, 13, 14, 15, 16, 17] (fun a σ => a = [(5, .ptr o2 0 0), (6, .int .i64 r2.2.1), (8, .fsl (encL rInstr r3.1)), (12, .fsl (encL rI ([8, 9, 18, 19, 20, 21, 22, 23] : List Int))), (13, .int .i64 r10), (14, .int .i64 j1), (15, .ptr o3 0 0), (16, .fsl (encL rI ([r2.1.A, r2.1.B] : List Int))), (17, .int .i64 s18)] ∧ σ = hp E0 [(o2, some ⟨43, 5, [[.int .i64 s19.Op, .int .i64 s19.Dst, .int .i64 s19.A, .int .i64 s19.B, .int .i64 s19.N]]⟩), (o3, some ⟨53, 3, [[.sl (M3 + 15) 0 s20.Regs.length, .int .i64 s20.Pc, .osl 3 1 (encL rI s20.Mem)]]⟩), (M3 + 15, some ⟨3, 1, encL rI l27⟩)] (M3 + 28)) (by decide) (fun K hK => ?_) ?_
        ·
         simp only [pickL, nthO_succ, nthO_zero]
         have e0 := nQ o2 o3
         have e1 := nQ o2 (M3 + 15)
         have e2 := nQ o3 (M3 + 15)
         simp -dsimp -implicitDefEqProofs (maxDischargeDepth := 6) [e0, e1, e2, ix22 hv24, ix22 hv25, ixo22 hv26, (idx_lt3 hv26).2.2, (setx_iff.1 hl27).2.symm]
         exact hK _ _ ⟨rfl, rfl⟩
        rintro a σ ⟨ha, rfl⟩
        (try rw [← setx_len hl27] at ha); (try rw [← setx_len hl27])
        refine hK7 _ _ ?_; rw [ha]
        refine Rc.mk ?_
        refine AWP_rt tok [] [5, 6, 8, 12, 13, 14, 15, 16, 17] (fun a σ => a = [(5, .ptr o2 0 0), (6, .int .i64 r2.2.1), (8, .fsl (encL rInstr r3.1)), (12, .fsl (encL rI ([8, 9, 18, 19, 20, 21, 22, 23] : List Int))), (13, .int .i64 r10), (14, .int .i64 j1), (15, .ptr o3 0 0), (16, .fsl (encL rI ([r2.1.A, r2.1.B] : List Int))), (17, .int .i64 (iadd .i64 s18 1))] ∧ σ = hp E0 [(o2, some ⟨43, 5, [[.int .i64 s19.Op, .int .i64 s19.Dst, .int .i64 s19.A, .int .i64 s19.B, .int .i64 s19.N]]⟩), (o3, some ⟨53, 3, [[.sl (M3 + 15) 0 l27.length, .int .i64 s20.Pc, .osl 3 1 (encL rI s20.Mem)]]⟩), (M3 + 15, some ⟨3, 1, encL rI l27⟩)] (M3 + 31)) (fun K hK => ?_) ?_
        ·
         have e0 := nQ o2 o3
         have e1 := nQ o2 (M3 + 15)
         have e2 := nQ o3 (M3 + 15)
         simp -dsimp -implicitDefEqProofs (maxDischargeDepth := 6) [e0, e1, e2]
         exact hK _ _ ⟨rfl, rfl⟩
        rintro a σ ⟨ha, rfl⟩
        replace H := oi H; subst H
        refine hK5 _ _ _ rfl ?_; rw [ha]
        refine gP Rc_ref o3 0 0 ?_
        exact Rc.fin (AHeap.Sub.refl _) ⟨M3 + 31, o2, o3, (by omega), (by omega), (by omega), (by omega), (by omega), (by omega), rfl, rfl⟩
       ·
        replace H := ifF C5 H
        refine gU AWP_ref o3 0 2 ?_
        obtain ⟨v28, hv28, H⟩ := bindE H
        obtain ⟨l29, hl29, H⟩ := bindE H
        refine AWP_rd tok tokM [] [1, 12, 13] [0, 2, 3, 4, 5, 6, 7, 8, 9, 10, 11, 1, 12, 13] [5, 6, 8, 12, 13, 14, 15, 16, 17] (fun a σ => a = [(5, .ptr o2 0 0), (6, .int .i64 r2.2.1), (8, .fsl (encL rInstr r3.1)), (12, .fsl (encL rI ([8, 9, 18, 19, 20, 21, 22, 23] : List Int))), (13, .int .i64 r10), (14, .int .i64 j1), (15, .ptr o3 0 0), (16, .fsl (encL rI ([r2.1.A, r2.1.B] : List Int))), (17, .int .i64 s18)] ∧ σ = hp E0 [(o2, some ⟨43, 5, [[.int .i64 s19.Op, .int .i64 s19.Dst, .int .i64 s19.A, .int .i64 s19.B, .int .i64 s19.N]]⟩), (o3, some ⟨53, 3, [[.osl 3 1 (encL rI s20.Regs), .int .i64 s20.Pc, .sl (M3 + 15) 0 s20.Mem.length]]⟩), (M3 + 15, some ⟨3, 1, encL rI l29⟩)] (M3 + 30)) (by decide) (fun K hK => ?_) ?_
        ·
         simp only [pickL, nthO_succ, nthO_zero]
         have e0 := nQ o2 o3
         have e1 := nQ o2 (M3 + 15)
         have e2 := nQ o3 (M3 + 15)
         simp -dsimp -implicitDefEqProofs (maxDischargeDepth := 6) [e0, e1, e2, ix22 hv24, ixo22 hv28, (idx_lt3 hv28).2.2, (setx_iff.1 hl29).2.symm]
         exact hK _ _ ⟨rfl, rfl⟩
        rintro a σ ⟨ha, rfl⟩
        (try rw [← setx_len hl29] at ha); (try rw [← setx_len hl29])
        refine hK7 _ _ ?_; rw [ha]
        refine Rc.mk ?_
        refine AWP_rt tok [] [5, 6, 8, 12, 13, 14, 15, 16, 17] (fun a σ => a = [(5, .ptr o2 0 0), (6, .int .i64 r2.2.1), (8, .fsl (encL rInstr r3.1)), (12, .fsl (encL rI ([8, 9, 18, 19, 20, 21, 22, 23] : List Int))), (13, .int .i64 r10), (14, .int .i64 j1), (15, .ptr o3 0 0), (16, .fsl (encL rI ([r2.1.A, r2.1.B] : List Int))), (17, .int .i64 (iadd .i64 s18 1))] ∧ σ = hp E0 [(o2, some ⟨43, 5, [[.int .i64 s19.Op, .int .i64 s19.Dst, .int .i64 s19.A, .int .i64 s19.B, .int .i64 s19.N]]⟩), (o3, some ⟨53, 3, [[.osl 3 1 (encL rI s20.Regs), .int .i64 s20.Pc, .sl (M3 + 15) 0 l29.length]]⟩), (M3 + 15, some ⟨3, 1, encL rI l29⟩)] (M3 + 33)) (fun K hK => ?_) ?_
        ·
         have e0 := nQ o2 o3
         have e1 := nQ o2 (M3 + 15)
         have e2 := nQ o3 (M3 + 15)
         simp -dsimp -implicitDefEqProofs (maxDischargeDepth := 6) [e0, e1, e2]
         exact hK _ _ ⟨rfl, rfl⟩
        rintro a σ ⟨ha, rfl⟩
        replace H := oi H; subst H
        refine hK5 _ _ _ rfl ?_; rw [ha]
        refine gP Rc_ref o3 0 2 ?_
        exact Rc.fin (AHeap.Sub.refl _) ⟨M3 + 33, o2, o3, (by omega), (by omega), (by omega), (by omega), (by omega), (by omega), rfl, rfl⟩
      ·
       replace H := ifF C4 H
       replace H := oi H; subst H
       refine AWP_exit (hO5 _ _ _ _ rfl ⟨rfl, ?_⟩)
       refine Rc.rw (l := [5, 6, 8, 12, 13, 14, 15]) (X := [(5, .ptr o2 0 0), (6, .int .i64 r2.2.1), (8, .fsl (encL rInstr r3.1)), (12, .fsl (encL rI ([8, 9, 18, 19, 20, 21, 22, 23] : List Int))), (13, .int .i64 r10), (14, .int .i64 j1), (15, .ptr o3 0 0)]) rfl ?_
       exact Rc.fin (AHeap.Sub.refl _) ⟨M3 + 2, o2, o3, (by omega), (by omega), (by omega), (by omega), (by omega), (by omega), rfl, rfl⟩
     ·
      intro x a σ hx
      obtain ⟨y21, y22⟩ := e2
      obtain ⟨rfl, b, τ, hr, M4, o4, o5, fM4_0, fM4_1, fM4_2, fM4_3, fM4_4, fM4_5, rfl, rfl⟩ := hx
      dsimp only at H
      show K4 _ _
      refine hK4 _ _ (Rc_ref hr ?_)
      refine Rc.mk ?_
      refine gU AWP_ref o5 0 0 ?_
      refine gU AWP_ref o5 0 2 ?_
      obtain ⟨r30, hr30, H⟩ := bindE H
      refine AWP_sr tok [] [5, 6, 8, 12, 13, 14, 19, 20, 21] (fun a σ => ∃ M5 o6 o7 : Nat, M4 + 14 ≤ M5 ∧ M4 + 14 ≤ o6 ∧ o6 < M5 ∧ M4 + 14 ≤ o7 ∧ o7 < M5 ∧ ¬ o6 = o7 ∧ a = [(5, .ptr o4 0 0), (6, .int .i64 r2.2.1), (8, .fsl (encL rInstr r3.1)), (12, .fsl (encL rI ([8, 9, 18, 19, 20, 21, 22, 23] : List Int))), (13, .int .i64 r10), (14, .int .i64 j1), (19, .ptr (M4 + 10) 0 0), (20, .int .i64 r30.2.1), (21, .int .i64 r30.2.2)] ∧ σ = hp E0 [(o4, some ⟨43, 5, [[.int .i64 y21.Op, .int .i64 y21.Dst, .int .i64 y21.A, .int .i64 y21.B, .int .i64 y21.N]]⟩), (o5, some ⟨53, 3, [[.sl M4 0 y22.Regs.length, .int .i64 y22.Pc, .sl (M4 + 1) 0 y22.Mem.length]]⟩), (M4, some ⟨3, 1, encL rI y22.Regs⟩), (M4 + 1, some ⟨3, 1, encL rI y22.Mem⟩), (o6, some ⟨3, 1, encL rI r30.1.Regs⟩), (o7, some ⟨3, 1, encL rI r30.1.Mem⟩), (M4 + 10, some ⟨53, 3, [[.sl o6 0 r30.1.Regs.length, .int .i64 r30.1.Pc, .sl o7 0 r30.1.Mem.length]]⟩)] M5) (fun K hK => ?_) ?_
      ·
       have e0 := nQ o4 o5
       have e1 := nQ o4 M4
       have e2 := nQ o4 (M4 + 1)
       have e3 := nQ o4 (M4 + 10)
       have e4 := nQ o5 M4
       have e5 := nQ o5 (M4 + 1)
       have e6 := nQ o5 (M4 + 10)
       simp -dsimp -implicitDefEqProofs (maxDischargeDepth := 6) [e0, e1, e2, e3, e4, e5, e6]
       refine (c23_o2_b (H := hr30) (by simp [e0, e1, e2, e3, e4, e5, e6])).mono ?_; rintro _ _ ⟨M5, o6, o7, fM5_0, fM5_1, fM5_2, fM5_3, fM5_4, fM5_5, rfl, rfl⟩; simp only [hp_next] at fM5_0 fM5_1 fM5_2 fM5_3 fM5_4 fM5_5
       have eM5_0 := nQ o6 o4
       have eM5_1 := nQ o6 o5
       have eM5_2 := nQ o6 M4
       have eM5_3 := nQ o6 (M4 + 1)
       have eM5_4 := nQ o6 (M4 + 10)
       have eM5_5 := nQ o6 o7
       have eM5_6 := nQ o7 o4
       have eM5_7 := nQ o7 o5
       have eM5_8 := nQ o7 M4
       have eM5_9 := nQ o7 (M4 + 1)
       have eM5_10 := nQ o7 (M4 + 10)
       try simp -dsimp -implicitDefEqProofs (maxDischargeDepth := 6) [e0, e1, e2, e3, e4, e5, e6, eM5_0, eM5_1, eM5_2, eM5_3, eM5_4, eM5_5, eM5_6, eM5_7, eM5_8, eM5_9, eM5_10, hp_over_some, hp_over_none]
       exact hK _ _ ⟨M5, o6, o7, (by omega), (by omega), (by omega), (by omega), (by omega), (by omega), rfl, rfl⟩
      rintro a σ ⟨M5, o6, o7, fM5_0, fM5_1, fM5_2, fM5_3, fM5_4, fM5_5, rfl, rfl⟩
      refine gDrop AWP_ref [(o4, some ⟨43, 5, [[.int .i64 y21.Op, .int .i64 y21.Dst, .int .i64 y21.A, .int .i64 y21.B, .int .i64 y21.N]]⟩), (o6, some ⟨3, 1, encL rI r30.1.Regs⟩), (o7, some ⟨3, 1, encL rI r30.1.Mem⟩), (M4 + 10, some ⟨53, 3, [[.sl o6 0 r30.1.Regs.length, .int .i64 r30.1.Pc, .sl o7 0 r30.1.Mem.length]]⟩)] (hp_skip (AHeap.Sub.trans (AHeap.Sub.trans (AHeap.Sub.trans (hp_skip (hp_skip (hp_skip (AHeap.Sub.refl _)))) (hp_drop rfl (by simp; try omega))) (hp_drop rfl (by simp; try omega))) (hp_drop rfl (by simp; try omega)))) ?_
      refine gP AWP_ref (M4 + 10) 0 0 ?_
      refine gP AWP_ref (M4 + 10) 0 2 ?_
      obtain ⟨r31, hr31, H⟩ := bindE H
      refine Sx tok [] [5, 6, 8, 12, 19, 20, 21, 22, 23] (by
       intro K k
       have e0 := nQ o4 (M4 + 10)
       repeat first | simp -dsimp -implicitDefEqProofs (maxDischargeDepth := 6) [e0] | refine (c24 hr31).app ?_
       exact k) ?_
      refine AWP_sq [5, 6, 8, 12, 19, 22] fun K8 hK8 => ?_
      obtain ⟨g32, hg32, H⟩ := bindE H
      obtain ⟨g33, hg33, H⟩ := bindE H
      refine AWP_sr tok [] [5, 6, 8, 12, 19, 22, 175] (fun a σ => a = [(5, .ptr o4 0 0), (6, .int .i64 r2.2.1), (8, .fsl (encL rInstr r3.1)), (12, .fsl (encL rI ([8, 9, 18, 19, 20, 21, 22, 23] : List Int))), (19, .ptr (M4 + 10) 0 0), (22, .int .i64 r31.1), (175, .bool g33)] ∧ σ = hp E0 [(o4, some ⟨43, 5, [[.int .i64 y21.Op, .int .i64 y21.Dst, .int .i64 y21.A, .int .i64 y21.B, .int .i64 y21.N]]⟩), (M4 + 10, some ⟨53, 3, [[.osl 3 1 (encL rI r30.1.Regs), .int .i64 r30.1.Pc, .osl 3 1 (encL rI r30.1.Mem)]]⟩)] (M5 + 22)) (fun K hK => ?_) ?_
      ·
       have e0 := nQ o4 (M4 + 10)
       simp -dsimp -implicitDefEqProofs (maxDischargeDepth := 6) [e0]
       cases hbg32 : bnot r31.2
       ·
        replace hg32 := ifF hbg32 hg32
        replace hg32 := oi hg32; subst hg32
        try simp -dsimp -implicitDefEqProofs (maxDischargeDepth := 6) [e0, hbg32]
        cases hbg33 : (ine r30.2.1 (ilen r3.1))
        ·
         replace hg33 := ifF hbg33 hg33
         replace hg33 := oi hg33; subst hg33
         try simp -dsimp -implicitDefEqProofs (maxDischargeDepth := 6) [e0, hbg32, hbg33]
         exact hK _ _ ⟨rfl, rfl⟩
        ·
         replace hg33 := ifT hbg33 hg33
         replace hg33 := oi hg33; subst hg33
         try simp -dsimp -implicitDefEqProofs (maxDischargeDepth := 6) [e0, hbg32, hbg33]
         exact hK _ _ ⟨rfl, rfl⟩
       ·
        replace hg32 := ifT hbg32 hg32
        replace hg32 := oi hg32; subst hg32
        try simp -dsimp -implicitDefEqProofs (maxDischargeDepth := 6) [e0, hbg32]
        replace hg33 := ifT rfl hg33
        replace hg33 := oi hg33; subst hg33
        try simp -dsimp -implicitDefEqProofs (maxDischargeDepth := 6) [e0, hbg32]
        exact hK _ _ ⟨rfl, rfl⟩
      rintro a σ ⟨rfl, rfl⟩
      refine AWP_cond g33 rfl (fun C6 => ?_) (fun C6 => ?_)
      ·
       replace H := ifT C6 H
       refine Sx tok [] [4] (by
        intro K k
        have e0 := nQ o4 (M4 + 10)
        simp -dsimp -implicitDefEqProofs (maxDischargeDepth := 6) [e0]
        exact k) ?_
       replace H := oi H; subst H
       refine Kp [4] ?_
       have z0 := nQ o4 (M4 + 10)
       refine AWP_ret ?_
       exact ⟨[.bool false], by simp [z0], 4, by simp [encL_nil, z0]⟩
      ·
       replace H := ifF C6 H
       refine AWP_skip (Jn hK8 ?_)
       refine AWP_sq [5, 6, 8, 19, 22] fun K9 hK9 => ?_
       refine Sx tok [] [5, 6, 8, 12, 19, 22, 179] (by
        intro K k
        have e0 := nQ o4 (M4 + 10)
        simp -dsimp -implicitDefEqProofs (maxDischargeDepth := 6) [e0]
        exact k) ?_
       refine AWP_cond (ilt y21.Dst r2.2.1) rfl (fun C7 => ?_) (fun C7 => ?_)
       ·
        replace H := ifT C7 H
        refine gU AWP_ref (M4 + 10) 0 0 ?_
        obtain ⟨v34, hv34, H⟩ := bindE H
        obtain ⟨v35, hv35, H⟩ := bindE H
        refine Sd tok tokM [] [1, 4, 5, 6, 7, 8] [0, 2, 3, 9, 1, 4, 5, 6, 7, 8, 10, 11] [4] (by
         intro K k
         have e0 := nQ o4 (M4 + 10)
         have e1 := nQ o4 (M5 + 26)
         have e2 := nQ (M4 + 10) (M5 + 26)
         have e3 := nQ M4 (M5 + 16)
         simp only [pickL, nthO_succ, nthO_zero]
         simp -dsimp -implicitDefEqProofs (maxDischargeDepth := 6) [e0, e1, e2, e3, ix22 hv34, ixo22 hv35, (idx_lt3 hv35).2.2]
         exact k) ?_
        replace H := oi H; subst H
        refine Kp [4] ?_
        have z1 := nQ o4 (M4 + 10)
        have z2 := nQ o4 (M5 + 26)
        have z3 := nQ (M4 + 10) (M5 + 26)
        have z4 := nQ M4 (M5 + 16)
        refine AWP_ret ?_
        exact ⟨[.bool (ieq v35 r31.1)], by simp [z1, z2, z3, z4], 4, by simp [encL_nil, z1, z2, z3, z4]⟩
       ·
        replace H := ifF C7 H
        refine AWP_skip (Jn hK9 ?_)
        refine gU AWP_ref (M4 + 10) 0 2 ?_
        obtain ⟨v36, hv36, H⟩ := bindE H
        refine Sx tok [] [4] (by
         intro K k
         have e0 := nQ o4 (M4 + 10)
         have e1 := nQ o4 (M5 + 26)
         have e2 := nQ (M4 + 10) (M5 + 26)
         have e3 := nQ M4 (M5 + 16)
         simp -dsimp -implicitDefEqProofs (maxDischargeDepth := 6) [e0, e1, e2, e3, ixo22 hv36, (idx_lt3 hv36).2.2]
         exact k) ?_
        replace H := oi H; subst H
        refine Kp [4] ?_
        have z5 := nQ o4 (M4 + 10)
        have z6 := nQ o4 (M5 + 26)
        have z7 := nQ (M4 + 10) (M5 + 26)
        have z8 := nQ M4 (M5 + 16)
        refine AWP_ret ?_
        exact ⟨[.bool (ieq v36 r31.1)], by simp [z5, z6, z7, z8], 4, by simp [encL_nil, z5, z6, z7, z8]⟩
    replace H := hj1
    refine S0 tok [] [5, 6, 8, 12, 13, 14, 90] ?_
    refine AWP_cond (ieq r2.1.A r2.1.B) rfl (fun C8 => ?_) (fun C8 => ?_)
    ·
     replace H := ifT C8 H
     refine AWP_rt tok [] [5, 6, 8, 12, 13, 14] (fun a σ => a = [(5, .ptr (N0 + 15) 0 0), (6, .int .i64 r2.2.1), (8, .fsl (encL rInstr r3.1)), (12, .fsl (encL rI ([8, 9, 18, 19, 20, 21, 22, 23] : List Int))), (13, .int .i64 r10), (14, .int .i64 r10)] ∧ σ = hp E0 [(N0 + 15, some ⟨43, 5, [[.int .i64 r2.1.Op, .int .i64 r2.1.Dst, .int .i64 r2.1.A, .int .i64 r2.1.B, .int .i64 r2.1.N]]⟩)] (N0 + 73)) (fun K hK => ?_) ?_
     ·
      simp -dsimp -implicitDefEqProofs (maxDischargeDepth := 6)
      exact hK _ _ ⟨rfl, rfl⟩
     rintro a σ ⟨ha, rfl⟩
     replace H := oi H; subst H
     refine hJ1 _ _ ?_; rw [ha]
     exact Rc.fin (AHeap.Sub.refl _) ⟨N0 + 73, (by omega), (by omega), rfl, rfl⟩
    ·
     replace H := ifF C8 H
     refine AWP_skip ?_
     show K10 _ _
     refine kE [5, 6, 8, 12, 13, 14] fun a' ha => ?_
     replace H := oi H; subst H
     refine hJ1 _ _ ?_; rw [ha]
     exact Rc.fin (AHeap.Sub.refl _) ⟨N0 + 71, (by omega), (by omega), rfl, rfl⟩
end Go.Proofs.YtlcilhmkbmgkeaaDoor
