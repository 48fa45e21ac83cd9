/- The contracts of functions of the program, part 5: each computes what its mirror computes. No conditions. -/
import Derived.Test.YtoklfbdcghgmlaaDoorNDT4
set_option linter.unusedSimpArgs false
set_option linter.unusedVariables false
set_option maxRecDepth 20000
set_option maxHeartbeats 4000000
namespace Go.Proofs.YtoklfbdcghgmlaaDoor
open Go Go.Abs Go.RowKit

theorem c27 {p0 : (List Int)} {r : gQuad × Int × Int} (H : s_DrawQuadInstrs p0 = some r) : APure Tryd.prog G 27 [.fsl (encL rI_u8 p0)] (.tup [.agg [.int .i64 r.1.Op, .int .i64 r.1.Dst, .int .i64 r.1.A, .int .i64 r.1.B, .int .i64 r.1.N], .int .i64 r.2.1, .int .i64 r.2.2]) := by
 refine APure_fn (fun N0 => ?_) (by simp)
 refine ACalls_fn tok Tryd.func27 (by kernel_rfl) rfl Tryd.ntmps27 Tryd.results27 rfl ?_
 simp only [argsA, Nat.reduceAdd, hp_next]
 unfold s_DrawQuadInstrs at H
 refine AWP_sr tok [] [0, 2] (fun a σ => a = [(0, .fsl (encL rI_u8 p0)), (2, .ptr N0 0 0)] ∧ σ = hp E0 [(N0, some ⟨40, 5, [[.int .i64 0, .int .i64 0, .int .i64 0, .int .i64 0, .int .i64 0]]⟩)] (N0 + 3)) (fun K hK => ?_) ?_
 ·
  skip
  simp -dsimp -implicitDefEqProofs (maxDischargeDepth := 6)
  exact hK _ _ ⟨rfl, rfl⟩
 rintro a σ ⟨rfl, rfl⟩
 obtain ⟨r1, hr1, H⟩ := bindE H
 refine AWP_sr tok [] [2, 5] (fun a σ => ∃ M1 o1 : Nat, N0 + 6 ≤ M1 ∧ N0 + 6 ≤ o1 ∧ o1 < M1 ∧ a = [(2, .ptr N0 0 0), (5, .ptr o1 0 0)] ∧ σ = hp E0 [(N0, some ⟨40, 5, [[.int .i64 0, .int .i64 0, .int .i64 0, .int .i64 0, .int .i64 0]]⟩), (o1, some ⟨138, 2, [[.fsl (encL rI_u8 r1.b), .int .i64 r1.p]]⟩)] M1) (fun K hK => ?_) ?_
 ·
  skip
  simp -dsimp -implicitDefEqProofs (maxDischargeDepth := 6)
  refine (c69_o (H := hr1) ).mono ?_; rintro _ _ ⟨M1, o1, fM1_0, fM1_1, fM1_2, rfl, rfl⟩; simp only [hp_next] at fM1_0 fM1_1 fM1_2
  have eM1_0 : ¬ o1 = N0 := by omega
  have eM1_1 : ¬ N0 = o1 := by omega
  try simp -dsimp -implicitDefEqProofs (maxDischargeDepth := 6) [eM1_0, eM1_1, hp_over_some, hp_over_none]
  exact hK _ _ ⟨M1, o1, (by omega), (by omega), (by omega), rfl, rfl⟩
 rintro a σ ⟨M1, o1, fM1_0, fM1_1, fM1_2, rfl, rfl⟩
 obtain ⟨r2, hr2, H⟩ := bindE H
 refine AWP_sr tok [] [2, 5, 6] (fun a σ => ∃ M2 : Nat, M1 + 4 ≤ M2 ∧ a = [(2, .ptr N0 0 0), (5, .ptr o1 0 0), (6, .ptr (M1 + 2) 0 0)] ∧ σ = hp E0 [(N0, some ⟨40, 5, [[.int .i64 0, .int .i64 0, .int .i64 0, .int .i64 0, .int .i64 0]]⟩), (o1, some ⟨138, 2, [[.fsl (encL rI_u8 r2.2.b), .int .i64 r2.2.p]]⟩), (M1 + 2, some ⟨40, 5, [[.int .i64 r2.1.Op, .int .i64 r2.1.Dst, .int .i64 r2.1.A, .int .i64 r2.1.B, .int .i64 r2.1.N]]⟩)] M2) (fun K hK => ?_) ?_
 ·
  skip
  have e0 : ¬ N0 = o1 := by omega
  have e1 : ¬ o1 = N0 := by omega
  have e2 : ¬ N0 = M1 + 2 := by omega
  have e3 : ¬ M1 + 2 = N0 := by omega
  have e4 : ¬ o1 = M1 + 2 := by omega
  have e5 : ¬ M1 + 2 = o1 := by omega
  simp -dsimp -implicitDefEqProofs (maxDischargeDepth := 6) [e0, e1, e2, e3, e4, e5]
  refine (c70 (W0 := [[.fsl (encL rI_u8 r1.b), .int .i64 r1.p]]) (r0_ := 0) (H := hr2) (by simp [e0, e1, e2, e3, e4, e5]) (by simp [e0, e1, e2, e3, e4, e5])).mono ?_; rintro _ _ ⟨M2, fM2_0, rfl, rfl⟩; simp only [hp_next] at fM2_0
  try simp -dsimp -implicitDefEqProofs (maxDischargeDepth := 6) [e0, e1, e2, e3, e4, e5, hp_over_some, hp_over_none]
  exact hK _ _ ⟨M2, (by omega), rfl, rfl⟩
 rintro a σ ⟨M2, fM2_0, rfl, rfl⟩
 obtain ⟨r3, hr3, H⟩ := bindE H
 refine AWP_sr tok [] [2, 5, 6, 7] (fun a σ => ∃ M3 : Nat, M2 + 4 ≤ M3 ∧ a = [(2, .ptr N0 0 0), (5, .ptr o1 0 0), (6, .ptr (M1 + 2) 0 0), (7, .int .i64 (iadd .i64 1 r3.1))] ∧ σ = hp E0 [(N0, some ⟨40, 5, [[.int .i64 0, .int .i64 0, .int .i64 0, .int .i64 0, .int .i64 0]]⟩), (o1, some ⟨138, 2, [[.fsl (encL rI_u8 r3.2.b), .int .i64 r3.2.p]]⟩), (M1 + 2, some ⟨40, 5, [[.int .i64 r2.1.Op, .int .i64 r2.1.Dst, .int .i64 r2.1.A, .int .i64 r2.1.B, .int .i64 r2.1.N]]⟩)] M3) (fun K hK => ?_) ?_
 ·
  skip
  have e0 : ¬ N0 = o1 := by omega
  have e1 : ¬ o1 = N0 := by omega
  have e2 : ¬ N0 = M1 + 2 := by omega
  have e3 : ¬ M1 + 2 = N0 := by omega
  have e4 : ¬ o1 = M1 + 2 := by omega
  have e5 : ¬ M1 + 2 = o1 := by omega
  simp -dsimp -implicitDefEqProofs (maxDischargeDepth := 6) [e0, e1, e2, e3, e4, e5]
  refine (c71 (W0 := [[.fsl (encL rI_u8 r2.2.b), .int .i64 r2.2.p]]) (r0_ := 0) (H := hr3) (by simp [e0, e1, e2, e3, e4, e5]) (by simp [e0, e1, e2, e3, e4, e5])).mono ?_; rintro _ _ ⟨M3, fM3_0, rfl, rfl⟩; simp only [hp_next] at fM3_0
  try simp -dsimp -implicitDefEqProofs (maxDischargeDepth := 6) [e0, e1, e2, e3, e4, e5, hp_over_some, hp_over_none]
  exact hK _ _ ⟨M3, (by omega), rfl, rfl⟩
 rintro a σ ⟨M3, fM3_0, rfl, rfl⟩
 obtain ⟨r4, hr4, H⟩ := bindE H
 refine AWP_sr tok [] [2, 5, 6, 7, 8] (fun a σ => ∃ M4 : Nat, M3 + 5 ≤ M4 ∧ a = [(2, .ptr N0 0 0), (5, .ptr o1 0 0), (6, .ptr (M1 + 2) 0 0), (7, .int .i64 (iadd .i64 1 r3.1)), (8, .int .i64 (imul .i64 4 (isub .i64 r4.1 100)))] ∧ σ = hp E0 [(N0, some ⟨40, 5, [[.int .i64 0, .int .i64 0, .int .i64 0, .int .i64 0, .int .i64 0]]⟩), (o1, some ⟨138, 2, [[.fsl (encL rI_u8 r4.2.b), .int .i64 r4.2.p]]⟩), (M1 + 2, some ⟨40, 5, [[.int .i64 r2.1.Op, .int .i64 r2.1.Dst, .int .i64 r2.1.A, .int .i64 r2.1.B, .int .i64 r2.1.N]]⟩)] M4) (fun K hK => ?_) ?_
 ·
  skip
  have e0 : ¬ N0 = o1 := by omega
  have e1 : ¬ o1 = N0 := by omega
  have e2 : ¬ N0 = M1 + 2 := by omega
  have e3 : ¬ M1 + 2 = N0 := by omega
  have e4 : ¬ o1 = M1 + 2 := by omega
  have e5 : ¬ M1 + 2 = o1 := by omega
  simp -dsimp -implicitDefEqProofs (maxDischargeDepth := 6) [e0, e1, e2, e3, e4, e5]
  refine (c71 (W0 := [[.fsl (encL rI_u8 r3.2.b), .int .i64 r3.2.p]]) (r0_ := 0) (H := hr4) (by simp [e0, e1, e2, e3, e4, e5]) (by simp [e0, e1, e2, e3, e4, e5])).mono ?_; rintro _ _ ⟨M4, fM4_0, rfl, rfl⟩; simp only [hp_next] at fM4_0
  try simp -dsimp -implicitDefEqProofs (maxDischargeDepth := 6) [e0, e1, e2, e3, e4, e5, hp_over_some, hp_over_none]
  exact hK _ _ ⟨M4, (by omega), rfl, rfl⟩
 rintro a σ ⟨M4, fM4_0, rfl, rfl⟩
 obtain ⟨j1, hj1, H⟩ := bindE H
 refine AWP_seq (AWP_named fun K1 hK1 => ?_)
 have hJ1 : ∀ a σ, Rc G 39 N0 (fun a σ => ∃ M5 : Nat, N0 ≤ M5 ∧ N0 < M5 ∧ M1 + 2 < M5 ∧ a = [(2, .ptr N0 0 0), (6, .ptr (M1 + 2) 0 0), (7, .int .i64 j1.1), (8, .int .i64 j1.2)] ∧ σ = hp E0 [(N0, some ⟨40, 5, [[.int .i64 0, .int .i64 0, .int .i64 0, .int .i64 0, .int .i64 0]]⟩), (M1 + 2, some ⟨40, 5, [[.int .i64 r2.1.Op, .int .i64 r2.1.Dst, .int .i64 r2.1.A, .int .i64 r2.1.B, .int .i64 r2.1.N]]⟩)] M5) (a.keep [2, 6, 7, 8]) σ → K1 a σ := by
  rintro a σ ⟨b, τ, hr, M5, fM5_0, fM5_1, fM5_2, rfl, rfl⟩
  refine hK1 _ _ (AWP_keep [2, 6, 7, 8] (AWP_ref hr ?_))
  refine AWP_sr tok [] [2, 3, 4] (fun a σ => a = [(2, .ptr N0 0 0), (3, .int .i64 j1.1), (4, .int .i64 j1.2)] ∧ σ = hp E0 [(N0, some ⟨40, 5, [[.int .i64 r2.1.Op, .int .i64 r2.1.Dst, .int .i64 r2.1.A, .int .i64 r2.1.B, .int .i64 r2.1.N]]⟩), (M1 + 2, some ⟨40, 5, [[.int .i64 r2.1.Op, .int .i64 r2.1.Dst, .int .i64 r2.1.A, .int .i64 r2.1.B, .int .i64 r2.1.N]]⟩)] (M5 + 6)) (fun K hK => ?_) ?_
  ·
   skip
   have e0 : ¬ N0 = M1 + 2 := by omega
   have e1 : ¬ M1 + 2 = N0 := by omega
   simp -dsimp -implicitDefEqProofs (maxDischargeDepth := 6) [e0, e1]
   exact hK _ _ ⟨rfl, rfl⟩
  rintro a σ ⟨rfl, rfl⟩
  replace H := Option.some.inj H; subst H
  refine AWP_kp [2, 3, 4] [(2, .ptr N0 0 0), (3, .int .i64 j1.1), (4, .int .i64 j1.2)] rfl ?_
  have z0 : ¬ N0 = M1 + 2 := by omega
  have z1 : ¬ M1 + 2 = N0 := by omega
  refine AWP_ret ?_
  exact ⟨[.agg [.int .i64 r2.1.Op, .int .i64 r2.1.Dst, .int .i64 r2.1.A, .int .i64 r2.1.B, .int .i64 r2.1.N], .int .i64 j1.1, .int .i64 j1.2], by simp [z0, z1], 4, by simp [encL_nil, z0, z1]⟩
 replace H := hj1
 obtain ⟨r7, hr7, H⟩ := bindE H
 refine AWP_sr tok [] [2, 5, 6, 7, 8, 21] (fun a σ => ∃ M6 : Nat, M4 + 2 ≤ M6 ∧ a = [(2, .ptr N0 0 0), (5, .ptr o1 0 0), (6, .ptr (M1 + 2) 0 0), (7, .int .i64 (iadd .i64 1 r3.1)), (8, .int .i64 (imul .i64 4 (isub .i64 r4.1 100))), (21, .int .i64 r7.1)] ∧ σ = hp E0 [(N0, some ⟨40, 5, [[.int .i64 0, .int .i64 0, .int .i64 0, .int .i64 0, .int .i64 0]]⟩), (o1, some ⟨138, 2, [[.fsl (encL rI_u8 r7.2.b), .int .i64 r7.2.p]]⟩), (M1 + 2, some ⟨40, 5, [[.int .i64 r2.1.Op, .int .i64 r2.1.Dst, .int .i64 r2.1.A, .int .i64 r2.1.B, .int .i64 r2.1.N]]⟩)] M6) (fun K hK => ?_) ?_
 ·
  skip
  have e0 : ¬ N0 = o1 := by omega
  have e1 : ¬ o1 = N0 := by omega
  have e2 : ¬ N0 = M1 + 2 := by omega
  have e3 : ¬ M1 + 2 = N0 := by omega
  have e4 : ¬ o1 = M1 + 2 := by omega
  have e5 : ¬ M1 + 2 = o1 := by omega
  simp -dsimp -implicitDefEqProofs (maxDischargeDepth := 6) [e0, e1, e2, e3, e4, e5]
  refine (c71 (W0 := [[.fsl (encL rI_u8 r4.2.b), .int .i64 r4.2.p]]) (r0_ := 0) (H := hr7) (by simp [e0, e1, e2, e3, e4, e5]) (by simp [e0, e1, e2, e3, e4, e5])).mono ?_; rintro _ _ ⟨M6, fM6_0, rfl, rfl⟩; simp only [hp_next] at fM6_0
  try simp -dsimp -implicitDefEqProofs (maxDischargeDepth := 6) [e0, e1, e2, e3, e4, e5, hp_over_some, hp_over_none]
  exact hK _ _ ⟨M6, (by omega), rfl, rfl⟩
 rintro a σ ⟨M6, fM6_0, rfl, rfl⟩
 refine AWP_block (AWP_thenB ?_)
 refine AWP_sr tok [] [2, 5, 6, 7, 8, 21, 22] (fun a σ => a = [(2, .ptr N0 0 0), (5, .ptr o1 0 0), (6, .ptr (M1 + 2) 0 0), (7, .int .i64 (iadd .i64 1 r3.1)), (8, .int .i64 (imul .i64 4 (isub .i64 r4.1 100))), (21, .int .i64 r7.1), (22, .bool (ieq r7.1 0))] ∧ σ = hp E0 [(N0, some ⟨40, 5, [[.int .i64 0, .int .i64 0, .int .i64 0, .int .i64 0, .int .i64 0]]⟩), (o1, some ⟨138, 2, [[.fsl (encL rI_u8 r7.2.b), .int .i64 r7.2.p]]⟩), (M1 + 2, some ⟨40, 5, [[.int .i64 r2.1.Op, .int .i64 r2.1.Dst, .int .i64 r2.1.A, .int .i64 r2.1.B, .int .i64 r2.1.N]]⟩)] (M6 + 2)) (fun K hK => ?_) ?_
 ·
  skip
  have e0 : ¬ N0 = o1 := by omega
  have e1 : ¬ o1 = N0 := by omega
  have e2 : ¬ N0 = M1 + 2 := by omega
  have e3 : ¬ M1 + 2 = N0 := by omega
  have e4 : ¬ o1 = M1 + 2 := by omega
  have e5 : ¬ M1 + 2 = o1 := by omega
  simp -dsimp -implicitDefEqProofs (maxDischargeDepth := 6) [e0, e1, e2, e3, e4, e5]
  exact hK _ _ ⟨rfl, rfl⟩
 rintro a σ ⟨rfl, rfl⟩
 refine AWP_cond (ieq r7.1 0) rfl (fun C1 => ?_) (fun C1 => ?_)
 ·
  replace H := ifT C1 H
  obtain ⟨r8, hr8, H⟩ := bindE H
  obtain ⟨v9, hv9, H⟩ := bindE H
  have q0 : ∀ σ i, buildSliceA T 24 true i 2 [(0, .int .i64 0), (1, .int .i64 9)] σ = some (.fsl (encL rI ([0, 9] : List Int)), σ) := fun _ _ => rfl
  refine AWP_rt tok [0] [2, 6, 7, 8] (fun a σ => ∃ M7 : Nat, M6 + 8 ≤ M7 ∧ a = [(2, .ptr N0 0 0), (6, .ptr (M1 + 2) 0 0), (7, .int .i64 v9), (8, .int .i64 (imul .i64 4 (isub .i64 r4.1 100)))] ∧ σ = hp E0 [(N0, some ⟨40, 5, [[.int .i64 0, .int .i64 0, .int .i64 0, .int .i64 0, .int .i64 0]]⟩), (o1, some ⟨138, 2, [[.fsl (encL rI_u8 r8.2.b), .int .i64 r8.2.p]]⟩), (M1 + 2, some ⟨40, 5, [[.int .i64 r2.1.Op, .int .i64 r2.1.Dst, .int .i64 r2.1.A, .int .i64 r2.1.B, .int .i64 r2.1.N]]⟩)] M7) (fun K hK => ?_) ?_
  ·
   skip
   have e0 : ¬ N0 = o1 := by omega
   have e1 : ¬ o1 = N0 := by omega
   have e2 : ¬ N0 = M1 + 2 := by omega
   have e3 : ¬ M1 + 2 = N0 := by omega
   have e4 : ¬ o1 = M1 + 2 := by omega
   have e5 : ¬ M1 + 2 = o1 := by omega
   simp -dsimp -implicitDefEqProofs (maxDischargeDepth := 6) [e0, e1, e2, e3, e4, e5, q0, ix24 hv9]
   refine (c71 (W0 := [[.fsl (encL rI_u8 r7.2.b), .int .i64 r7.2.p]]) (r0_ := 0) (H := hr8) (by simp [e0, e1, e2, e3, e4, e5, q0, ix24 hv9]) (by simp [e0, e1, e2, e3, e4, e5, q0, ix24 hv9])).mono ?_; rintro _ _ ⟨M7, fM7_0, rfl, rfl⟩; simp only [hp_next] at fM7_0
   try simp -dsimp -implicitDefEqProofs (maxDischargeDepth := 6) [e0, e1, e2, e3, e4, e5, q0, ix24 hv9, hp_over_some, hp_over_none]
   exact hK _ _ ⟨M7, (by omega), rfl, rfl⟩
  rintro a σ ⟨M7, fM7_0, ha, rfl⟩
  replace H := Option.some.inj H; subst H
  refine hJ1 _ _ ?_; rw [ha]
  exact Rc.fin (hp_skip (AHeap.Sub.trans (hp_skip (AHeap.Sub.refl _)) (hp_drop rfl (by simp; try omega)))) ⟨M7, (by omega), (by omega), (by omega), rfl, rfl⟩
 ·
  replace H := ifF C1 H
  refine AWP_sr tok [] [2, 5, 6, 7, 8, 29] (fun a σ => a = [(2, .ptr N0 0 0), (5, .ptr o1 0 0), (6, .ptr (M1 + 2) 0 0), (7, .int .i64 (iadd .i64 1 r3.1)), (8, .int .i64 (imul .i64 4 (isub .i64 r4.1 100))), (29, .bool (ieq r7.1 1))] ∧ σ = hp E0 [(N0, some ⟨40, 5, [[.int .i64 0, .int .i64 0, .int .i64 0, .int .i64 0, .int .i64 0]]⟩), (o1, some ⟨138, 2, [[.fsl (encL rI_u8 r7.2.b), .int .i64 r7.2.p]]⟩), (M1 + 2, some ⟨40, 5, [[.int .i64 r2.1.Op, .int .i64 r2.1.Dst, .int .i64 r2.1.A, .int .i64 r2.1.B, .int .i64 r2.1.N]]⟩)] (M6 + 4)) (fun K hK => ?_) ?_
  ·
   skip
   have e0 : ¬ N0 = o1 := by omega
   have e1 : ¬ o1 = N0 := by omega
   have e2 : ¬ N0 = M1 + 2 := by omega
   have e3 : ¬ M1 + 2 = N0 := by omega
   have e4 : ¬ o1 = M1 + 2 := by omega
   have e5 : ¬ M1 + 2 = o1 := by omega
   simp -dsimp -implicitDefEqProofs (maxDischargeDepth := 6) [e0, e1, e2, e3, e4, e5]
   exact hK _ _ ⟨rfl, rfl⟩
  rintro a σ ⟨rfl, rfl⟩
  refine AWP_cond (ieq r7.1 1) rfl (fun C2 => ?_) (fun C2 => ?_)
  ·
   replace H := ifT C2 H
   obtain ⟨r10, hr10, H⟩ := bindE H
   obtain ⟨v11, hv11, H⟩ := bindE H
   have q1 : ∀ σ i, buildSliceA T 24 true i 4 [(0, .int .i64 2), (1, .int .i64 100004), (2, .int .i64 (-100004)), (3, .int .i64 100000)] σ = some (.fsl (encL rI ([2, 100004, -100004, 100000] : List Int)), σ) := fun _ _ => rfl
   refine AWP_rt tok [0] [2, 6, 7, 8] (fun a σ => ∃ M8 : Nat, M6 + 10 ≤ M8 ∧ a = [(2, .ptr N0 0 0), (6, .ptr (M1 + 2) 0 0), (7, .int .i64 (iadd .i64 1 r3.1)), (8, .int .i64 v11)] ∧ σ = hp E0 [(N0, some ⟨40, 5, [[.int .i64 0, .int .i64 0, .int .i64 0, .int .i64 0, .int .i64 0]]⟩), (o1, some ⟨138, 2, [[.fsl (encL rI_u8 r10.2.b), .int .i64 r10.2.p]]⟩), (M1 + 2, some ⟨40, 5, [[.int .i64 r2.1.Op, .int .i64 r2.1.Dst, .int .i64 r2.1.A, .int .i64 r2.1.B, .int .i64 r2.1.N]]⟩)] M8) (fun K hK => ?_) ?_
   ·
    skip
    have e0 : ¬ N0 = o1 := by omega
    have e1 : ¬ o1 = N0 := by omega
    have e2 : ¬ N0 = M1 + 2 := by omega
    have e3 : ¬ M1 + 2 = N0 := by omega
    have e4 : ¬ o1 = M1 + 2 := by omega
    have e5 : ¬ M1 + 2 = o1 := by omega
    simp -dsimp -implicitDefEqProofs (maxDischargeDepth := 6) [e0, e1, e2, e3, e4, e5, q1, ix24 hv11]
    refine (c71 (W0 := [[.fsl (encL rI_u8 r7.2.b), .int .i64 r7.2.p]]) (r0_ := 0) (H := hr10) (by simp [e0, e1, e2, e3, e4, e5, q1, ix24 hv11]) (by simp [e0, e1, e2, e3, e4, e5, q1, ix24 hv11])).mono ?_; rintro _ _ ⟨M8, fM8_0, rfl, rfl⟩; simp only [hp_next] at fM8_0
    try simp -dsimp -implicitDefEqProofs (maxDischargeDepth := 6) [e0, e1, e2, e3, e4, e5, q1, ix24 hv11, hp_over_some, hp_over_none]
    exact hK _ _ ⟨M8, (by omega), rfl, rfl⟩
   rintro a σ ⟨M8, fM8_0, ha, rfl⟩
   replace H := Option.some.inj H; subst H
   refine hJ1 _ _ ?_; rw [ha]
   exact Rc.fin (hp_skip (AHeap.Sub.trans (hp_skip (AHeap.Sub.refl _)) (hp_drop rfl (by simp; try omega)))) ⟨M8, (by omega), (by omega), (by omega), rfl, rfl⟩
  ·
   replace H := ifF C2 H
   refine AWP_skip ?_
   show K1 _ _
   refine keepE (l := [2, 6, 7, 8]) (x := [(2, .ptr N0 0 0), (6, .ptr (M1 + 2) 0 0), (7, .int .i64 (iadd .i64 1 r3.1)), (8, .int .i64 (imul .i64 4 (isub .i64 r4.1 100)))]) rfl fun a' ha => ?_
   replace H := Option.some.inj H; subst H
   refine hJ1 _ _ ?_; rw [ha]
   exact Rc.fin (hp_skip (AHeap.Sub.trans (hp_skip (AHeap.Sub.refl _)) (hp_drop rfl (by simp; try omega)))) ⟨M6 + 4, (by omega), (by omega), (by omega), rfl, rfl⟩
theorem c28 {p0 : (List gInstr)} {p1 : (List gInstr)} {r : Bool} (H : l_sameInstrs p0 p1 = some r) : APure Tryd.prog G 28 [.fsl (encL rInstr p0), .fsl (encL rInstr p1)] (.bool r) := by
 refine APure_fn (fun N0 => ?_) (by simp)
 refine ACalls_fn tok Tryd.func28 (by kernel_rfl) rfl Tryd.ntmps28 Tryd.results28 rfl ?_
 simp only [argsA, Nat.reduceAdd, hp_next]
 unfold l_sameInstrs at H
 refine AWP_sr tok [] [0, 1] (fun a σ => a = [(0, .fsl (encL rInstr p0)), (1, .fsl (encL rInstr p1))] ∧ σ = hp E0 [] (N0 + 1)) (fun K hK => ?_) ?_
 ·
  skip
  simp -dsimp -implicitDefEqProofs (maxDischargeDepth := 6)
  exact hK _ _ ⟨rfl, rfl⟩
 rintro a σ ⟨rfl, rfl⟩
 refine AWP_sq [0, 1] fun K1 hK1 => ?_
 refine AWP_sr tok [] [0, 1, 10] (fun a σ => a = [(0, .fsl (encL rInstr p0)), (1, .fsl (encL rInstr p1)), (10, .bool (ine (ilen p0) (ilen p1)))] ∧ σ = hp E0 [] (N0 + 6)) (fun K hK => ?_) ?_
 ·
  skip
  simp -dsimp -implicitDefEqProofs (maxDischargeDepth := 6)
  exact hK _ _ ⟨rfl, rfl⟩
 rintro a σ ⟨rfl, rfl⟩
 refine AWP_cond (ine (ilen p0) (ilen p1)) rfl (fun C1 => ?_) (fun C1 => ?_)
 ·
  replace H := ifT C1 H
  refine AWP_sr tok [] [4] (fun a σ => a = [(4, .bool false)] ∧ σ = hp E0 [] (N0 + 7)) (fun K hK => ?_) ?_
  ·
   skip
   simp -dsimp -implicitDefEqProofs (maxDischargeDepth := 6)
   exact hK _ _ ⟨rfl, rfl⟩
  rintro a σ ⟨rfl, rfl⟩
  replace H := Option.some.inj H; subst H
  refine AWP_kp [4] [(4, .bool false)] rfl ?_
  refine AWP_ret ?_
  exact ⟨[.bool false], by simp, 4, by simp [encL_nil]⟩
 ·
  replace H := ifF C1 H
  refine AWP_skip ?_
  show K1 _ _
  refine keepE (l := [0, 1]) (x := [(0, .fsl (encL rInstr p0)), (1, .fsl (encL rInstr p1))]) rfl fun a' ha => ?_
  refine hK1 _ _ ?_; rw [ha]
  refine Rc.mk ?_
  refine AWP_sq [] fun K2 hK2 => ?_
  refine AWP_sr tok [] [0, 1, 5] (fun a σ => a = [(0, .fsl (encL rInstr p0)), (1, .fsl (encL rInstr p1)), (5, .int .i64 0)] ∧ σ = hp E0 [] (N0 + 7)) (fun K hK => ?_) ?_
  ·
   skip
   simp -dsimp -implicitDefEqProofs (maxDischargeDepth := 6)
   exact hK _ _ ⟨rfl, rfl⟩
  rintro a σ ⟨rfl, rfl⟩
  refine AWP_block (AWP_thenB ?_)
  obtain ⟨e1, hse1, H⟩ := bindE H
  refine AWP_lp [0, 1, 5] (fun s a σ => ∃ M1 : Nat, N0 ≤ M1 ∧ a = [(0, .fsl (encL rInstr p0)), (1, .fsl (encL rInstr p1)), (5, .int .i64 s)] ∧ σ = hp E0 [] M1) (fun e x a σ => match e with | .inl s => x = .exit 0 ∧ Rc G 26 N0 (fun a σ => ∃ M2 : Nat, N0 ≤ M2 ∧ a = [] ∧ σ = hp E0 [] M2) (AAct.keep a []) σ | .inr s => x = .ret ∧ ∃ vs, resA T σ a [.tmp 4] = some vs ∧ ∃ d, thawA (fun _ => true) σ d (tupA vs) = .bool s) hse1 ?_ ?_ ?_
  ·
   refine Rc.kp [0, 1, 5] [(0, .fsl (encL rInstr p0)), (1, .fsl (encL rInstr p1)), (5, .int .i64 0)] rfl ?_
   exact Rc.fin (AHeap.Sub.refl _) ⟨N0 + 7, (by omega), rfl, rfl⟩
  ·
   clear H hse1
   rintro s1 fl a σ H ⟨M1, fM1_0, rfl, rfl⟩ K3 O3 hK3 hO3
   unfold l_sameInstrs_L1 at H; dsimp only at H
   refine AWP_sq [0, 1, 5] fun K4 hK4 => ?_
   refine AWP_sr tok [] [0, 1, 5, 14] (fun a σ => a = [(0, .fsl (encL rInstr p0)), (1, .fsl (encL rInstr p1)), (5, .int .i64 s1), (14, .bool (ilt s1 (ilen p0)))] ∧ σ = hp E0 [] (M1 + 4)) (fun K hK => ?_) ?_
   ·
    skip
    simp -dsimp -implicitDefEqProofs (maxDischargeDepth := 6)
    exact hK _ _ ⟨rfl, rfl⟩
   rintro a σ ⟨rfl, rfl⟩
   refine AWP_cond (ilt s1 (ilen p0)) rfl (fun C2 => ?_) (fun C2 => ?_)
   ·
    replace H := ifT C2 H
    refine AWP_skip ?_
    show K4 _ _
    refine keepE (l := [0, 1, 5]) (x := [(0, .fsl (encL rInstr p0)), (1, .fsl (encL rInstr p1)), (5, .int .i64 s1)]) rfl fun a' ha => ?_
    refine hK4 _ _ ?_; rw [ha]
    refine Rc.mk ?_
    refine AWP_sq [0, 1, 5] fun K5 hK5 => ?_
    refine AWP_block (AWP_thenB ?_)
    obtain ⟨v2, hv2, H⟩ := bindE H
    obtain ⟨v3, hv3, H⟩ := bindE H
    refine AWP_sd tok tokM [] [] [0, 1, 2, 3, 4, 5, 6, 7, 8] [0, 1, 5, 25] (fun a σ => a = [(0, .fsl (encL rInstr p0)), (1, .fsl (encL rInstr p1)), (5, .int .i64 s1), (25, .bool (bnot (eqD v2 v3)))] ∧ σ = hp E0 [] (M1 + 13)) (by decide) (fun K hK => ?_) ?_
    ·
     simp only [pickL, nthO_succ, nthO_zero]
     simp -dsimp -implicitDefEqProofs (maxDischargeDepth := 6) [ix29 hv2, ix29 hv3]
     exact hK _ _ ⟨rfl, rfl⟩
    rintro a σ ⟨rfl, rfl⟩
    refine AWP_cond (bnot (eqD v2 v3)) rfl (fun C3 => ?_) (fun C3 => ?_)
    ·
     replace H := ifT C3 H
     refine AWP_sr tok [] [4] (fun a σ => a = [(4, .bool false)] ∧ σ = hp E0 [] (M1 + 14)) (fun K hK => ?_) ?_
     ·
      skip
      simp -dsimp -implicitDefEqProofs (maxDischargeDepth := 6)
      exact hK _ _ ⟨rfl, rfl⟩
     rintro a σ ⟨rfl, rfl⟩
     replace H := Option.some.inj H; subst H
     refine AWP_kp [4] [(4, .bool false)] rfl ?_
     refine AWP_ret (hO3 _ _ _ _ rfl ⟨rfl, ?_⟩)
     exact ⟨[.bool false], by simp, 4, by simp [encL_nil]⟩
    ·
     replace H := ifF C3 H
     refine AWP_skip ?_
     show K5 _ _
     refine keepE (l := [0, 1, 5]) (x := [(0, .fsl (encL rInstr p0)), (1, .fsl (encL rInstr p1)), (5, .int .i64 s1)]) rfl fun a' ha => ?_
     refine hK5 _ _ ?_; rw [ha]
     refine Rc.mk ?_
     refine AWP_rt tok [] [0, 1, 5] (fun a σ => a = [(0, .fsl (encL rInstr p0)), (1, .fsl (encL rInstr p1)), (5, .int .i64 (iadd .i64 s1 1))] ∧ σ = hp E0 [] (M1 + 16)) (fun K hK => ?_) ?_
     ·
      skip
      simp -dsimp -implicitDefEqProofs (maxDischargeDepth := 6)
      exact hK _ _ ⟨rfl, rfl⟩
     rintro a σ ⟨ha, rfl⟩
     replace H := Option.some.inj H; subst H
     refine hK3 _ _ _ rfl ?_; rw [ha]
     exact Rc.fin (AHeap.Sub.refl _) ⟨M1 + 16, (by omega), rfl, rfl⟩
   ·
    replace H := ifF C2 H
    replace H := Option.some.inj H; subst H
    refine AWP_exit (hO3 _ _ _ _ rfl ⟨rfl, ?_⟩)
    refine Rc.rw (l := []) (X := []) rfl ?_
    exact Rc.fin (AHeap.Sub.refl _) ⟨M1 + 4, (by omega), rfl, rfl⟩
  ·
   intro x a σ hx
   rcases e1 with ⟨⟩ | r0
   ·
    obtain ⟨rfl, b, τ, hr, M2, fM2_0, rfl, rfl⟩ := hx
    dsimp only at H
    show K2 _ _
    refine hK2 _ _ (Rc_ref hr ?_)
    refine Rc.mk ?_
    refine AWP_sr tok [] [4] (fun a σ => a = [(4, .bool true)] ∧ σ = hp E0 [] (M2 + 1)) (fun K hK => ?_) ?_
    ·
     skip
     simp -dsimp -implicitDefEqProofs (maxDischargeDepth := 6)
     exact hK _ _ ⟨rfl, rfl⟩
    rintro a σ ⟨rfl, rfl⟩
    replace H := Option.some.inj H; subst H
    refine AWP_kp [4] [(4, .bool true)] rfl ?_
    refine AWP_ret ?_
    exact ⟨[.bool true], by simp, 4, by simp [encL_nil]⟩
   ·
    obtain ⟨rfl, hx2⟩ := hx
    dsimp only at H
    replace H := Option.some.inj H; subst H; exact hx2
theorem c5 {p0 : (List Int)} {r : Bool} (H : l_FnQuadCall p0 = some r) : APure Tryd.prog G 5 [.fsl (encL rI_u8 p0)] (.bool r) := by
 refine APure_fn (fun N0 => ?_) (by simp)
 refine ACalls_fn tok Tryd.func5 (by kernel_rfl) rfl Tryd.ntmps5 Tryd.results5 rfl ?_
 simp only [argsA, Nat.reduceAdd, hp_next]
 unfold l_FnQuadCall at H
 refine AWP_sr tok [] [0] (fun a σ => a = [(0, .fsl (encL rI_u8 p0))] ∧ σ = hp E0 [] (N0 + 1)) (fun K hK => ?_) ?_
 ·
  skip
  simp -dsimp -implicitDefEqProofs (maxDischargeDepth := 6)
  exact hK _ _ ⟨rfl, rfl⟩
 rintro a σ ⟨rfl, rfl⟩
 refine AWP_sq [0] fun K1 hK1 => ?_
 refine AWP_sr tok [] [0, 14] (fun a σ => a = [(0, .fsl (encL rI_u8 p0)), (14, .bool (igt (ilen p0) 1048576))] ∧ σ = hp E0 [] (N0 + 4)) (fun K hK => ?_) ?_
 ·
  skip
  simp -dsimp -implicitDefEqProofs (maxDischargeDepth := 6)
  exact hK _ _ ⟨rfl, rfl⟩
 rintro a σ ⟨rfl, rfl⟩
 refine AWP_cond (igt (ilen p0) 1048576) rfl (fun C1 => ?_) (fun C1 => ?_)
 ·
  replace H := ifT C1 H
  refine AWP_sr tok [] [2] (fun a σ => a = [(2, .bool true)] ∧ σ = hp E0 [] (N0 + 5)) (fun K hK => ?_) ?_
  ·
   skip
   simp -dsimp -implicitDefEqProofs (maxDischargeDepth := 6)
   exact hK _ _ ⟨rfl, rfl⟩
  rintro a σ ⟨rfl, rfl⟩
  replace H := Option.some.inj H; subst H
  refine AWP_kp [2] [(2, .bool true)] rfl ?_
  refine AWP_ret ?_
  exact ⟨[.bool true], by simp, 4, by simp [encL_nil]⟩
 ·
  replace H := ifF C1 H
  refine AWP_skip ?_
  show K1 _ _
  refine keepE (l := [0]) (x := [(0, .fsl (encL rI_u8 p0))]) rfl fun a' ha => ?_
  refine hK1 _ _ ?_; rw [ha]
  refine Rc.mk ?_
  obtain ⟨r1, hr1, H⟩ := bindE H
  refine AWP_sr tok [] [3, 4, 5] (fun a σ => a = [(3, .ptr (N0 + 10) 0 0), (4, .int .i64 r1.2.1), (5, .int .i64 r1.2.2)] ∧ σ = hp E0 [(N0 + 10, some ⟨40, 5, [[.int .i64 r1.1.Op, .int .i64 r1.1.Dst, .int .i64 r1.1.A, .int .i64 r1.1.B, .int .i64 r1.1.N]]⟩)] (N0 + 14)) (fun K hK => ?_) ?_
  ·
   skip
   simp -dsimp -implicitDefEqProofs (maxDischargeDepth := 6)
   refine (c27 hr1).app ?_; try simp -dsimp -implicitDefEqProofs (maxDischargeDepth := 6)
   exact hK _ _ ⟨rfl, rfl⟩
  rintro a σ ⟨rfl, rfl⟩
  obtain ⟨r2, hr2, H⟩ := bindE H
  refine AWP_sr tok [] [3, 4, 5, 6, 7] (fun a σ => a = [(3, .ptr (N0 + 10) 0 0), (4, .int .i64 r1.2.1), (5, .int .i64 r1.2.2), (6, .fsl (encL rInstr r2.1)), (7, .bool r2.2)] ∧ σ = hp E0 [(N0 + 10, some ⟨40, 5, [[.int .i64 r1.1.Op, .int .i64 r1.1.Dst, .int .i64 r1.1.A, .int .i64 r1.1.B, .int .i64 r1.1.N]]⟩)] (N0 + 23)) (fun K hK => ?_) ?_
  ·
   skip
   simp -dsimp -implicitDefEqProofs (maxDischargeDepth := 6)
   refine (c25 hr2).app ?_; try simp -dsimp -implicitDefEqProofs (maxDischargeDepth := 6)
   exact hK _ _ ⟨rfl, rfl⟩
  rintro a σ ⟨rfl, rfl⟩
  obtain ⟨r3, hr3, H⟩ := bindE H
  refine AWP_sr tok [] [3, 6, 7, 8, 9] (fun a σ => a = [(3, .ptr (N0 + 10) 0 0), (6, .fsl (encL rInstr r2.1)), (7, .bool r2.2), (8, .fsl (encL rInstr r3.1)), (9, .bool r3.2)] ∧ σ = hp E0 [(N0 + 10, some ⟨40, 5, [[.int .i64 r1.1.Op, .int .i64 r1.1.Dst, .int .i64 r1.1.A, .int .i64 r1.1.B, .int .i64 r1.1.N]]⟩)] (N0 + 32)) (fun K hK => ?_) ?_
  ·
   skip
   simp -dsimp -implicitDefEqProofs (maxDischargeDepth := 6)
   refine (c23 hr3).app ?_; try simp -dsimp -implicitDefEqProofs (maxDischargeDepth := 6)
   exact hK _ _ ⟨rfl, rfl⟩
  rintro a σ ⟨rfl, rfl⟩
  refine AWP_sq [3, 6] fun K2 hK2 => ?_
  obtain ⟨g5, hg5, H⟩ := bindE H
  obtain ⟨g6, hg6, H⟩ := bindE H
  refine AWP_sr tok [] [3, 6, 7, 8, 9, 47] (fun a σ => a = [(3, .ptr (N0 + 10) 0 0), (6, .fsl (encL rInstr r2.1)), (7, .bool r2.2), (8, .fsl (encL rInstr r3.1)), (9, .bool r3.2), (47, .bool g6)] ∧ σ = hp E0 [(N0 + 10, some ⟨40, 5, [[.int .i64 r1.1.Op, .int .i64 r1.1.Dst, .int .i64 r1.1.A, .int .i64 r1.1.B, .int .i64 r1.1.N]]⟩)] (N0 + 45)) (fun K hK => ?_) ?_
  ·
   skip
   simp -dsimp -implicitDefEqProofs (maxDischargeDepth := 6)
   cases hbg5 : bneb r2.2 r3.2
   ·
    replace hg5 := ifF hbg5 hg5
    obtain ⟨r4, hr4, hg5⟩ := bindE hg5
    replace hg5 := Option.some.inj hg5; subst hg5
    try simp -dsimp -implicitDefEqProofs (maxDischargeDepth := 6) [hbg5]
    refine (c28 hr4).app ?_; try simp -dsimp -implicitDefEqProofs (maxDischargeDepth := 6) [hbg5]
    cases hbg6 : (bnot r4)
    ·
     replace hg6 := ifF hbg6 hg6
     replace hg6 := Option.some.inj hg6; subst hg6
     try simp -dsimp -implicitDefEqProofs (maxDischargeDepth := 6) [hbg5, hbg6]
     exact hK _ _ ⟨rfl, rfl⟩
    ·
     replace hg6 := ifT hbg6 hg6
     replace hg6 := Option.some.inj hg6; subst hg6
     try simp -dsimp -implicitDefEqProofs (maxDischargeDepth := 6) [hbg5, hbg6]
     exact hK _ _ ⟨rfl, rfl⟩
   ·
    replace hg5 := ifT hbg5 hg5
    replace hg5 := Option.some.inj hg5; subst hg5
    try simp -dsimp -implicitDefEqProofs (maxDischargeDepth := 6) [hbg5]
    replace hg6 := ifT rfl hg6
    replace hg6 := Option.some.inj hg6; subst hg6
    try simp -dsimp -implicitDefEqProofs (maxDischargeDepth := 6) [hbg5]
    exact hK _ _ ⟨rfl, rfl⟩
  rintro a σ ⟨rfl, rfl⟩
  refine AWP_cond g6 rfl (fun C2 => ?_) (fun C2 => ?_)
  ·
   replace H := ifT C2 H
   obtain ⟨g8, hg8, H⟩ := bindE H
   refine AWP_sr tok [] [2] (fun a σ => a = [(2, .bool g8)] ∧ σ = hp E0 [(N0 + 10, some ⟨40, 5, [[.int .i64 r1.1.Op, .int .i64 r1.1.Dst, .int .i64 r1.1.A, .int .i64 r1.1.B, .int .i64 r1.1.N]]⟩)] (N0 + 54)) (fun K hK => ?_) ?_
   ·
    skip
    simp -dsimp -implicitDefEqProofs (maxDischargeDepth := 6)
    cases hbg8 : beqb r2.2 r3.2
    ·
     replace hg8 := ifF hbg8 hg8
     replace hg8 := Option.some.inj hg8; subst hg8
     try simp -dsimp -implicitDefEqProofs (maxDischargeDepth := 6) [hbg8]
     exact hK _ _ ⟨rfl, rfl⟩
    ·
     replace hg8 := ifT hbg8 hg8
     obtain ⟨r7, hr7, hg8⟩ := bindE hg8
     replace hg8 := Option.some.inj hg8; subst hg8
     try simp -dsimp -implicitDefEqProofs (maxDischargeDepth := 6) [hbg8]
     refine (c28 hr7).app ?_; try simp -dsimp -implicitDefEqProofs (maxDischargeDepth := 6) [hbg8]
     exact hK _ _ ⟨rfl, rfl⟩
   rintro a σ ⟨rfl, rfl⟩
   replace H := Option.some.inj H; subst H
   refine AWP_kp [2] [(2, .bool g8)] rfl ?_
   refine AWP_ret ?_
   exact ⟨[.bool g8], by simp, 4, by simp [encL_nil]⟩
  ·
   replace H := ifF C2 H
   refine AWP_skip ?_
   show K2 _ _
   refine keepE (l := [3, 6]) (x := [(3, .ptr (N0 + 10) 0 0), (6, .fsl (encL rInstr r2.1))]) rfl fun a' ha => ?_
   refine hK2 _ _ ?_; rw [ha]
   refine Rc.mk ?_
   refine AWP_sr tok [] [3, 6, 10] (fun a σ => a = [(3, .ptr (N0 + 10) 0 0), (6, .fsl (encL rInstr r2.1)), (10, .int .i64 0)] ∧ σ = hp E0 [(N0 + 10, some ⟨40, 5, [[.int .i64 r1.1.Op, .int .i64 r1.1.Dst, .int .i64 r1.1.A, .int .i64 r1.1.B, .int .i64 r1.1.N]]⟩)] (N0 + 46)) (fun K hK => ?_) ?_
   ·
    skip
    simp -dsimp -implicitDefEqProofs (maxDischargeDepth := 6)
    exact hK _ _ ⟨rfl, rfl⟩
   rintro a σ ⟨rfl, rfl⟩
   refine AWP_sq [3, 10] fun K3 hK3 => ?_
   refine AWP_sr tok [] [3, 6, 10, 11] (fun a σ => a = [(3, .ptr (N0 + 10) 0 0), (6, .fsl (encL rInstr r2.1)), (10, .int .i64 0), (11, .int .i64 0)] ∧ σ = hp E0 [(N0 + 10, some ⟨40, 5, [[.int .i64 r1.1.Op, .int .i64 r1.1.Dst, .int .i64 r1.1.A, .int .i64 r1.1.B, .int .i64 r1.1.N]]⟩)] (N0 + 47)) (fun K hK => ?_) ?_
   ·
    skip
    simp -dsimp -implicitDefEqProofs (maxDischargeDepth := 6)
    exact hK _ _ ⟨rfl, rfl⟩
   rintro a σ ⟨rfl, rfl⟩
   refine AWP_block (AWP_thenB ?_)
   obtain ⟨e1, hse1, H⟩ := bindE H
   refine AWP_lp [3, 6, 10, 11] (fun s a σ => ∃ M1 o1 : Nat, N0 ≤ M1 ∧ N0 ≤ o1 ∧ o1 < M1 ∧ a = [(3, .ptr o1 0 0), (6, .fsl (encL rInstr r2.1)), (10, .int .i64 s.1), (11, .int .i64 s.2.1)] ∧ σ = hp E0 [(o1, some ⟨40, 5, [[.int .i64 s.2.2.Op, .int .i64 s.2.2.Dst, .int .i64 s.2.2.A, .int .i64 s.2.2.B, .int .i64 s.2.2.N]]⟩)] M1) (fun e x a σ => match e with | .inl s => x = .exit 0 ∧ Rc G 83 N0 (fun a σ => ∃ M2 o2 : Nat, N0 ≤ M2 ∧ N0 ≤ o2 ∧ o2 < M2 ∧ a = [(3, .ptr o2 0 0), (10, .int .i64 s.1)] ∧ σ = hp E0 [(o2, some ⟨40, 5, [[.int .i64 s.2.Op, .int .i64 s.2.Dst, .int .i64 s.2.A, .int .i64 s.2.B, .int .i64 s.2.N]]⟩)] M2) (AAct.keep a [3, 10]) σ | .inr s => x = .ret ∧ ∃ vs, resA T σ a [.tmp 2] = some vs ∧ ∃ d, thawA (fun _ => true) σ d (tupA vs) = .bool s) hse1 ?_ ?_ ?_
   ·
    refine Rc.kp [3, 6, 10, 11] [(3, .ptr (N0 + 10) 0 0), (6, .fsl (encL rInstr r2.1)), (10, .int .i64 0), (11, .int .i64 0)] rfl ?_
    exact Rc.fin (AHeap.Sub.refl _) ⟨N0 + 47, (N0 + 10), (by omega), (by omega), (by omega), rfl, rfl⟩
   ·
    clear H hse1
    rintro ⟨s9, s10, s11⟩ fl a σ H ⟨M1, o1, fM1_0, fM1_1, fM1_2, rfl, rfl⟩ K4 O4 hK4 hO4
    unfold l_FnQuadCall_L1 at H; dsimp only at H
    refine AWP_sq [3, 6, 10, 11] fun K5 hK5 => ?_
    refine AWP_sr tok [] [3, 6, 10, 11, 59] (fun a σ => a = [(3, .ptr o1 0 0), (6, .fsl (encL rInstr r2.1)), (10, .int .i64 s9), (11, .int .i64 s10), (59, .bool (ilt s10 (ilen r2.1)))] ∧ σ = hp E0 [(o1, some ⟨40, 5, [[.int .i64 s11.Op, .int .i64 s11.Dst, .int .i64 s11.A, .int .i64 s11.B, .int .i64 s11.N]]⟩)] (M1 + 4)) (fun K hK => ?_) ?_
    ·
     skip
     simp -dsimp -implicitDefEqProofs (maxDischargeDepth := 6)
     exact hK _ _ ⟨rfl, rfl⟩
    rintro a σ ⟨rfl, rfl⟩
    refine AWP_cond (ilt s10 (ilen r2.1)) rfl (fun C3 => ?_) (fun C3 => ?_)
    ·
     replace H := ifT C3 H
     refine AWP_skip ?_
     show K5 _ _
     refine keepE (l := [3, 6, 10, 11]) (x := [(3, .ptr o1 0 0), (6, .fsl (encL rInstr r2.1)), (10, .int .i64 s9), (11, .int .i64 s10)]) rfl fun a' ha => ?_
     refine hK5 _ _ ?_; rw [ha]
     refine Rc.mk ?_
     refine AWP_sq [3, 6, 10, 11] fun K6 hK6 => ?_
     refine AWP_block (AWP_thenB ?_)
     obtain ⟨v14, hv14, H⟩ := bindE H
     refine AWP_sr tok [] [3, 6, 10, 11, 67] (fun a σ => a = [(3, .ptr o1 0 0), (6, .fsl (encL rInstr r2.1)), (10, .int .i64 s9), (11, .int .i64 s10), (67, .bool (ieq v14.Op 15))] ∧ σ = hp E0 [(o1, some ⟨40, 5, [[.int .i64 s11.Op, .int .i64 s11.Dst, .int .i64 s11.A, .int .i64 s11.B, .int .i64 s11.N]]⟩)] (M1 + 10)) (fun K hK => ?_) ?_
     ·
      skip
      simp -dsimp -implicitDefEqProofs (maxDischargeDepth := 6) [ix29 hv14]
      exact hK _ _ ⟨rfl, rfl⟩
     rintro a σ ⟨rfl, rfl⟩
     refine AWP_cond (ieq v14.Op 15) rfl (fun C4 => ?_) (fun C4 => ?_)
     ·
      replace H := ifT C4 H
      refine AWP_sr tok [] [3, 6, 10, 11] (fun a σ => a = [(3, .ptr o1 0 0), (6, .fsl (encL rInstr r2.1)), (10, .int .i64 (iadd .i64 s9 1)), (11, .int .i64 s10)] ∧ σ = hp E0 [(o1, some ⟨40, 5, [[.int .i64 s11.Op, .int .i64 s11.Dst, .int .i64 s11.A, .int .i64 s11.B, .int .i64 s11.N]]⟩)] (M1 + 13)) (fun K hK => ?_) ?_
      ·
       skip
       simp -dsimp -implicitDefEqProofs (maxDischargeDepth := 6)
       exact hK _ _ ⟨rfl, rfl⟩
      rintro a σ ⟨rfl, rfl⟩
      refine AWP_sr tok [] [3, 6, 10, 11, 75] (fun a σ => a = [(3, .ptr o1 0 0), (6, .fsl (encL rInstr r2.1)), (10, .int .i64 (iadd .i64 s9 1)), (11, .int .i64 s10), (75, .bool (bnot (eqD v14 (⟨15, 1, 0, 0, 0⟩ : gInstr))))] ∧ σ = hp E0 [(o1, some ⟨40, 5, [[.int .i64 s11.Op, .int .i64 s11.Dst, .int .i64 s11.A, .int .i64 s11.B, .int .i64 s11.N]]⟩)] (M1 + 19)) (fun K hK => ?_) ?_
      ·
       skip
       simp -dsimp -implicitDefEqProofs (maxDischargeDepth := 6) [ix29 hv14]
       exact hK _ _ ⟨rfl, rfl⟩
      rintro a σ ⟨rfl, rfl⟩
      refine AWP_cond (bnot (eqD v14 (⟨15, 1, 0, 0, 0⟩ : gInstr))) rfl (fun C5 => ?_) (fun C5 => ?_)
      ·
       replace H := ifT C5 H
       refine AWP_sr tok [] [2] (fun a σ => a = [(2, .bool false)] ∧ σ = hp E0 [(o1, some ⟨40, 5, [[.int .i64 s11.Op, .int .i64 s11.Dst, .int .i64 s11.A, .int .i64 s11.B, .int .i64 s11.N]]⟩)] (M1 + 20)) (fun K hK => ?_) ?_
       ·
        skip
        simp -dsimp -implicitDefEqProofs (maxDischargeDepth := 6)
        exact hK _ _ ⟨rfl, rfl⟩
       rintro a σ ⟨rfl, rfl⟩
       replace H := Option.some.inj H; subst H
       refine AWP_kp [2] [(2, .bool false)] rfl ?_
       refine AWP_ret (hO4 _ _ _ _ rfl ⟨rfl, ?_⟩)
       exact ⟨[.bool false], by simp, 4, by simp [encL_nil]⟩
      ·
       replace H := ifF C5 H
       refine AWP_skip ?_
       show K6 _ _
       refine keepE (l := [3, 6, 10, 11]) (x := [(3, .ptr o1 0 0), (6, .fsl (encL rInstr r2.1)), (10, .int .i64 (iadd .i64 s9 1)), (11, .int .i64 s10)]) rfl fun a' ha => ?_
       refine hK6 _ _ ?_; rw [ha]
       refine Rc.mk ?_
       refine AWP_rt tok [] [3, 6, 10, 11] (fun a σ => a = [(3, .ptr o1 0 0), (6, .fsl (encL rInstr r2.1)), (10, .int .i64 (iadd .i64 s9 1)), (11, .int .i64 (iadd .i64 s10 1))] ∧ σ = hp E0 [(o1, some ⟨40, 5, [[.int .i64 s11.Op, .int .i64 s11.Dst, .int .i64 s11.A, .int .i64 s11.B, .int .i64 s11.N]]⟩)] (M1 + 22)) (fun K hK => ?_) ?_
       ·
        skip
        simp -dsimp -implicitDefEqProofs (maxDischargeDepth := 6)
        exact hK _ _ ⟨rfl, rfl⟩
       rintro a σ ⟨ha, rfl⟩
       replace H := Option.some.inj H; subst H
       refine hK4 _ _ _ rfl ?_; rw [ha]
       exact Rc.fin (AHeap.Sub.refl _) ⟨M1 + 22, o1, (by omega), (by omega), (by omega), rfl, rfl⟩
     ·
      replace H := ifF C4 H
      refine AWP_skip ?_
      show K6 _ _
      refine keepE (l := [3, 6, 10, 11]) (x := [(3, .ptr o1 0 0), (6, .fsl (encL rInstr r2.1)), (10, .int .i64 s9), (11, .int .i64 s10)]) rfl fun a' ha => ?_
      refine hK6 _ _ ?_; rw [ha]
      refine Rc.mk ?_
      refine AWP_rt tok [] [3, 6, 10, 11] (fun a σ => a = [(3, .ptr o1 0 0), (6, .fsl (encL rInstr r2.1)), (10, .int .i64 s9), (11, .int .i64 (iadd .i64 s10 1))] ∧ σ = hp E0 [(o1, some ⟨40, 5, [[.int .i64 s11.Op, .int .i64 s11.Dst, .int .i64 s11.A, .int .i64 s11.B, .int .i64 s11.N]]⟩)] (M1 + 13)) (fun K hK => ?_) ?_
      ·
       skip
       simp -dsimp -implicitDefEqProofs (maxDischargeDepth := 6)
       exact hK _ _ ⟨rfl, rfl⟩
      rintro a σ ⟨ha, rfl⟩
      replace H := Option.some.inj H; subst H
      refine hK4 _ _ _ rfl ?_; rw [ha]
      exact Rc.fin (AHeap.Sub.refl _) ⟨M1 + 13, o1, (by omega), (by omega), (by omega), rfl, rfl⟩
    ·
     replace H := ifF C3 H
     replace H := Option.some.inj H; subst H
     refine AWP_exit (hO4 _ _ _ _ rfl ⟨rfl, ?_⟩)
     refine Rc.rw (l := [3, 10]) (X := [(3, .ptr o1 0 0), (10, .int .i64 s9)]) rfl ?_
     exact Rc.fin (AHeap.Sub.refl _) ⟨M1 + 4, o1, (by omega), (by omega), (by omega), rfl, rfl⟩
   ·
    intro x a σ hx
    rcases e1 with ⟨y12, y13⟩ | r0
    ·
     obtain ⟨rfl, b, τ, hr, M2, o2, fM2_0, fM2_1, fM2_2, rfl, rfl⟩ := hx
     dsimp only at H
     show K3 _ _
     refine hK3 _ _ (Rc_ref hr ?_)
     refine Rc.mk ?_
     refine AWP_sq [10] fun K7 hK7 => ?_
     refine AWP_sr tok [] [10, 78] (fun a σ => a = [(10, .int .i64 y12), (78, .bool (ige y13.Op 6))] ∧ σ = hp E0 [(o2, some ⟨40, 5, [[.int .i64 y13.Op, .int .i64 y13.Dst, .int .i64 y13.A, .int .i64 y13.B, .int .i64 y13.N]]⟩)] (M2 + 3)) (fun K hK => ?_) ?_
     ·
      skip
      simp -dsimp -implicitDefEqProofs (maxDischargeDepth := 6)
      exact hK _ _ ⟨rfl, rfl⟩
     rintro a σ ⟨rfl, rfl⟩
     refine AWP_cond (ige y13.Op 6) rfl (fun C6 => ?_) (fun C6 => ?_)
     ·
      replace H := ifT C6 H
      refine AWP_sr tok [] [2] (fun a σ => a = [(2, .bool (ieq y12 1))] ∧ σ = hp E0 [(o2, some ⟨40, 5, [[.int .i64 y13.Op, .int .i64 y13.Dst, .int .i64 y13.A, .int .i64 y13.B, .int .i64 y13.N]]⟩)] (M2 + 6)) (fun K hK => ?_) ?_
      ·
       skip
       simp -dsimp -implicitDefEqProofs (maxDischargeDepth := 6)
       exact hK _ _ ⟨rfl, rfl⟩
      rintro a σ ⟨rfl, rfl⟩
      replace H := Option.some.inj H; subst H
      refine AWP_kp [2] [(2, .bool (ieq y12 1))] rfl ?_
      refine AWP_ret ?_
      exact ⟨[.bool (ieq y12 1)], by simp, 4, by simp [encL_nil]⟩
     ·
      replace H := ifF C6 H
      refine AWP_skip ?_
      show K7 _ _
      refine keepE (l := [10]) (x := [(10, .int .i64 y12)]) rfl fun a' ha => ?_
      refine hK7 _ _ ?_; rw [ha]
      refine Rc.mk ?_
      refine AWP_sr tok [] [2] (fun a σ => a = [(2, .bool (ieq y12 0))] ∧ σ = hp E0 [(o2, some ⟨40, 5, [[.int .i64 y13.Op, .int .i64 y13.Dst, .int .i64 y13.A, .int .i64 y13.B, .int .i64 y13.N]]⟩)] (M2 + 6)) (fun K hK => ?_) ?_
      ·
       skip
       simp -dsimp -implicitDefEqProofs (maxDischargeDepth := 6)
       exact hK _ _ ⟨rfl, rfl⟩
      rintro a σ ⟨rfl, rfl⟩
      replace H := Option.some.inj H; subst H
      refine AWP_kp [2] [(2, .bool (ieq y12 0))] rfl ?_
      refine AWP_ret ?_
      exact ⟨[.bool (ieq y12 0)], by simp, 4, by simp [encL_nil]⟩
    ·
     obtain ⟨rfl, hx2⟩ := hx
     dsimp only at H
     replace H := Option.some.inj H; subst H; exact hx2
theorem c7 {p0 : (List Int)} {r : Bool} (H : l_FnQuadInstrsOff p0 = some r) : APure Tryd.prog G 7 [.fsl (encL rI_u8 p0)] (.bool r) := by
 refine APure_fn (fun N0 => ?_) (by simp)
 refine ACalls_fn tok Tryd.func7 (by kernel_rfl) rfl Tryd.ntmps7 Tryd.results7 rfl ?_
 simp only [argsA, Nat.reduceAdd, hp_next]
 unfold l_FnQuadInstrsOff at H
 refine AWP_sr tok [] [0] (fun a σ => a = [(0, .fsl (encL rI_u8 p0))] ∧ σ = hp E0 [] (N0 + 1)) (fun K hK => ?_) ?_
 ·
  skip
  simp -dsimp -implicitDefEqProofs (maxDischargeDepth := 6)
  exact hK _ _ ⟨rfl, rfl⟩
 rintro a σ ⟨rfl, rfl⟩
 refine AWP_sq [0] fun K1 hK1 => ?_
 refine AWP_sr tok [] [0, 15] (fun a σ => a = [(0, .fsl (encL rI_u8 p0)), (15, .bool (igt (ilen p0) 1048576))] ∧ σ = hp E0 [] (N0 + 4)) (fun K hK => ?_) ?_
 ·
  skip
  simp -dsimp -implicitDefEqProofs (maxDischargeDepth := 6)
  exact hK _ _ ⟨rfl, rfl⟩
 rintro a σ ⟨rfl, rfl⟩
 refine AWP_cond (igt (ilen p0) 1048576) rfl (fun C1 => ?_) (fun C1 => ?_)
 ·
  replace H := ifT C1 H
  refine AWP_sr tok [] [2] (fun a σ => a = [(2, .bool true)] ∧ σ = hp E0 [] (N0 + 5)) (fun K hK => ?_) ?_
  ·
   skip
   simp -dsimp -implicitDefEqProofs (maxDischargeDepth := 6)
   exact hK _ _ ⟨rfl, rfl⟩
  rintro a σ ⟨rfl, rfl⟩
  replace H := Option.some.inj H; subst H
  refine AWP_kp [2] [(2, .bool true)] rfl ?_
  refine AWP_ret ?_
  exact ⟨[.bool true], by simp, 4, by simp [encL_nil]⟩
 ·
  replace H := ifF C1 H
  refine AWP_skip ?_
  show K1 _ _
  refine keepE (l := [0]) (x := [(0, .fsl (encL rI_u8 p0))]) rfl fun a' ha => ?_
  refine hK1 _ _ ?_; rw [ha]
  refine Rc.mk ?_
  obtain ⟨r1, hr1, H⟩ := bindE H
  refine AWP_sr tok [] [3, 4, 5] (fun a σ => a = [(3, .ptr (N0 + 10) 0 0), (4, .int .i64 r1.2.1), (5, .int .i64 r1.2.2)] ∧ σ = hp E0 [(N0 + 10, some ⟨40, 5, [[.int .i64 r1.1.Op, .int .i64 r1.1.Dst, .int .i64 r1.1.A, .int .i64 r1.1.B, .int .i64 r1.1.N]]⟩)] (N0 + 14)) (fun K hK => ?_) ?_
  ·
   skip
   simp -dsimp -implicitDefEqProofs (maxDischargeDepth := 6)
   refine (c27 hr1).app ?_; try simp -dsimp -implicitDefEqProofs (maxDischargeDepth := 6)
   exact hK _ _ ⟨rfl, rfl⟩
  rintro a σ ⟨rfl, rfl⟩
  obtain ⟨r2, hr2, H⟩ := bindE H
  refine AWP_sr tok [] [3, 4, 5, 6, 7] (fun a σ => a = [(3, .ptr (N0 + 10) 0 0), (4, .int .i64 r1.2.1), (5, .int .i64 r1.2.2), (6, .fsl (encL rInstr r2.1)), (7, .bool r2.2)] ∧ σ = hp E0 [(N0 + 10, some ⟨40, 5, [[.int .i64 r1.1.Op, .int .i64 r1.1.Dst, .int .i64 r1.1.A, .int .i64 r1.1.B, .int .i64 r1.1.N]]⟩)] (N0 + 23)) (fun K hK => ?_) ?_
  ·
   skip
   simp -dsimp -implicitDefEqProofs (maxDischargeDepth := 6)
   refine (c25 hr2).app ?_; try simp -dsimp -implicitDefEqProofs (maxDischargeDepth := 6)
   exact hK _ _ ⟨rfl, rfl⟩
  rintro a σ ⟨rfl, rfl⟩
  obtain ⟨r3, hr3, H⟩ := bindE H
  refine AWP_sr tok [] [3, 4, 5, 6, 7, 8, 9] (fun a σ => a = [(3, .ptr (N0 + 10) 0 0), (4, .int .i64 r1.2.1), (5, .int .i64 r1.2.2), (6, .fsl (encL rInstr r2.1)), (7, .bool r2.2), (8, .fsl (encL rInstr r3.1)), (9, .bool r3.2)] ∧ σ = hp E0 [(N0 + 10, some ⟨40, 5, [[.int .i64 r1.1.Op, .int .i64 r1.1.Dst, .int .i64 r1.1.A, .int .i64 r1.1.B, .int .i64 r1.1.N]]⟩)] (N0 + 32)) (fun K hK => ?_) ?_
  ·
   skip
   simp -dsimp -implicitDefEqProofs (maxDischargeDepth := 6)
   refine (c23 hr3).app ?_; try simp -dsimp -implicitDefEqProofs (maxDischargeDepth := 6)
   exact hK _ _ ⟨rfl, rfl⟩
  rintro a σ ⟨rfl, rfl⟩
  refine AWP_sq [3, 4, 5, 6] fun K2 hK2 => ?_
  obtain ⟨g5, hg5, H⟩ := bindE H
  obtain ⟨g6, hg6, H⟩ := bindE H
  refine AWP_sr tok [] [3, 4, 5, 6, 7, 8, 9, 48] (fun a σ => a = [(3, .ptr (N0 + 10) 0 0), (4, .int .i64 r1.2.1), (5, .int .i64 r1.2.2), (6, .fsl (encL rInstr r2.1)), (7, .bool r2.2), (8, .fsl (encL rInstr r3.1)), (9, .bool r3.2), (48, .bool g6)] ∧ σ = hp E0 [(N0 + 10, some ⟨40, 5, [[.int .i64 r1.1.Op, .int .i64 r1.1.Dst, .int .i64 r1.1.A, .int .i64 r1.1.B, .int .i64 r1.1.N]]⟩)] (N0 + 45)) (fun K hK => ?_) ?_
  ·
   skip
   simp -dsimp -implicitDefEqProofs (maxDischargeDepth := 6)
   cases hbg5 : bneb r2.2 r3.2
   ·
    replace hg5 := ifF hbg5 hg5
    obtain ⟨r4, hr4, hg5⟩ := bindE hg5
    replace hg5 := Option.some.inj hg5; subst hg5
    try simp -dsimp -implicitDefEqProofs (maxDischargeDepth := 6) [hbg5]
    refine (c28 hr4).app ?_; try simp -dsimp -implicitDefEqProofs (maxDischargeDepth := 6) [hbg5]
    cases hbg6 : (bnot r4)
    ·
     replace hg6 := ifF hbg6 hg6
     replace hg6 := Option.some.inj hg6; subst hg6
     try simp -dsimp -implicitDefEqProofs (maxDischargeDepth := 6) [hbg5, hbg6]
     exact hK _ _ ⟨rfl, rfl⟩
    ·
     replace hg6 := ifT hbg6 hg6
     replace hg6 := Option.some.inj hg6; subst hg6
     try simp -dsimp -implicitDefEqProofs (maxDischargeDepth := 6) [hbg5, hbg6]
     exact hK _ _ ⟨rfl, rfl⟩
   ·
    replace hg5 := ifT hbg5 hg5
    replace hg5 := Option.some.inj hg5; subst hg5
    try simp -dsimp -implicitDefEqProofs (maxDischargeDepth := 6) [hbg5]
    replace hg6 := ifT rfl hg6
    replace hg6 := Option.some.inj hg6; subst hg6
    try simp -dsimp -implicitDefEqProofs (maxDischargeDepth := 6) [hbg5]
    exact hK _ _ ⟨rfl, rfl⟩
  rintro a σ ⟨rfl, rfl⟩
  refine AWP_cond g6 rfl (fun C2 => ?_) (fun C2 => ?_)
  ·
   replace H := ifT C2 H
   obtain ⟨g8, hg8, H⟩ := bindE H
   refine AWP_sr tok [] [2] (fun a σ => a = [(2, .bool g8)] ∧ σ = hp E0 [(N0 + 10, some ⟨40, 5, [[.int .i64 r1.1.Op, .int .i64 r1.1.Dst, .int .i64 r1.1.A, .int .i64 r1.1.B, .int .i64 r1.1.N]]⟩)] (N0 + 54)) (fun K hK => ?_) ?_
   ·
    skip
    simp -dsimp -implicitDefEqProofs (maxDischargeDepth := 6)
    cases hbg8 : beqb r2.2 r3.2
    ·
     replace hg8 := ifF hbg8 hg8
     replace hg8 := Option.some.inj hg8; subst hg8
     try simp -dsimp -implicitDefEqProofs (maxDischargeDepth := 6) [hbg8]
     exact hK _ _ ⟨rfl, rfl⟩
    ·
     replace hg8 := ifT hbg8 hg8
     obtain ⟨r7, hr7, hg8⟩ := bindE hg8
     replace hg8 := Option.some.inj hg8; subst hg8
     try simp -dsimp -implicitDefEqProofs (maxDischargeDepth := 6) [hbg8]
     refine (c28 hr7).app ?_; try simp -dsimp -implicitDefEqProofs (maxDischargeDepth := 6) [hbg8]
     exact hK _ _ ⟨rfl, rfl⟩
   rintro a σ ⟨rfl, rfl⟩
   replace H := Option.some.inj H; subst H
   refine AWP_kp [2] [(2, .bool g8)] rfl ?_
   refine AWP_ret ?_
   exact ⟨[.bool g8], by simp, 4, by simp [encL_nil]⟩
  ·
   replace H := ifF C2 H
   refine AWP_skip ?_
   show K2 _ _
   refine keepE (l := [3, 4, 5, 6]) (x := [(3, .ptr (N0 + 10) 0 0), (4, .int .i64 r1.2.1), (5, .int .i64 r1.2.2), (6, .fsl (encL rInstr r2.1))]) rfl fun a' ha => ?_
   refine hK2 _ _ ?_; rw [ha]
   refine Rc.mk ?_
   obtain ⟨r9, hr9, H⟩ := bindE H
   refine AWP_sr tok [] [3, 5, 6, 10, 11] (fun a σ => ∃ M1 o1 : Nat, N0 + 53 ≤ M1 ∧ N0 + 53 ≤ o1 ∧ o1 < M1 ∧ a = [(3, .ptr (N0 + 10) 0 0), (5, .int .i64 r1.2.2), (6, .fsl (encL rInstr r2.1)), (10, .sl o1 0 r9.1.length), (11, .bool r9.2)] ∧ σ = hp E0 [(N0 + 10, some ⟨40, 5, [[.int .i64 r1.1.Op, .int .i64 r1.1.Dst, .int .i64 r1.1.A, .int .i64 r1.1.B, .int .i64 r1.1.N]]⟩), (o1, some ⟨47, 5, encL rInstr r9.1⟩)] M1) (fun K hK => ?_) ?_
   ·
    skip
    simp -dsimp -implicitDefEqProofs (maxDischargeDepth := 6)
    refine (c25_o (H := hr9) ).mono ?_; rintro _ _ ⟨M1, o1, fM1_0, fM1_1, fM1_2, rfl, rfl⟩; simp only [hp_next] at fM1_0 fM1_1 fM1_2
    have eM1_0 : ¬ o1 = N0 + 10 := by omega
    have eM1_1 : ¬ N0 + 10 = o1 := by omega
    try simp -dsimp -implicitDefEqProofs (maxDischargeDepth := 6) [eM1_0, eM1_1, hp_over_some, hp_over_none]
    exact hK _ _ ⟨M1, o1, (by omega), (by omega), (by omega), rfl, rfl⟩
   rintro a σ ⟨M1, o1, fM1_0, fM1_1, fM1_2, rfl, rfl⟩
   refine AWP_sq [5, 6, 10] fun K3 hK3 => ?_
   obtain ⟨g11, hg11, H⟩ := bindE H
   refine AWP_sr tok [] [5, 6, 10, 11, 74] (fun a σ => a = [(5, .int .i64 r1.2.2), (6, .fsl (encL rInstr r2.1)), (10, .sl o1 0 r9.1.length), (11, .bool r9.2), (74, .bool g11)] ∧ σ = hp E0 [(N0 + 10, some ⟨40, 5, [[.int .i64 r1.1.Op, .int .i64 r1.1.Dst, .int .i64 r1.1.A, .int .i64 r1.1.B, .int .i64 r1.1.N]]⟩), (o1, some ⟨47, 5, encL rInstr r9.1⟩)] (M1 + 12)) (fun K hK => ?_) ?_
   ·
    skip
    have e0 : ¬ N0 + 10 = o1 := by omega
    have e1 : ¬ o1 = N0 + 10 := by omega
    simp -dsimp -implicitDefEqProofs (maxDischargeDepth := 6) [e0, e1]
    cases hbg11 : bnot r9.2
    ·
     replace hg11 := ifF hbg11 hg11
     obtain ⟨g10, hg10, hg11⟩ := bindE hg11
     replace hg11 := Option.some.inj hg11; subst hg11
     try simp -dsimp -implicitDefEqProofs (maxDischargeDepth := 6) [e0, e1, hbg11]
     cases hbg10 : ine r1.1.Op 4
     ·
      replace hg10 := ifF hbg10 hg10
      replace hg10 := Option.some.inj hg10; subst hg10
      try simp -dsimp -implicitDefEqProofs (maxDischargeDepth := 6) [e0, e1, hbg11, hbg10]
      exact hK _ _ ⟨rfl, rfl⟩
     ·
      replace hg10 := ifT hbg10 hg10
      replace hg10 := Option.some.inj hg10; subst hg10
      try simp -dsimp -implicitDefEqProofs (maxDischargeDepth := 6) [e0, e1, hbg11, hbg10]
      exact hK _ _ ⟨rfl, rfl⟩
    ·
     replace hg11 := ifT hbg11 hg11
     replace hg11 := Option.some.inj hg11; subst hg11
     try simp -dsimp -implicitDefEqProofs (maxDischargeDepth := 6) [e0, e1, hbg11]
     exact hK _ _ ⟨rfl, rfl⟩
   rintro a σ ⟨rfl, rfl⟩
   refine AWP_cond g11 rfl (fun C3 => ?_) (fun C3 => ?_)
   ·
    replace H := ifT C3 H
    obtain ⟨g13, hg13, H⟩ := bindE H
    refine AWP_sr tok [] [2] (fun a σ => a = [(2, .bool g13)] ∧ σ = hp E0 [(N0 + 10, some ⟨40, 5, [[.int .i64 r1.1.Op, .int .i64 r1.1.Dst, .int .i64 r1.1.A, .int .i64 r1.1.B, .int .i64 r1.1.N]]⟩), (o1, some ⟨47, 5, encL rInstr r9.1⟩)] (M1 + 19)) (fun K hK => ?_) ?_
    ·
     skip
     have e0 : ¬ N0 + 10 = o1 := by omega
     have e1 : ¬ o1 = N0 + 10 := by omega
     simp -dsimp -implicitDefEqProofs (maxDischargeDepth := 6) [e0, e1]
     cases hbg13 : r9.2
     ·
      replace hg13 := ifF hbg13 hg13
      replace hg13 := Option.some.inj hg13; subst hg13
      try simp -dsimp -implicitDefEqProofs (maxDischargeDepth := 6) [e0, e1, hbg13]
      exact hK _ _ ⟨rfl, rfl⟩
     ·
      replace hg13 := ifT hbg13 hg13
      obtain ⟨r12, hr12, hg13⟩ := bindE hg13
      replace hg13 := Option.some.inj hg13; subst hg13
      try simp -dsimp -implicitDefEqProofs (maxDischargeDepth := 6) [e0, e1, hbg13]
      refine (borrow 4 (c28 hr12) (by simp [e0, e1, hbg13]) rfl).mono ?_; rintro _ _ ⟨rfl, rfl⟩; try simp -dsimp -implicitDefEqProofs (maxDischargeDepth := 6) [e0, e1, hbg13]
      exact hK _ _ ⟨rfl, rfl⟩
    rintro a σ ⟨rfl, rfl⟩
    replace H := Option.some.inj H; subst H
    refine AWP_kp [2] [(2, .bool g13)] rfl ?_
    have z0 : ¬ N0 + 10 = o1 := by omega
    have z1 : ¬ o1 = N0 + 10 := by omega
    refine AWP_ret ?_
    exact ⟨[.bool g13], by simp [z0, z1], 4, by simp [encL_nil, z0, z1]⟩
   ·
    replace H := ifF C3 H
    refine AWP_skip ?_
    show K3 _ _
    refine keepE (l := [5, 6, 10]) (x := [(5, .int .i64 r1.2.2), (6, .fsl (encL rInstr r2.1)), (10, .sl o1 0 r9.1.length)]) rfl fun a' ha => ?_
    refine hK3 _ _ ?_; rw [ha]
    refine Rc.mk ?_
    refine AWP_sr tok [] [5, 6, 10, 12] (fun a σ => a = [(5, .int .i64 r1.2.2), (6, .fsl (encL rInstr r2.1)), (10, .sl o1 0 r9.1.length), (12, .int .i64 (isub .i64 (ilen r2.1) 1))] ∧ σ = hp E0 [(N0 + 10, some ⟨40, 5, [[.int .i64 r1.1.Op, .int .i64 r1.1.Dst, .int .i64 r1.1.A, .int .i64 r1.1.B, .int .i64 r1.1.N]]⟩), (o1, some ⟨47, 5, encL rInstr r9.1⟩)] (M1 + 16)) (fun K hK => ?_) ?_
    ·
     skip
     have e0 : ¬ N0 + 10 = o1 := by omega
     have e1 : ¬ o1 = N0 + 10 := by omega
     simp -dsimp -implicitDefEqProofs (maxDischargeDepth := 6) [e0, e1]
     exact hK _ _ ⟨rfl, rfl⟩
    rintro a σ ⟨rfl, rfl⟩
    obtain ⟨v14, hv14, H⟩ := bindE H
    obtain ⟨l15, hl15, H⟩ := bindE H
    refine AWP_sr tok [] [6, 10, 12] (fun a σ => a = [(6, .fsl (encL rInstr r2.1)), (10, .sl o1 0 r9.1.length), (12, .int .i64 (isub .i64 (ilen r2.1) 1))] ∧ σ = hp E0 [(N0 + 10, some ⟨40, 5, [[.int .i64 r1.1.Op, .int .i64 r1.1.Dst, .int .i64 r1.1.A, .int .i64 r1.1.B, .int .i64 r1.1.N]]⟩), (o1, some ⟨47, 5, encL rInstr l15⟩)] (M1 + 28)) (fun K hK => ?_) ?_
    ·
     skip
     have e0 : ¬ N0 + 10 = o1 := by omega
     have e1 : ¬ o1 = N0 + 10 := by omega
     simp -dsimp -implicitDefEqProofs (maxDischargeDepth := 6) [e0, e1, ixo29 hv14, (idx_lt3 hv14).2.2, ixo29 hv14, (idx_lt3 hv14).2.2, (setx_iff.1 hl15).2.symm]
     exact hK _ _ ⟨rfl, rfl⟩
    rintro a σ ⟨rfl, rfl⟩
    try rw [← setx_len hl15]
    obtain ⟨g17, hg17, H⟩ := bindE H
    obtain ⟨g19, hg19, H⟩ := bindE H
    refine AWP_sr tok [] [2] (fun a σ => a = [(2, .bool g19)] ∧ σ = hp E0 [(N0 + 10, some ⟨40, 5, [[.int .i64 r1.1.Op, .int .i64 r1.1.Dst, .int .i64 r1.1.A, .int .i64 r1.1.B, .int .i64 r1.1.N]]⟩), (o1, some ⟨47, 5, encL rInstr l15⟩)] (M1 + 47)) (fun K hK => ?_) ?_
    ·
     skip
     have e0 : ¬ N0 + 10 = o1 := by omega
     have e1 : ¬ o1 = N0 + 10 := by omega
     simp -dsimp -implicitDefEqProofs (maxDischargeDepth := 6) [e0, e1]
     cases hbg17 : ieq (ilen l15) (ilen r2.1)
     ·
      replace hg17 := ifF hbg17 hg17
      replace hg17 := Option.some.inj hg17; subst hg17
      try simp -dsimp -implicitDefEqProofs (maxDischargeDepth := 6) [e0, e1, hbg17]
      replace hg19 := ifF rfl hg19
      replace hg19 := Option.some.inj hg19; subst hg19
      try simp -dsimp -implicitDefEqProofs (maxDischargeDepth := 6) [e0, e1, hbg17]
      exact hK _ _ ⟨rfl, rfl⟩
     ·
      replace hg17 := ifT hbg17 hg17
      obtain ⟨v16, hv16, hg17⟩ := bindE hg17
      replace hg17 := Option.some.inj hg17; subst hg17
      try simp -dsimp -implicitDefEqProofs (maxDischargeDepth := 6) [e0, e1, hbg17, ix29 hv16]
      cases hbg19 : (ieq v16.Op 20)
      ·
       replace hg19 := ifF hbg19 hg19
       replace hg19 := Option.some.inj hg19; subst hg19
       try simp -dsimp -implicitDefEqProofs (maxDischargeDepth := 6) [e0, e1, hbg17, ix29 hv16, hbg19]
       exact hK _ _ ⟨rfl, rfl⟩
      ·
       replace hg19 := ifT hbg19 hg19
       obtain ⟨r18, hr18, hg19⟩ := bindE hg19
       replace hg19 := Option.some.inj hg19; subst hg19
       try simp -dsimp -implicitDefEqProofs (maxDischargeDepth := 6) [e0, e1, hbg17, ix29 hv16, hbg19]
       refine (borrow 4 (c28 hr18) (by simp [e0, e1, hbg17, ix29 hv16, hbg19]) rfl).mono ?_; rintro _ _ ⟨rfl, rfl⟩; try simp -dsimp -implicitDefEqProofs (maxDischargeDepth := 6) [e0, e1, hbg17, ix29 hv16, hbg19]
       exact hK _ _ ⟨rfl, rfl⟩
    rintro a σ ⟨rfl, rfl⟩
    replace H := Option.some.inj H; subst H
    refine AWP_kp [2] [(2, .bool g19)] rfl ?_
    have z2 : ¬ N0 + 10 = o1 := by omega
    have z3 : ¬ o1 = N0 + 10 := by omega
    refine AWP_ret ?_
    exact ⟨[.bool g19], by simp [z2, z3], 4, by simp [encL_nil, z2, z3]⟩
end Go.Proofs.YtoklfbdcghgmlaaDoor
