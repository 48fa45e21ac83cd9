/- The contracts of functions of the program, part 4: each computes what its mirror computes. No conditions. -/
import Derived.Test.YtoklfbdcghgmlaaDoorNDT3
set_option linter.unusedSimpArgs false
set_option linter.unusedVariables false
set_option maxRecDepth 20000
set_option maxHeartbeats 4000000
namespace Go.Proofs.YtoklfbdcghgmlaaDoor
open Go Go.Abs Go.RowKit

theorem c70 {p0 : gL6Rd} {r : gQuad × gL6Rd} (H : s_l93Wrong p0 = some r) {σ : AHeap} {w0 : Nat} {W0 : List (List AV)} {r0_ : Nat} (q0 : σ.objs w0 = some ⟨138, 2, W0⟩) (g0 : W0[r0_]? = some [.fsl (encL rI_u8 p0.b), .int .i64 p0.p]) : ACalls Tryd.prog G 70 [.ptr w0 r0_ 0] σ (fun v σ' => ∃ M : Nat, σ.next ≤ M ∧ v = .agg [.int .i64 r.1.Op, .int .i64 r.1.Dst, .int .i64 r.1.A, .int .i64 r.1.B, .int .i64 r.1.N] ∧ σ' = hp σ.objs [(w0, some ⟨138, 2, W0.set r0_ [.fsl (encL rI_u8 r.2.b), .int .i64 r.2.p]⟩)] M) := by
 refine ACalls_fr (L := [(w0, some ⟨138, 2, W0⟩)]) (Q1 := fun v σ' => ∃ M : Nat, σ.next ≤ M ∧ v = .agg [.int .i64 r.1.Op, .int .i64 r.1.Dst, .int .i64 r.1.A, .int .i64 r.1.B, .int .i64 r.1.N] ∧ σ' = hp E0 [(w0, some ⟨138, 2, W0.set r0_ [.fsl (encL rI_u8 r.2.b), .int .i64 r.2.p]⟩)] M) (by simp [q0]) (fun hlt => ?_) ?_ ⟨_, Tryd.func70, rfl, rfl⟩
 rotate_left
 ·
  rintro v σ1 ⟨M, h0, rfl, rfl⟩
  exact ⟨_, M, rfl, by simp, by simp; try omega, M, h0, rfl, rfl⟩
 generalize σ.next = N0 at hlt ⊢
 have lw0 : w0 < N0 := hlt _ (.head _) rfl
 have gs_W0 : ∀ x, (W0.set r0_ x)[r0_]? = some x := gsetW g0
 rw [show W0 = W0.set r0_ [.fsl (encL rI_u8 p0.b), .int .i64 p0.p] from (set_same g0).symm]
 refine ACalls_thaw 1 ?_
 refine ACalls_fn tok Tryd.func70 (by kernel_rfl) rfl Tryd.ntmps70 Tryd.results70 rfl ?_
 simp only [argsA, Nat.reduceAdd, hp_next]
 unfold s_l93Wrong at H
 refine AWP_sr tok [] [0, 2] (fun a σ => a = [(0, .ptr w0 r0_ 0), (2, .ptr N0 0 0)] ∧ σ = hp E0 [(w0, some ⟨138, 2, W0.set r0_ [.fsl (encL rI_u8 p0.b), .int .i64 p0.p]⟩), (N0, some ⟨40, 5, [[.int .i64 0, .int .i64 0, .int .i64 0, .int .i64 0, .int .i64 0]]⟩)] (N0 + 1)) (fun K hK => ?_) ?_
 ·
  skip
  have e0 : ¬ w0 = N0 := by omega
  have e1 : ¬ N0 = w0 := by omega
  simp -dsimp -implicitDefEqProofs (maxDischargeDepth := 6) [e0, e1, gs_W0, List.set_set]
  exact hK _ _ ⟨rfl, rfl⟩
 rintro a σ ⟨rfl, rfl⟩
 obtain ⟨r1, hr1, H⟩ := bindE H
 refine AWP_sr tok [] [0, 2, 3] (fun a σ => ∃ M1 : Nat, N0 + 5 ≤ M1 ∧ a = [(0, .ptr w0 r0_ 0), (2, .ptr N0 0 0), (3, .ptr (N0 + 3) 0 0)] ∧ σ = hp E0 [(w0, some ⟨138, 2, W0.set r0_ [.fsl (encL rI_u8 r1.2.b), .int .i64 r1.2.p]⟩), (N0, some ⟨40, 5, [[.int .i64 0, .int .i64 0, .int .i64 0, .int .i64 0, .int .i64 0]]⟩), (N0 + 3, some ⟨40, 5, [[.int .i64 r1.1.Op, .int .i64 r1.1.Dst, .int .i64 r1.1.A, .int .i64 r1.1.B, .int .i64 r1.1.N]]⟩)] M1) (fun K hK => ?_) ?_
 ·
  skip
  have e0 : ¬ w0 = N0 := by omega
  have e1 : ¬ N0 = w0 := by omega
  have e2 : ¬ w0 = N0 + 3 := by omega
  have e3 : ¬ N0 + 3 = w0 := by omega
  simp -dsimp -implicitDefEqProofs (maxDischargeDepth := 6) [e0, e1, e2, e3, gs_W0, List.set_set]
  refine (c125 (W0 := W0.set r0_ [.fsl (encL rI_u8 p0.b), .int .i64 p0.p]) (r0_ := r0_) (H := hr1) (by simp [e0, e1, e2, e3, gs_W0, List.set_set]) (by simp [e0, e1, e2, e3, gs_W0, List.set_set])).mono ?_; rintro _ _ ⟨M1, fM1_0, rfl, rfl⟩; simp only [hp_next] at fM1_0
  try simp -dsimp -implicitDefEqProofs (maxDischargeDepth := 6) [e0, e1, e2, e3, gs_W0, List.set_set, hp_over_some, hp_over_none]
  exact hK _ _ ⟨M1, (by omega), rfl, rfl⟩
 rintro a σ ⟨M1, fM1_0, rfl, rfl⟩
 obtain ⟨j1, hj1, H⟩ := bindE H
 refine AWP_seq (AWP_named fun K2 hK2 => ?_)
 have hJ1 : ∀ a σ, Rc G 30 N0 (fun a σ => ∃ M2 : Nat, N0 ≤ M2 ∧ N0 < M2 ∧ N0 + 3 < M2 ∧ a = [(0, .ptr w0 r0_ 0), (2, .ptr N0 0 0), (3, .ptr (N0 + 3) 0 0)] ∧ σ = hp E0 [(w0, some ⟨138, 2, W0.set r0_ [.fsl (encL rI_u8 j1.1.b), .int .i64 j1.1.p]⟩), (N0, some ⟨40, 5, [[.int .i64 0, .int .i64 0, .int .i64 0, .int .i64 0, .int .i64 0]]⟩), (N0 + 3, some ⟨40, 5, [[.int .i64 j1.2.Op, .int .i64 j1.2.Dst, .int .i64 j1.2.A, .int .i64 j1.2.B, .int .i64 j1.2.N]]⟩)] M2) (a.keep [0, 2, 3]) σ → K2 a σ := by
  rintro a σ ⟨b, τ, hr, M2, fM2_0, fM2_1, fM2_2, rfl, rfl⟩
  refine hK2 _ _ (AWP_keep [0, 2, 3] (AWP_ref hr ?_))
  refine AWP_sq [2, 3] fun K1 hK1 => ?_
  obtain ⟨r4, hr4, H⟩ := bindE H
  refine AWP_sr tok [] [0, 2, 3, 11] (fun a σ => ∃ M3 : Nat, M2 + 2 ≤ M3 ∧ a = [(0, .ptr w0 r0_ 0), (2, .ptr N0 0 0), (3, .ptr (N0 + 3) 0 0), (11, .int .i64 r4.1)] ∧ σ = hp E0 [(w0, some ⟨138, 2, W0.set r0_ [.fsl (encL rI_u8 r4.2.b), .int .i64 r4.2.p]⟩), (N0, some ⟨40, 5, [[.int .i64 0, .int .i64 0, .int .i64 0, .int .i64 0, .int .i64 0]]⟩), (N0 + 3, some ⟨40, 5, [[.int .i64 j1.2.Op, .int .i64 j1.2.Dst, .int .i64 j1.2.A, .int .i64 j1.2.B, .int .i64 j1.2.N]]⟩)] M3) (fun K hK => ?_) ?_
  ·
   skip
   have e0 : ¬ w0 = N0 := by omega
   have e1 : ¬ N0 = w0 := by omega
   have e2 : ¬ w0 = N0 + 3 := by omega
   have e3 : ¬ N0 + 3 = w0 := by omega
   simp -dsimp -implicitDefEqProofs (maxDischargeDepth := 6) [e0, e1, e2, e3, gs_W0, List.set_set]
   refine (c71 (W0 := W0.set r0_ [.fsl (encL rI_u8 j1.1.b), .int .i64 j1.1.p]) (r0_ := r0_) (H := hr4) (by simp [e0, e1, e2, e3, gs_W0, List.set_set]) (by simp [e0, e1, e2, e3, gs_W0, List.set_set])).mono ?_; rintro _ _ ⟨M3, fM3_0, rfl, rfl⟩; simp only [hp_next] at fM3_0
   try simp -dsimp -implicitDefEqProofs (maxDischargeDepth := 6) [e0, e1, e2, e3, gs_W0, List.set_set, hp_over_some, hp_over_none]
   exact hK _ _ ⟨M3, (by omega), rfl, rfl⟩
  rintro a σ ⟨M3, fM3_0, rfl, rfl⟩
  refine AWP_block (AWP_thenB ?_)
  refine AWP_sr tok [] [0, 2, 3, 11, 12] (fun a σ => a = [(0, .ptr w0 r0_ 0), (2, .ptr N0 0 0), (3, .ptr (N0 + 3) 0 0), (11, .int .i64 r4.1), (12, .bool (ieq r4.1 0))] ∧ σ = hp E0 [(w0, some ⟨138, 2, W0.set r0_ [.fsl (encL rI_u8 r4.2.b), .int .i64 r4.2.p]⟩), (N0, some ⟨40, 5, [[.int .i64 0, .int .i64 0, .int .i64 0, .int .i64 0, .int .i64 0]]⟩), (N0 + 3, some ⟨40, 5, [[.int .i64 j1.2.Op, .int .i64 j1.2.Dst, .int .i64 j1.2.A, .int .i64 j1.2.B, .int .i64 j1.2.N]]⟩)] (M3 + 2)) (fun K hK => ?_) ?_
  ·
   skip
   have e0 : ¬ w0 = N0 := by omega
   have e1 : ¬ N0 = w0 := by omega
   have e2 : ¬ w0 = N0 + 3 := by omega
   have e3 : ¬ N0 + 3 = w0 := by omega
   simp -dsimp -implicitDefEqProofs (maxDischargeDepth := 6) [e0, e1, e2, e3, gs_W0, List.set_set]
   exact hK _ _ ⟨rfl, rfl⟩
  rintro a σ ⟨rfl, rfl⟩
  refine AWP_cond (ieq r4.1 0) rfl (fun C1 => ?_) (fun C1 => ?_)
  ·
   replace H := ifT C1 H
   refine AWP_rt tok [] [2, 3] (fun a σ => a = [(2, .ptr N0 0 0), (3, .ptr (N0 + 3) 0 0)] ∧ σ = hp E0 [(w0, some ⟨138, 2, W0.set r0_ [.fsl (encL rI_u8 r4.2.b), .int .i64 r4.2.p]⟩), (N0, some ⟨40, 5, [[.int .i64 0, .int .i64 0, .int .i64 0, .int .i64 0, .int .i64 0]]⟩), (N0 + 3, some ⟨40, 5, [[.int .i64 j1.2.Op, .int .i64 j1.2.Dst, .int .i64 12, .int .i64 j1.2.B, .int .i64 j1.2.N]]⟩)] (M3 + 4)) (fun K hK => ?_) ?_
   ·
    skip
    have e0 : ¬ w0 = N0 := by omega
    have e1 : ¬ N0 = w0 := by omega
    have e2 : ¬ w0 = N0 + 3 := by omega
    have e3 : ¬ N0 + 3 = w0 := by omega
    simp -dsimp -implicitDefEqProofs (maxDischargeDepth := 6) [e0, e1, e2, e3, gs_W0, List.set_set]
    exact hK _ _ ⟨rfl, rfl⟩
   rintro a σ ⟨ha, rfl⟩
   refine hK1 _ _ ?_; rw [ha]
   refine Rc.mk ?_
   refine AWP_sr tok [] [2] (fun a σ => a = [(2, .ptr N0 0 0)] ∧ σ = hp E0 [(w0, some ⟨138, 2, W0.set r0_ [.fsl (encL rI_u8 r4.2.b), .int .i64 r4.2.p]⟩), (N0, some ⟨40, 5, [[.int .i64 j1.2.Op, .int .i64 j1.2.Dst, .int .i64 12, .int .i64 j1.2.B, .int .i64 j1.2.N]]⟩), (N0 + 3, some ⟨40, 5, [[.int .i64 j1.2.Op, .int .i64 j1.2.Dst, .int .i64 12, .int .i64 j1.2.B, .int .i64 j1.2.N]]⟩)] (M3 + 6)) (fun K hK => ?_) ?_
   ·
    skip
    have e0 : ¬ w0 = N0 := by omega
    have e1 : ¬ N0 = w0 := by omega
    have e2 : ¬ w0 = N0 + 3 := by omega
    have e3 : ¬ N0 + 3 = w0 := by omega
    simp -dsimp -implicitDefEqProofs (maxDischargeDepth := 6) [e0, e1, e2, e3, gs_W0, List.set_set]
    exact hK _ _ ⟨rfl, rfl⟩
   rintro a σ ⟨rfl, rfl⟩
   replace H := Option.some.inj H; subst H
   refine AWP_kp [2] [(2, .ptr N0 0 0)] rfl ?_
   have z0 : ¬ w0 = N0 := by omega
   have z1 : ¬ N0 = w0 := by omega
   have z2 : ¬ w0 = N0 + 3 := by omega
   have z3 : ¬ N0 + 3 = w0 := by omega
   refine gDrop AWP_ref [(w0, some ⟨138, 2, W0.set r0_ [.fsl (encL rI_u8 r4.2.b), .int .i64 r4.2.p]⟩), (N0, some ⟨40, 5, [[.int .i64 j1.2.Op, .int .i64 j1.2.Dst, .int .i64 12, .int .i64 j1.2.B, .int .i64 j1.2.N]]⟩)] (hp_skip (hp_skip (AHeap.Sub.trans (AHeap.Sub.refl _) (hp_drop rfl (by simp; try omega))))) ?_
   refine AWP_ret ?_
   refine ⟨[.agg [.int .i64 j1.2.Op, .int .i64 j1.2.Dst, .int .i64 12, .int .i64 j1.2.B, .int .i64 j1.2.N]], by simp [z0, z1, z2, z3, gs_W0], (fun o => [N0].contains o), M3 + 6, by omega, ?_, ?_⟩
   ·
    simp [encL_nil, z0, z1, z2, z3, gs_W0]
   ·
    rw [cutD (L' := [(w0, some ⟨138, 2, W0.set r0_ [.fsl (encL rI_u8 r4.2.b), .int .i64 r4.2.p]⟩)]) (by simp [z0, z1, z2, z3, gs_W0])]
    first | done | rfl | simp [List.set_set]
  ·
   replace H := ifF C1 H
   refine AWP_sr tok [] [0, 2, 3, 11, 15] (fun a σ => a = [(0, .ptr w0 r0_ 0), (2, .ptr N0 0 0), (3, .ptr (N0 + 3) 0 0), (11, .int .i64 r4.1), (15, .bool (ieq r4.1 1))] ∧ σ = hp E0 [(w0, some ⟨138, 2, W0.set r0_ [.fsl (encL rI_u8 r4.2.b), .int .i64 r4.2.p]⟩), (N0, some ⟨40, 5, [[.int .i64 0, .int .i64 0, .int .i64 0, .int .i64 0, .int .i64 0]]⟩), (N0 + 3, some ⟨40, 5, [[.int .i64 j1.2.Op, .int .i64 j1.2.Dst, .int .i64 j1.2.A, .int .i64 j1.2.B, .int .i64 j1.2.N]]⟩)] (M3 + 4)) (fun K hK => ?_) ?_
   ·
    skip
    have e0 : ¬ w0 = N0 := by omega
    have e1 : ¬ N0 = w0 := by omega
    have e2 : ¬ w0 = N0 + 3 := by omega
    have e3 : ¬ N0 + 3 = w0 := by omega
    simp -dsimp -implicitDefEqProofs (maxDischargeDepth := 6) [e0, e1, e2, e3, gs_W0, List.set_set]
    exact hK _ _ ⟨rfl, rfl⟩
   rintro a σ ⟨rfl, rfl⟩
   refine AWP_cond (ieq r4.1 1) rfl (fun C2 => ?_) (fun C2 => ?_)
   ·
    replace H := ifT C2 H
    refine AWP_rt tok [] [2, 3] (fun a σ => a = [(2, .ptr N0 0 0), (3, .ptr (N0 + 3) 0 0)] ∧ σ = hp E0 [(w0, some ⟨138, 2, W0.set r0_ [.fsl (encL rI_u8 r4.2.b), .int .i64 r4.2.p]⟩), (N0, some ⟨40, 5, [[.int .i64 0, .int .i64 0, .int .i64 0, .int .i64 0, .int .i64 0]]⟩), (N0 + 3, some ⟨40, 5, [[.int .i64 j1.2.Op, .int .i64 j1.2.Dst, .int .i64 j1.2.A, .int .i64 1, .int .i64 j1.2.N]]⟩)] (M3 + 6)) (fun K hK => ?_) ?_
    ·
     skip
     have e0 : ¬ w0 = N0 := by omega
     have e1 : ¬ N0 = w0 := by omega
     have e2 : ¬ w0 = N0 + 3 := by omega
     have e3 : ¬ N0 + 3 = w0 := by omega
     simp -dsimp -implicitDefEqProofs (maxDischargeDepth := 6) [e0, e1, e2, e3, gs_W0, List.set_set]
     exact hK _ _ ⟨rfl, rfl⟩
    rintro a σ ⟨ha, rfl⟩
    refine hK1 _ _ ?_; rw [ha]
    refine Rc.mk ?_
    refine AWP_sr tok [] [2] (fun a σ => a = [(2, .ptr N0 0 0)] ∧ σ = hp E0 [(w0, some ⟨138, 2, W0.set r0_ [.fsl (encL rI_u8 r4.2.b), .int .i64 r4.2.p]⟩), (N0, some ⟨40, 5, [[.int .i64 j1.2.Op, .int .i64 j1.2.Dst, .int .i64 j1.2.A, .int .i64 1, .int .i64 j1.2.N]]⟩), (N0 + 3, some ⟨40, 5, [[.int .i64 j1.2.Op, .int .i64 j1.2.Dst, .int .i64 j1.2.A, .int .i64 1, .int .i64 j1.2.N]]⟩)] (M3 + 8)) (fun K hK => ?_) ?_
    ·
     skip
     have e0 : ¬ w0 = N0 := by omega
     have e1 : ¬ N0 = w0 := by omega
     have e2 : ¬ w0 = N0 + 3 := by omega
     have e3 : ¬ N0 + 3 = w0 := by omega
     simp -dsimp -implicitDefEqProofs (maxDischargeDepth := 6) [e0, e1, e2, e3, gs_W0, List.set_set]
     exact hK _ _ ⟨rfl, rfl⟩
    rintro a σ ⟨rfl, rfl⟩
    replace H := Option.some.inj H; subst H
    refine AWP_kp [2] [(2, .ptr N0 0 0)] rfl ?_
    have z4 : ¬ w0 = N0 := by omega
    have z5 : ¬ N0 = w0 := by omega
    have z6 : ¬ w0 = N0 + 3 := by omega
    have z7 : ¬ N0 + 3 = w0 := by omega
    refine gDrop AWP_ref [(w0, some ⟨138, 2, W0.set r0_ [.fsl (encL rI_u8 r4.2.b), .int .i64 r4.2.p]⟩), (N0, some ⟨40, 5, [[.int .i64 j1.2.Op, .int .i64 j1.2.Dst, .int .i64 j1.2.A, .int .i64 1, .int .i64 j1.2.N]]⟩)] (hp_skip (hp_skip (AHeap.Sub.trans (AHeap.Sub.refl _) (hp_drop rfl (by simp; try omega))))) ?_
    refine AWP_ret ?_
    refine ⟨[.agg [.int .i64 j1.2.Op, .int .i64 j1.2.Dst, .int .i64 j1.2.A, .int .i64 1, .int .i64 j1.2.N]], by simp [z4, z5, z6, z7, gs_W0], (fun o => [N0].contains o), M3 + 8, by omega, ?_, ?_⟩
    ·
     simp [encL_nil, z4, z5, z6, z7, gs_W0]
    ·
     rw [cutD (L' := [(w0, some ⟨138, 2, W0.set r0_ [.fsl (encL rI_u8 r4.2.b), .int .i64 r4.2.p]⟩)]) (by simp [z4, z5, z6, z7, gs_W0])]
     first | done | rfl | simp [List.set_set]
   ·
    replace H := ifF C2 H
    refine AWP_sr tok [] [0, 2, 3, 11, 18] (fun a σ => a = [(0, .ptr w0 r0_ 0), (2, .ptr N0 0 0), (3, .ptr (N0 + 3) 0 0), (11, .int .i64 r4.1), (18, .bool (ieq r4.1 2))] ∧ σ = hp E0 [(w0, some ⟨138, 2, W0.set r0_ [.fsl (encL rI_u8 r4.2.b), .int .i64 r4.2.p]⟩), (N0, some ⟨40, 5, [[.int .i64 0, .int .i64 0, .int .i64 0, .int .i64 0, .int .i64 0]]⟩), (N0 + 3, some ⟨40, 5, [[.int .i64 j1.2.Op, .int .i64 j1.2.Dst, .int .i64 j1.2.A, .int .i64 j1.2.B, .int .i64 j1.2.N]]⟩)] (M3 + 6)) (fun K hK => ?_) ?_
    ·
     skip
     have e0 : ¬ w0 = N0 := by omega
     have e1 : ¬ N0 = w0 := by omega
     have e2 : ¬ w0 = N0 + 3 := by omega
     have e3 : ¬ N0 + 3 = w0 := by omega
     simp -dsimp -implicitDefEqProofs (maxDischargeDepth := 6) [e0, e1, e2, e3, gs_W0, List.set_set]
     exact hK _ _ ⟨rfl, rfl⟩
    rintro a σ ⟨rfl, rfl⟩
    refine AWP_cond (ieq r4.1 2) rfl (fun C3 => ?_) (fun C3 => ?_)
    ·
     replace H := ifT C3 H
     obtain ⟨r5, hr5, H⟩ := bindE H
     obtain ⟨v6, hv6, H⟩ := bindE H
     have q0 : ∀ σ i, buildSliceA T 24 true i 2 [(0, .int .i64 0), (1, .int .i64 11)] σ = some (.fsl (encL rI ([0, 11] : List Int)), σ) := fun _ _ => rfl
     refine AWP_rt tok [0] [2, 3] (fun a σ => ∃ M4 : Nat, M3 + 13 ≤ M4 ∧ a = [(2, .ptr N0 0 0), (3, .ptr (N0 + 3) 0 0)] ∧ σ = hp E0 [(w0, some ⟨138, 2, W0.set r0_ [.fsl (encL rI_u8 r5.2.b), .int .i64 r5.2.p]⟩), (N0, some ⟨40, 5, [[.int .i64 0, .int .i64 0, .int .i64 0, .int .i64 0, .int .i64 0]]⟩), (N0 + 3, some ⟨40, 5, [[.int .i64 v6, .int .i64 j1.2.Dst, .int .i64 j1.2.A, .int .i64 j1.2.B, .int .i64 j1.2.N]]⟩)] M4) (fun K hK => ?_) ?_
     ·
      skip
      have e0 : ¬ w0 = N0 := by omega
      have e1 : ¬ N0 = w0 := by omega
      have e2 : ¬ w0 = N0 + 3 := by omega
      have e3 : ¬ N0 + 3 = w0 := by omega
      simp -dsimp -implicitDefEqProofs (maxDischargeDepth := 6) [e0, e1, e2, e3, gs_W0, List.set_set, q0, ix24 hv6]
      refine (c71 (W0 := W0.set r0_ [.fsl (encL rI_u8 r4.2.b), .int .i64 r4.2.p]) (r0_ := r0_) (H := hr5) (by simp [e0, e1, e2, e3, gs_W0, List.set_set, q0, ix24 hv6]) (by simp [e0, e1, e2, e3, gs_W0, List.set_set, q0, ix24 hv6])).mono ?_; rintro _ _ ⟨M4, fM4_0, rfl, rfl⟩; simp only [hp_next] at fM4_0
      try simp -dsimp -implicitDefEqProofs (maxDischargeDepth := 6) [e0, e1, e2, e3, gs_W0, List.set_set, q0, ix24 hv6, hp_over_some, hp_over_none]
      exact hK _ _ ⟨M4, (by omega), rfl, rfl⟩
     rintro a σ ⟨M4, fM4_0, ha, rfl⟩
     refine hK1 _ _ ?_; rw [ha]
     refine Rc.mk ?_
     refine AWP_sr tok [] [2] (fun a σ => a = [(2, .ptr N0 0 0)] ∧ σ = hp E0 [(w0, some ⟨138, 2, W0.set r0_ [.fsl (encL rI_u8 r5.2.b), .int .i64 r5.2.p]⟩), (N0, some ⟨40, 5, [[.int .i64 v6, .int .i64 j1.2.Dst, .int .i64 j1.2.A, .int .i64 j1.2.B, .int .i64 j1.2.N]]⟩), (N0 + 3, some ⟨40, 5, [[.int .i64 v6, .int .i64 j1.2.Dst, .int .i64 j1.2.A, .int .i64 j1.2.B, .int .i64 j1.2.N]]⟩)] (M4 + 2)) (fun K hK => ?_) ?_
     ·
      skip
      have e0 : ¬ w0 = N0 := by omega
      have e1 : ¬ N0 = w0 := by omega
      have e2 : ¬ w0 = N0 + 3 := by omega
      have e3 : ¬ N0 + 3 = w0 := by omega
      simp -dsimp -implicitDefEqProofs (maxDischargeDepth := 6) [e0, e1, e2, e3, gs_W0, List.set_set]
      exact hK _ _ ⟨rfl, rfl⟩
     rintro a σ ⟨rfl, rfl⟩
     replace H := Option.some.inj H; subst H
     refine AWP_kp [2] [(2, .ptr N0 0 0)] rfl ?_
     have z8 : ¬ w0 = N0 := by omega
     have z9 : ¬ N0 = w0 := by omega
     have z10 : ¬ w0 = N0 + 3 := by omega
     have z11 : ¬ N0 + 3 = w0 := by omega
     refine gDrop AWP_ref [(w0, some ⟨138, 2, W0.set r0_ [.fsl (encL rI_u8 r5.2.b), .int .i64 r5.2.p]⟩), (N0, some ⟨40, 5, [[.int .i64 v6, .int .i64 j1.2.Dst, .int .i64 j1.2.A, .int .i64 j1.2.B, .int .i64 j1.2.N]]⟩)] (hp_skip (hp_skip (AHeap.Sub.trans (AHeap.Sub.refl _) (hp_drop rfl (by simp; try omega))))) ?_
     refine AWP_ret ?_
     refine ⟨[.agg [.int .i64 v6, .int .i64 j1.2.Dst, .int .i64 j1.2.A, .int .i64 j1.2.B, .int .i64 j1.2.N]], by simp [z8, z9, z10, z11, gs_W0], (fun o => [N0].contains o), M4 + 2, by omega, ?_, ?_⟩
     ·
      simp [encL_nil, z8, z9, z10, z11, gs_W0]
     ·
      rw [cutD (L' := [(w0, some ⟨138, 2, W0.set r0_ [.fsl (encL rI_u8 r5.2.b), .int .i64 r5.2.p]⟩)]) (by simp [z8, z9, z10, z11, gs_W0])]
      first | done | rfl | simp [List.set_set]
    ·
     replace H := ifF C3 H
     refine AWP_sr tok [] [2, 3, 26] (fun a σ => a = [(2, .ptr N0 0 0), (3, .ptr (N0 + 3) 0 0), (26, .bool (ieq r4.1 3))] ∧ σ = hp E0 [(w0, some ⟨138, 2, W0.set r0_ [.fsl (encL rI_u8 r4.2.b), .int .i64 r4.2.p]⟩), (N0, some ⟨40, 5, [[.int .i64 0, .int .i64 0, .int .i64 0, .int .i64 0, .int .i64 0]]⟩), (N0 + 3, some ⟨40, 5, [[.int .i64 j1.2.Op, .int .i64 j1.2.Dst, .int .i64 j1.2.A, .int .i64 j1.2.B, .int .i64 j1.2.N]]⟩)] (M3 + 8)) (fun K hK => ?_) ?_
     ·
      skip
      have e0 : ¬ w0 = N0 := by omega
      have e1 : ¬ N0 = w0 := by omega
      have e2 : ¬ w0 = N0 + 3 := by omega
      have e3 : ¬ N0 + 3 = w0 := by omega
      simp -dsimp -implicitDefEqProofs (maxDischargeDepth := 6) [e0, e1, e2, e3, gs_W0, List.set_set]
      exact hK _ _ ⟨rfl, rfl⟩
     rintro a σ ⟨rfl, rfl⟩
     refine AWP_cond (ieq r4.1 3) rfl (fun C4 => ?_) (fun C4 => ?_)
     ·
      replace H := ifT C4 H
      refine AWP_rt tok [] [2, 3] (fun a σ => a = [(2, .ptr N0 0 0), (3, .ptr (N0 + 3) 0 0)] ∧ σ = hp E0 [(w0, some ⟨138, 2, W0.set r0_ [.fsl (encL rI_u8 r4.2.b), .int .i64 r4.2.p]⟩), (N0, some ⟨40, 5, [[.int .i64 0, .int .i64 0, .int .i64 0, .int .i64 0, .int .i64 0]]⟩), (N0 + 3, some ⟨40, 5, [[.int .i64 j1.2.Op, .int .i64 j1.2.Dst, .int .i64 j1.2.A, .int .i64 j1.2.B, .int .i64 600]]⟩)] (M3 + 10)) (fun K hK => ?_) ?_
      ·
       skip
       have e0 : ¬ w0 = N0 := by omega
       have e1 : ¬ N0 = w0 := by omega
       have e2 : ¬ w0 = N0 + 3 := by omega
       have e3 : ¬ N0 + 3 = w0 := by omega
       simp -dsimp -implicitDefEqProofs (maxDischargeDepth := 6) [e0, e1, e2, e3, gs_W0, List.set_set]
       exact hK _ _ ⟨rfl, rfl⟩
      rintro a σ ⟨ha, rfl⟩
      refine hK1 _ _ ?_; rw [ha]
      refine Rc.mk ?_
      refine AWP_sr tok [] [2] (fun a σ => a = [(2, .ptr N0 0 0)] ∧ σ = hp E0 [(w0, some ⟨138, 2, W0.set r0_ [.fsl (encL rI_u8 r4.2.b), .int .i64 r4.2.p]⟩), (N0, some ⟨40, 5, [[.int .i64 j1.2.Op, .int .i64 j1.2.Dst, .int .i64 j1.2.A, .int .i64 j1.2.B, .int .i64 600]]⟩), (N0 + 3, some ⟨40, 5, [[.int .i64 j1.2.Op, .int .i64 j1.2.Dst, .int .i64 j1.2.A, .int .i64 j1.2.B, .int .i64 600]]⟩)] (M3 + 12)) (fun K hK => ?_) ?_
      ·
       skip
       have e0 : ¬ w0 = N0 := by omega
       have e1 : ¬ N0 = w0 := by omega
       have e2 : ¬ w0 = N0 + 3 := by omega
       have e3 : ¬ N0 + 3 = w0 := by omega
       simp -dsimp -implicitDefEqProofs (maxDischargeDepth := 6) [e0, e1, e2, e3, gs_W0, List.set_set]
       exact hK _ _ ⟨rfl, rfl⟩
      rintro a σ ⟨rfl, rfl⟩
      replace H := Option.some.inj H; subst H
      refine AWP_kp [2] [(2, .ptr N0 0 0)] rfl ?_
      have z12 : ¬ w0 = N0 := by omega
      have z13 : ¬ N0 = w0 := by omega
      have z14 : ¬ w0 = N0 + 3 := by omega
      have z15 : ¬ N0 + 3 = w0 := by omega
      refine gDrop AWP_ref [(w0, some ⟨138, 2, W0.set r0_ [.fsl (encL rI_u8 r4.2.b), .int .i64 r4.2.p]⟩), (N0, some ⟨40, 5, [[.int .i64 j1.2.Op, .int .i64 j1.2.Dst, .int .i64 j1.2.A, .int .i64 j1.2.B, .int .i64 600]]⟩)] (hp_skip (hp_skip (AHeap.Sub.trans (AHeap.Sub.refl _) (hp_drop rfl (by simp; try omega))))) ?_
      refine AWP_ret ?_
      refine ⟨[.agg [.int .i64 j1.2.Op, .int .i64 j1.2.Dst, .int .i64 j1.2.A, .int .i64 j1.2.B, .int .i64 600]], by simp [z12, z13, z14, z15, gs_W0], (fun o => [N0].contains o), M3 + 12, by omega, ?_, ?_⟩
      ·
       simp [encL_nil, z12, z13, z14, z15, gs_W0]
      ·
       rw [cutD (L' := [(w0, some ⟨138, 2, W0.set r0_ [.fsl (encL rI_u8 r4.2.b), .int .i64 r4.2.p]⟩)]) (by simp [z12, z13, z14, z15, gs_W0])]
       first | done | rfl | simp [List.set_set]
     ·
      replace H := ifF C4 H
      refine AWP_skip ?_
      show K1 _ _
      refine keepE (l := [2, 3]) (x := [(2, .ptr N0 0 0), (3, .ptr (N0 + 3) 0 0)]) rfl fun a' ha => ?_
      refine hK1 _ _ ?_; rw [ha]
      refine Rc.mk ?_
      refine AWP_sr tok [] [2] (fun a σ => a = [(2, .ptr N0 0 0)] ∧ σ = hp E0 [(w0, some ⟨138, 2, W0.set r0_ [.fsl (encL rI_u8 r4.2.b), .int .i64 r4.2.p]⟩), (N0, some ⟨40, 5, [[.int .i64 j1.2.Op, .int .i64 j1.2.Dst, .int .i64 j1.2.A, .int .i64 j1.2.B, .int .i64 j1.2.N]]⟩), (N0 + 3, some ⟨40, 5, [[.int .i64 j1.2.Op, .int .i64 j1.2.Dst, .int .i64 j1.2.A, .int .i64 j1.2.B, .int .i64 j1.2.N]]⟩)] (M3 + 10)) (fun K hK => ?_) ?_
      ·
       skip
       have e0 : ¬ w0 = N0 := by omega
       have e1 : ¬ N0 = w0 := by omega
       have e2 : ¬ w0 = N0 + 3 := by omega
       have e3 : ¬ N0 + 3 = w0 := by omega
       simp -dsimp -implicitDefEqProofs (maxDischargeDepth := 6) [e0, e1, e2, e3, gs_W0, List.set_set]
       exact hK _ _ ⟨rfl, rfl⟩
      rintro a σ ⟨rfl, rfl⟩
      replace H := Option.some.inj H; subst H
      refine AWP_kp [2] [(2, .ptr N0 0 0)] rfl ?_
      have z16 : ¬ w0 = N0 := by omega
      have z17 : ¬ N0 = w0 := by omega
      have z18 : ¬ w0 = N0 + 3 := by omega
      have z19 : ¬ N0 + 3 = w0 := by omega
      refine gDrop AWP_ref [(w0, some ⟨138, 2, W0.set r0_ [.fsl (encL rI_u8 r4.2.b), .int .i64 r4.2.p]⟩), (N0, some ⟨40, 5, [[.int .i64 j1.2.Op, .int .i64 j1.2.Dst, .int .i64 j1.2.A, .int .i64 j1.2.B, .int .i64 j1.2.N]]⟩)] (hp_skip (hp_skip (AHeap.Sub.trans (AHeap.Sub.refl _) (hp_drop rfl (by simp; try omega))))) ?_
      refine AWP_ret ?_
      refine ⟨[.agg [.int .i64 j1.2.Op, .int .i64 j1.2.Dst, .int .i64 j1.2.A, .int .i64 j1.2.B, .int .i64 j1.2.N]], by simp [z16, z17, z18, z19, gs_W0], (fun o => [N0].contains o), M3 + 10, by omega, ?_, ?_⟩
      ·
       simp [encL_nil, z16, z17, z18, z19, gs_W0]
      ·
       rw [cutD (L' := [(w0, some ⟨138, 2, W0.set r0_ [.fsl (encL rI_u8 r4.2.b), .int .i64 r4.2.p]⟩)]) (by simp [z16, z17, z18, z19, gs_W0])]
       first | done | rfl | simp [List.set_set]
 replace H := hj1
 obtain ⟨r7, hr7, H⟩ := bindE H
 refine AWP_sr tok [] [0, 2, 3, 8] (fun a σ => ∃ M5 : Nat, M1 + 3 ≤ M5 ∧ a = [(0, .ptr w0 r0_ 0), (2, .ptr N0 0 0), (3, .ptr (N0 + 3) 0 0), (8, .bool (ieq r7.1 0))] ∧ σ = hp E0 [(w0, some ⟨138, 2, W0.set r0_ [.fsl (encL rI_u8 r7.2.b), .int .i64 r7.2.p]⟩), (N0, some ⟨40, 5, [[.int .i64 0, .int .i64 0, .int .i64 0, .int .i64 0, .int .i64 0]]⟩), (N0 + 3, some ⟨40, 5, [[.int .i64 r1.1.Op, .int .i64 r1.1.Dst, .int .i64 r1.1.A, .int .i64 r1.1.B, .int .i64 r1.1.N]]⟩)] M5) (fun K hK => ?_) ?_
 ·
  skip
  have e0 : ¬ w0 = N0 := by omega
  have e1 : ¬ N0 = w0 := by omega
  have e2 : ¬ w0 = N0 + 3 := by omega
  have e3 : ¬ N0 + 3 = w0 := by omega
  simp -dsimp -implicitDefEqProofs (maxDischargeDepth := 6) [e0, e1, e2, e3, gs_W0, List.set_set]
  refine (c71 (W0 := W0.set r0_ [.fsl (encL rI_u8 r1.2.b), .int .i64 r1.2.p]) (r0_ := r0_) (H := hr7) (by simp [e0, e1, e2, e3, gs_W0, List.set_set]) (by simp [e0, e1, e2, e3, gs_W0, List.set_set])).mono ?_; rintro _ _ ⟨M5, fM5_0, rfl, rfl⟩; simp only [hp_next] at fM5_0
  try simp -dsimp -implicitDefEqProofs (maxDischargeDepth := 6) [e0, e1, e2, e3, gs_W0, List.set_set, hp_over_some, hp_over_none]
  exact hK _ _ ⟨M5, (by omega), rfl, rfl⟩
 rintro a σ ⟨M5, fM5_0, rfl, rfl⟩
 refine AWP_cond (ieq r7.1 0) rfl (fun C5 => ?_) (fun C5 => ?_)
 ·
  replace H := ifT C5 H
  refine AWP_rt tok [] [0, 2, 3] (fun a σ => a = [(0, .ptr w0 r0_ 0), (2, .ptr N0 0 0), (3, .ptr (N0 + 3) 0 0)] ∧ σ = hp E0 [(w0, some ⟨138, 2, W0.set r0_ [.fsl (encL rI_u8 r7.2.b), .int .i64 r7.2.p]⟩), (N0, some ⟨40, 5, [[.int .i64 0, .int .i64 0, .int .i64 0, .int .i64 0, .int .i64 0]]⟩), (N0 + 3, some ⟨40, 5, [[.int .i64 10, .int .i64 0, .int .i64 0, .int .i64 0, .int .i64 0]]⟩)] (M5 + 2)) (fun K hK => ?_) ?_
  ·
   skip
   have e0 : ¬ w0 = N0 := by omega
   have e1 : ¬ N0 = w0 := by omega
   have e2 : ¬ w0 = N0 + 3 := by omega
   have e3 : ¬ N0 + 3 = w0 := by omega
   simp -dsimp -implicitDefEqProofs (maxDischargeDepth := 6) [e0, e1, e2, e3, gs_W0, List.set_set]
   exact hK _ _ ⟨rfl, rfl⟩
  rintro a σ ⟨ha, rfl⟩
  replace H := Option.some.inj H; subst H
  refine hJ1 _ _ ?_; rw [ha]
  exact Rc.fin (AHeap.Sub.refl _) ⟨M5 + 2, (by omega), (by omega), (by omega), rfl, rfl⟩
 ·
  replace H := ifF C5 H
  refine AWP_skip ?_
  show K2 _ _
  refine keepE (l := [0, 2, 3]) (x := [(0, .ptr w0 r0_ 0), (2, .ptr N0 0 0), (3, .ptr (N0 + 3) 0 0)]) rfl fun a' ha => ?_
  replace H := Option.some.inj H; subst H
  refine hJ1 _ _ ?_; rw [ha]
  exact Rc.fin (AHeap.Sub.refl _) ⟨M5, (by omega), (by omega), (by omega), rfl, rfl⟩
theorem c27 {p0 : (List Int)} {r : gQuad × Int × Int} (H : s_DrawQuadInstrs p0 = some r) : APure Tryd.prog G 27 [.fsl (encL rI_u8 p0)] (.tup [.agg [.int .i64 r.1.Op, .int .i64 r.1.Dst, .int .i64 r.1.A, .int .i64 r.1.B, .int .i64 r.1.N], .int .i64 r.2.1, .int .i64 r.2.2]) := by
 refine APure_fn (fun N0 => ?_) (by simp)
 refine ACalls_fn tok Tryd.func27 (by kernel_rfl) rfl Tryd.ntmps27 Tryd.results27 rfl ?_
 simp only [argsA, Nat.reduceAdd, hp_next]
 unfold s_DrawQuadInstrs at H
 refine AWP_sr tok [] [0, 2] (fun a σ => a = [(0, .fsl (encL rI_u8 p0)), (2, .ptr N0 0 0)] ∧ σ = hp E0 [(N0, some ⟨40, 5, [[.int .i64 0, .int .i64 0, .int .i64 0, .int .i64 0, .int .i64 0]]⟩)] (N0 + 3)) (fun K hK => ?_) ?_
 ·
  skip
  simp -dsimp -implicitDefEqProofs (maxDischargeDepth := 6)
  exact hK _ _ ⟨rfl, rfl⟩
 rintro a σ ⟨rfl, rfl⟩
 obtain ⟨r1, hr1, H⟩ := bindE H
 refine AWP_sr tok [] [2, 5] (fun a σ => ∃ M1 o1 : Nat, N0 + 6 ≤ M1 ∧ N0 + 6 ≤ o1 ∧ o1 < M1 ∧ a = [(2, .ptr N0 0 0), (5, .ptr o1 0 0)] ∧ σ = hp E0 [(N0, some ⟨40, 5, [[.int .i64 0, .int .i64 0, .int .i64 0, .int .i64 0, .int .i64 0]]⟩), (o1, some ⟨138, 2, [[.fsl (encL rI_u8 r1.b), .int .i64 r1.p]]⟩)] M1) (fun K hK => ?_) ?_
 ·
  skip
  simp -dsimp -implicitDefEqProofs (maxDischargeDepth := 6)
  refine (c69_o (H := hr1) ).mono ?_; rintro _ _ ⟨M1, o1, fM1_0, fM1_1, fM1_2, rfl, rfl⟩; simp only [hp_next] at fM1_0 fM1_1 fM1_2
  have eM1_0 : ¬ o1 = N0 := by omega
  have eM1_1 : ¬ N0 = o1 := by omega
  try simp -dsimp -implicitDefEqProofs (maxDischargeDepth := 6) [eM1_0, eM1_1, hp_over_some, hp_over_none]
  exact hK _ _ ⟨M1, o1, (by omega), (by omega), (by omega), rfl, rfl⟩
 rintro a σ ⟨M1, o1, fM1_0, fM1_1, fM1_2, rfl, rfl⟩
 obtain ⟨r2, hr2, H⟩ := bindE H
 refine AWP_sr tok [] [2, 5, 6] (fun a σ => ∃ M2 : Nat, M1 + 4 ≤ M2 ∧ a = [(2, .ptr N0 0 0), (5, .ptr o1 0 0), (6, .ptr (M1 + 2) 0 0)] ∧ σ = hp E0 [(N0, some ⟨40, 5, [[.int .i64 0, .int .i64 0, .int .i64 0, .int .i64 0, .int .i64 0]]⟩), (o1, some ⟨138, 2, [[.fsl (encL rI_u8 r2.2.b), .int .i64 r2.2.p]]⟩), (M1 + 2, some ⟨40, 5, [[.int .i64 r2.1.Op, .int .i64 r2.1.Dst, .int .i64 r2.1.A, .int .i64 r2.1.B, .int .i64 r2.1.N]]⟩)] M2) (fun K hK => ?_) ?_
 ·
  skip
  have e0 : ¬ N0 = o1 := by omega
  have e1 : ¬ o1 = N0 := by omega
  have e2 : ¬ N0 = M1 + 2 := by omega
  have e3 : ¬ M1 + 2 = N0 := by omega
  have e4 : ¬ o1 = M1 + 2 := by omega
  have e5 : ¬ M1 + 2 = o1 := by omega
  simp -dsimp -implicitDefEqProofs (maxDischargeDepth := 6) [e0, e1, e2, e3, e4, e5]
  refine (c70 (W0 := [[.fsl (encL rI_u8 r1.b), .int .i64 r1.p]]) (r0_ := 0) (H := hr2) (by simp [e0, e1, e2, e3, e4, e5]) (by simp [e0, e1, e2, e3, e4, e5])).mono ?_; rintro _ _ ⟨M2, fM2_0, rfl, rfl⟩; simp only [hp_next] at fM2_0
  try simp -dsimp -implicitDefEqProofs (maxDischargeDepth := 6) [e0, e1, e2, e3, e4, e5, hp_over_some, hp_over_none]
  exact hK _ _ ⟨M2, (by omega), rfl, rfl⟩
 rintro a σ ⟨M2, fM2_0, rfl, rfl⟩
 obtain ⟨r3, hr3, H⟩ := bindE H
 refine AWP_sr tok [] [2, 5, 6, 7] (fun a σ => ∃ M3 : Nat, M2 + 4 ≤ M3 ∧ a = [(2, .ptr N0 0 0), (5, .ptr o1 0 0), (6, .ptr (M1 + 2) 0 0), (7, .int .i64 (iadd .i64 1 r3.1))] ∧ σ = hp E0 [(N0, some ⟨40, 5, [[.int .i64 0, .int .i64 0, .int .i64 0, .int .i64 0, .int .i64 0]]⟩), (o1, some ⟨138, 2, [[.fsl (encL rI_u8 r3.2.b), .int .i64 r3.2.p]]⟩), (M1 + 2, some ⟨40, 5, [[.int .i64 r2.1.Op, .int .i64 r2.1.Dst, .int .i64 r2.1.A, .int .i64 r2.1.B, .int .i64 r2.1.N]]⟩)] M3) (fun K hK => ?_) ?_
 ·
  skip
  have e0 : ¬ N0 = o1 := by omega
  have e1 : ¬ o1 = N0 := by omega
  have e2 : ¬ N0 = M1 + 2 := by omega
  have e3 : ¬ M1 + 2 = N0 := by omega
  have e4 : ¬ o1 = M1 + 2 := by omega
  have e5 : ¬ M1 + 2 = o1 := by omega
  simp -dsimp -implicitDefEqProofs (maxDischargeDepth := 6) [e0, e1, e2, e3, e4, e5]
  refine (c71 (W0 := [[.fsl (encL rI_u8 r2.2.b), .int .i64 r2.2.p]]) (r0_ := 0) (H := hr3) (by simp [e0, e1, e2, e3, e4, e5]) (by simp [e0, e1, e2, e3, e4, e5])).mono ?_; rintro _ _ ⟨M3, fM3_0, rfl, rfl⟩; simp only [hp_next] at fM3_0
  try simp -dsimp -implicitDefEqProofs (maxDischargeDepth := 6) [e0, e1, e2, e3, e4, e5, hp_over_some, hp_over_none]
  exact hK _ _ ⟨M3, (by omega), rfl, rfl⟩
 rintro a σ ⟨M3, fM3_0, rfl, rfl⟩
 obtain ⟨r4, hr4, H⟩ := bindE H
 refine AWP_sr tok [] [2, 5, 6, 7, 8] (fun a σ => ∃ M4 : Nat, M3 + 5 ≤ M4 ∧ a = [(2, .ptr N0 0 0), (5, .ptr o1 0 0), (6, .ptr (M1 + 2) 0 0), (7, .int .i64 (iadd .i64 1 r3.1)), (8, .int .i64 (imul .i64 4 (isub .i64 r4.1 100)))] ∧ σ = hp E0 [(N0, some ⟨40, 5, [[.int .i64 0, .int .i64 0, .int .i64 0, .int .i64 0, .int .i64 0]]⟩), (o1, some ⟨138, 2, [[.fsl (encL rI_u8 r4.2.b), .int .i64 r4.2.p]]⟩), (M1 + 2, some ⟨40, 5, [[.int .i64 r2.1.Op, .int .i64 r2.1.Dst, .int .i64 r2.1.A, .int .i64 r2.1.B, .int .i64 r2.1.N]]⟩)] M4) (fun K hK => ?_) ?_
 ·
  skip
  have e0 : ¬ N0 = o1 := by omega
  have e1 : ¬ o1 = N0 := by omega
  have e2 : ¬ N0 = M1 + 2 := by omega
  have e3 : ¬ M1 + 2 = N0 := by omega
  have e4 : ¬ o1 = M1 + 2 := by omega
  have e5 : ¬ M1 + 2 = o1 := by omega
  simp -dsimp -implicitDefEqProofs (maxDischargeDepth := 6) [e0, e1, e2, e3, e4, e5]
  refine (c71 (W0 := [[.fsl (encL rI_u8 r3.2.b), .int .i64 r3.2.p]]) (r0_ := 0) (H := hr4) (by simp [e0, e1, e2, e3, e4, e5]) (by simp [e0, e1, e2, e3, e4, e5])).mono ?_; rintro _ _ ⟨M4, fM4_0, rfl, rfl⟩; simp only [hp_next] at fM4_0
  try simp -dsimp -implicitDefEqProofs (maxDischargeDepth := 6) [e0, e1, e2, e3, e4, e5, hp_over_some, hp_over_none]
  exact hK _ _ ⟨M4, (by omega), rfl, rfl⟩
 rintro a σ ⟨M4, fM4_0, rfl, rfl⟩
 obtain ⟨j1, hj1, H⟩ := bindE H
 refine AWP_seq (AWP_named fun K1 hK1 => ?_)
 have hJ1 : ∀ a σ, Rc G 39 N0 (fun a σ => ∃ M5 : Nat, N0 ≤ M5 ∧ N0 < M5 ∧ M1 + 2 < M5 ∧ a = [(2, .ptr N0 0 0), (6, .ptr (M1 + 2) 0 0), (7, .int .i64 j1.1), (8, .int .i64 j1.2)] ∧ σ = hp E0 [(N0, some ⟨40, 5, [[.int .i64 0, .int .i64 0, .int .i64 0, .int .i64 0, .int .i64 0]]⟩), (M1 + 2, some ⟨40, 5, [[.int .i64 r2.1.Op, .int .i64 r2.1.Dst, .int .i64 r2.1.A, .int .i64 r2.1.B, .int .i64 r2.1.N]]⟩)] M5) (a.keep [2, 6, 7, 8]) σ → K1 a σ := by
  rintro a σ ⟨b, τ, hr, M5, fM5_0, fM5_1, fM5_2, rfl, rfl⟩
  refine hK1 _ _ (AWP_keep [2, 6, 7, 8] (AWP_ref hr ?_))
  refine AWP_sr tok [] [2, 3, 4] (fun a σ => a = [(2, .ptr N0 0 0), (3, .int .i64 j1.1), (4, .int .i64 j1.2)] ∧ σ = hp E0 [(N0, some ⟨40, 5, [[.int .i64 r2.1.Op, .int .i64 r2.1.Dst, .int .i64 r2.1.A, .int .i64 r2.1.B, .int .i64 r2.1.N]]⟩), (M1 + 2, some ⟨40, 5, [[.int .i64 r2.1.Op, .int .i64 r2.1.Dst, .int .i64 r2.1.A, .int .i64 r2.1.B, .int .i64 r2.1.N]]⟩)] (M5 + 6)) (fun K hK => ?_) ?_
  ·
   skip
   have e0 : ¬ N0 = M1 + 2 := by omega
   have e1 : ¬ M1 + 2 = N0 := by omega
   simp -dsimp -implicitDefEqProofs (maxDischargeDepth := 6) [e0, e1]
   exact hK _ _ ⟨rfl, rfl⟩
  rintro a σ ⟨rfl, rfl⟩
  replace H := Option.some.inj H; subst H
  refine AWP_kp [2, 3, 4] [(2, .ptr N0 0 0), (3, .int .i64 j1.1), (4, .int .i64 j1.2)] rfl ?_
  have z0 : ¬ N0 = M1 + 2 := by omega
  have z1 : ¬ M1 + 2 = N0 := by omega
  refine AWP_ret ?_
  exact ⟨[.agg [.int .i64 r2.1.Op, .int .i64 r2.1.Dst, .int .i64 r2.1.A, .int .i64 r2.1.B, .int .i64 r2.1.N], .int .i64 j1.1, .int .i64 j1.2], by simp [z0, z1], 4, by simp [encL_nil, z0, z1]⟩
 replace H := hj1
 obtain ⟨r7, hr7, H⟩ := bindE H
 refine AWP_sr tok [] [2, 5, 6, 7, 8, 21] (fun a σ => ∃ M6 : Nat, M4 + 2 ≤ M6 ∧ a = [(2, .ptr N0 0 0), (5, .ptr o1 0 0), (6, .ptr (M1 + 2) 0 0), (7, .int .i64 (iadd .i64 1 r3.1)), (8, .int .i64 (imul .i64 4 (isub .i64 r4.1 100))), (21, .int .i64 r7.1)] ∧ σ = hp E0 [(N0, some ⟨40, 5, [[.int .i64 0, .int .i64 0, .int .i64 0, .int .i64 0, .int .i64 0]]⟩), (o1, some ⟨138, 2, [[.fsl (encL rI_u8 r7.2.b), .int .i64 r7.2.p]]⟩), (M1 + 2, some ⟨40, 5, [[.int .i64 r2.1.Op, .int .i64 r2.1.Dst, .int .i64 r2.1.A, .int .i64 r2.1.B, .int .i64 r2.1.N]]⟩)] M6) (fun K hK => ?_) ?_
 ·
  skip
  have e0 : ¬ N0 = o1 := by omega
  have e1 : ¬ o1 = N0 := by omega
  have e2 : ¬ N0 = M1 + 2 := by omega
  have e3 : ¬ M1 + 2 = N0 := by omega
  have e4 : ¬ o1 = M1 + 2 := by omega
  have e5 : ¬ M1 + 2 = o1 := by omega
  simp -dsimp -implicitDefEqProofs (maxDischargeDepth := 6) [e0, e1, e2, e3, e4, e5]
  refine (c71 (W0 := [[.fsl (encL rI_u8 r4.2.b), .int .i64 r4.2.p]]) (r0_ := 0) (H := hr7) (by simp [e0, e1, e2, e3, e4, e5]) (by simp [e0, e1, e2, e3, e4, e5])).mono ?_; rintro _ _ ⟨M6, fM6_0, rfl, rfl⟩; simp only [hp_next] at fM6_0
  try simp -dsimp -implicitDefEqProofs (maxDischargeDepth := 6) [e0, e1, e2, e3, e4, e5, hp_over_some, hp_over_none]
  exact hK _ _ ⟨M6, (by omega), rfl, rfl⟩
 rintro a σ ⟨M6, fM6_0, rfl, rfl⟩
 refine AWP_block (AWP_thenB ?_)
 refine AWP_sr tok [] [2, 5, 6, 7, 8, 21, 22] (fun a σ => a = [(2, .ptr N0 0 0), (5, .ptr o1 0 0), (6, .ptr (M1 + 2) 0 0), (7, .int .i64 (iadd .i64 1 r3.1)), (8, .int .i64 (imul .i64 4 (isub .i64 r4.1 100))), (21, .int .i64 r7.1), (22, .bool (ieq r7.1 0))] ∧ σ = hp E0 [(N0, some ⟨40, 5, [[.int .i64 0, .int .i64 0, .int .i64 0, .int .i64 0, .int .i64 0]]⟩), (o1, some ⟨138, 2, [[.fsl (encL rI_u8 r7.2.b), .int .i64 r7.2.p]]⟩), (M1 + 2, some ⟨40, 5, [[.int .i64 r2.1.Op, .int .i64 r2.1.Dst, .int .i64 r2.1.A, .int .i64 r2.1.B, .int .i64 r2.1.N]]⟩)] (M6 + 2)) (fun K hK => ?_) ?_
 ·
  skip
  have e0 : ¬ N0 = o1 := by omega
  have e1 : ¬ o1 = N0 := by omega
  have e2 : ¬ N0 = M1 + 2 := by omega
  have e3 : ¬ M1 + 2 = N0 := by omega
  have e4 : ¬ o1 = M1 + 2 := by omega
  have e5 : ¬ M1 + 2 = o1 := by omega
  simp -dsimp -implicitDefEqProofs (maxDischargeDepth := 6) [e0, e1, e2, e3, e4, e5]
  exact hK _ _ ⟨rfl, rfl⟩
 rintro a σ ⟨rfl, rfl⟩
 refine AWP_cond (ieq r7.1 0) rfl (fun C1 => ?_) (fun C1 => ?_)
 ·
  replace H := ifT C1 H
  obtain ⟨r8, hr8, H⟩ := bindE H
  obtain ⟨v9, hv9, H⟩ := bindE H
  have q0 : ∀ σ i, buildSliceA T 24 true i 2 [(0, .int .i64 0), (1, .int .i64 9)] σ = some (.fsl (encL rI ([0, 9] : List Int)), σ) := fun _ _ => rfl
  refine AWP_rt tok [0] [2, 6, 7, 8] (fun a σ => ∃ M7 : Nat, M6 + 8 ≤ M7 ∧ a = [(2, .ptr N0 0 0), (6, .ptr (M1 + 2) 0 0), (7, .int .i64 v9), (8, .int .i64 (imul .i64 4 (isub .i64 r4.1 100)))] ∧ σ = hp E0 [(N0, some ⟨40, 5, [[.int .i64 0, .int .i64 0, .int .i64 0, .int .i64 0, .int .i64 0]]⟩), (o1, some ⟨138, 2, [[.fsl (encL rI_u8 r8.2.b), .int .i64 r8.2.p]]⟩), (M1 + 2, some ⟨40, 5, [[.int .i64 r2.1.Op, .int .i64 r2.1.Dst, .int .i64 r2.1.A, .int .i64 r2.1.B, .int .i64 r2.1.N]]⟩)] M7) (fun K hK => ?_) ?_
  ·
   skip
   have e0 : ¬ N0 = o1 := by omega
   have e1 : ¬ o1 = N0 := by omega
   have e2 : ¬ N0 = M1 + 2 := by omega
   have e3 : ¬ M1 + 2 = N0 := by omega
   have e4 : ¬ o1 = M1 + 2 := by omega
   have e5 : ¬ M1 + 2 = o1 := by omega
   simp -dsimp -implicitDefEqProofs (maxDischargeDepth := 6) [e0, e1, e2, e3, e4, e5, q0, ix24 hv9]
   refine (c71 (W0 := [[.fsl (encL rI_u8 r7.2.b), .int .i64 r7.2.p]]) (r0_ := 0) (H := hr8) (by simp [e0, e1, e2, e3, e4, e5, q0, ix24 hv9]) (by simp [e0, e1, e2, e3, e4, e5, q0, ix24 hv9])).mono ?_; rintro _ _ ⟨M7, fM7_0, rfl, rfl⟩; simp only [hp_next] at fM7_0
   try simp -dsimp -implicitDefEqProofs (maxDischargeDepth := 6) [e0, e1, e2, e3, e4, e5, q0, ix24 hv9, hp_over_some, hp_over_none]
   exact hK _ _ ⟨M7, (by omega), rfl, rfl⟩
  rintro a σ ⟨M7, fM7_0, ha, rfl⟩
  replace H := Option.some.inj H; subst H
  refine hJ1 _ _ ?_; rw [ha]
  exact Rc.fin (hp_skip (AHeap.Sub.trans (hp_skip (AHeap.Sub.refl _)) (hp_drop rfl (by simp; try omega)))) ⟨M7, (by omega), (by omega), (by omega), rfl, rfl⟩
 ·
  replace H := ifF C1 H
  refine AWP_sr tok [] [2, 5, 6, 7, 8, 29] (fun a σ => a = [(2, .ptr N0 0 0), (5, .ptr o1 0 0), (6, .ptr (M1 + 2) 0 0), (7, .int .i64 (iadd .i64 1 r3.1)), (8, .int .i64 (imul .i64 4 (isub .i64 r4.1 100))), (29, .bool (ieq r7.1 1))] ∧ σ = hp E0 [(N0, some ⟨40, 5, [[.int .i64 0, .int .i64 0, .int .i64 0, .int .i64 0, .int .i64 0]]⟩), (o1, some ⟨138, 2, [[.fsl (encL rI_u8 r7.2.b), .int .i64 r7.2.p]]⟩), (M1 + 2, some ⟨40, 5, [[.int .i64 r2.1.Op, .int .i64 r2.1.Dst, .int .i64 r2.1.A, .int .i64 r2.1.B, .int .i64 r2.1.N]]⟩)] (M6 + 4)) (fun K hK => ?_) ?_
  ·
   skip
   have e0 : ¬ N0 = o1 := by omega
   have e1 : ¬ o1 = N0 := by omega
   have e2 : ¬ N0 = M1 + 2 := by omega
   have e3 : ¬ M1 + 2 = N0 := by omega
   have e4 : ¬ o1 = M1 + 2 := by omega
   have e5 : ¬ M1 + 2 = o1 := by omega
   simp -dsimp -implicitDefEqProofs (maxDischargeDepth := 6) [e0, e1, e2, e3, e4, e5]
   exact hK _ _ ⟨rfl, rfl⟩
  rintro a σ ⟨rfl, rfl⟩
  refine AWP_cond (ieq r7.1 1) rfl (fun C2 => ?_) (fun C2 => ?_)
  ·
   replace H := ifT C2 H
   obtain ⟨r10, hr10, H⟩ := bindE H
   obtain ⟨v11, hv11, H⟩ := bindE H
   have q1 : ∀ σ i, buildSliceA T 24 true i 4 [(0, .int .i64 2), (1, .int .i64 100004), (2, .int .i64 (-100004)), (3, .int .i64 100000)] σ = some (.fsl (encL rI ([2, 100004, -100004, 100000] : List Int)), σ) := fun _ _ => rfl
   refine AWP_rt tok [0] [2, 6, 7, 8] (fun a σ => ∃ M8 : Nat, M6 + 10 ≤ M8 ∧ a = [(2, .ptr N0 0 0), (6, .ptr (M1 + 2) 0 0), (7, .int .i64 (iadd .i64 1 r3.1)), (8, .int .i64 v11)] ∧ σ = hp E0 [(N0, some ⟨40, 5, [[.int .i64 0, .int .i64 0, .int .i64 0, .int .i64 0, .int .i64 0]]⟩), (o1, some ⟨138, 2, [[.fsl (encL rI_u8 r10.2.b), .int .i64 r10.2.p]]⟩), (M1 + 2, some ⟨40, 5, [[.int .i64 r2.1.Op, .int .i64 r2.1.Dst, .int .i64 r2.1.A, .int .i64 r2.1.B, .int .i64 r2.1.N]]⟩)] M8) (fun K hK => ?_) ?_
   ·
    skip
    have e0 : ¬ N0 = o1 := by omega
    have e1 : ¬ o1 = N0 := by omega
    have e2 : ¬ N0 = M1 + 2 := by omega
    have e3 : ¬ M1 + 2 = N0 := by omega
    have e4 : ¬ o1 = M1 + 2 := by omega
    have e5 : ¬ M1 + 2 = o1 := by omega
    simp -dsimp -implicitDefEqProofs (maxDischargeDepth := 6) [e0, e1, e2, e3, e4, e5, q1, ix24 hv11]
    refine (c71 (W0 := [[.fsl (encL rI_u8 r7.2.b), .int .i64 r7.2.p]]) (r0_ := 0) (H := hr10) (by simp [e0, e1, e2, e3, e4, e5, q1, ix24 hv11]) (by simp [e0, e1, e2, e3, e4, e5, q1, ix24 hv11])).mono ?_; rintro _ _ ⟨M8, fM8_0, rfl, rfl⟩; simp only [hp_next] at fM8_0
    try simp -dsimp -implicitDefEqProofs (maxDischargeDepth := 6) [e0, e1, e2, e3, e4, e5, q1, ix24 hv11, hp_over_some, hp_over_none]
    exact hK _ _ ⟨M8, (by omega), rfl, rfl⟩
   rintro a σ ⟨M8, fM8_0, ha, rfl⟩
   replace H := Option.some.inj H; subst H
   refine hJ1 _ _ ?_; rw [ha]
   exact Rc.fin (hp_skip (AHeap.Sub.trans (hp_skip (AHeap.Sub.refl _)) (hp_drop rfl (by simp; try omega)))) ⟨M8, (by omega), (by omega), (by omega), rfl, rfl⟩
  ·
   replace H := ifF C2 H
   refine AWP_skip ?_
   show K1 _ _
   refine keepE (l := [2, 6, 7, 8]) (x := [(2, .ptr N0 0 0), (6, .ptr (M1 + 2) 0 0), (7, .int .i64 (iadd .i64 1 r3.1)), (8, .int .i64 (imul .i64 4 (isub .i64 r4.1 100)))]) rfl fun a' ha => ?_
   replace H := Option.some.inj H; subst H
   refine hJ1 _ _ ?_; rw [ha]
   exact Rc.fin (hp_skip (AHeap.Sub.trans (hp_skip (AHeap.Sub.refl _)) (hp_drop rfl (by simp; try omega)))) ⟨M6 + 4, (by omega), (by omega), (by omega), rfl, rfl⟩
end Go.Proofs.YtoklfbdcghgmlaaDoor
