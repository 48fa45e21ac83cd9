/- The contracts of functions of the program, part 1: each computes what its mirror computes. No conditions. -/
import Derived.Test.YtlcilhmkbmgkeaaDoorNDT0
set_option linter.unusedSimpArgs false
set_option linter.unusedVariables false
set_option maxRecDepth 20000
set_option maxHeartbeats 4000000
namespace Go.Proofs.YtlcilhmkbmgkeaaDoor
open Go Go.Abs Go.RowKit

theorem c105 {p0 : Int} {p1 : Int} {r : Int} (H : i_SignExtend p0 p1 = some r) : APure Tryd.prog G 105 [.int .i64 p0, .int .i64 p1] (.int .i64 r) := by
 refine APure_fn (fun N0 => ?_) (by simp)
 refine ACalls_fn tok Tryd.func105 (by kernel_rfl) rfl Tryd.ntmps105 Tryd.results105 rfl ?_
 simp only [argsA, Nat.reduceAdd, hp_next]
 unfold i_SignExtend at H
 refine S0 tok [] [0, 1] ?_
 refine AWP_sq [0, 1] fun K1 hK1 => ?_
 obtain ⟨g1, hg1, H⟩ := bindE H
 obtain ⟨g2, hg2, H⟩ := bindE H
 obtain ⟨g4, hg4, H⟩ := bindE H
 refine AWP_sr tok [] [0, 1, 20] (fun a σ => a = [(0, .int .i64 p0), (1, .int .i64 p1), (20, .bool g4)] ∧ σ = hp E0 [] (N0 + 17)) (fun K hK => ?_) ?_
 ·
  simp -dsimp -implicitDefEqProofs (maxDischargeDepth := 6)
  cases hbg1 : ilt p1 1
  ·
   replace hg1 := ifF hbg1 hg1
   replace hg1 := oi hg1; subst hg1
   try simp -dsimp -implicitDefEqProofs (maxDischargeDepth := 6) [hbg1]
   cases hbg2 : (igt p1 32)
   ·
    replace hg2 := ifF hbg2 hg2
    replace hg2 := oi hg2; subst hg2
    try simp -dsimp -implicitDefEqProofs (maxDischargeDepth := 6) [hbg1, hbg2]
    cases hbg4 : (ilt p0 0)
    ·
     replace hg4 := ifF hbg4 hg4
     obtain ⟨v3, hv3, hg4⟩ := bindE hg4
     replace hg4 := oi hg4; subst hg4
     try simp -dsimp -implicitDefEqProofs (maxDischargeDepth := 6) [hbg1, hbg2, hbg4, hv3]
     exact hK _ _ ⟨rfl, rfl⟩
    ·
     replace hg4 := ifT hbg4 hg4
     replace hg4 := oi hg4; subst hg4
     try simp -dsimp -implicitDefEqProofs (maxDischargeDepth := 6) [hbg1, hbg2, hbg4]
     exact hK _ _ ⟨rfl, rfl⟩
   ·
    replace hg2 := ifT hbg2 hg2
    replace hg2 := oi hg2; subst hg2
    try simp -dsimp -implicitDefEqProofs (maxDischargeDepth := 6) [hbg1, hbg2]
    replace hg4 := ifT rfl hg4
    replace hg4 := oi hg4; subst hg4
    try simp -dsimp -implicitDefEqProofs (maxDischargeDepth := 6) [hbg1, hbg2]
    exact hK _ _ ⟨rfl, rfl⟩
  ·
   replace hg1 := ifT hbg1 hg1
   replace hg1 := oi hg1; subst hg1
   try simp -dsimp -implicitDefEqProofs (maxDischargeDepth := 6) [hbg1]
   replace hg2 := ifT rfl hg2
   replace hg2 := oi hg2; subst hg2
   try simp -dsimp -implicitDefEqProofs (maxDischargeDepth := 6) [hbg1]
   replace hg4 := ifT rfl hg4
   replace hg4 := oi hg4; subst hg4
   try simp -dsimp -implicitDefEqProofs (maxDischargeDepth := 6) [hbg1]
   exact hK _ _ ⟨rfl, rfl⟩
 rintro a σ ⟨rfl, rfl⟩
 refine AWP_cond g4 rfl (fun C1 => ?_) (fun C1 => ?_)
 ·
  replace H := ifT C1 H
  refine S0 tok [] [4] ?_
  replace H := oi H; subst H; exact AWP_ret ⟨_, rfl, 4, by simp [encL_nil]⟩
 ·
  replace H := ifF C1 H
  refine AWP_skip (Jn hK1 ?_)
  refine AWP_sq [0] fun K2 hK2 => ?_
  obtain ⟨v5, hv5, H⟩ := bindE H
  refine Sx tok [] [0, 1, 25] (by intro K k; simp -dsimp -implicitDefEqProofs (maxDischargeDepth := 6) [hv5]; exact k) ?_
  refine AWP_cond (ige p0 v5) rfl (fun C2 => ?_) (fun C2 => ?_)
  ·
   replace H := ifT C2 H
   obtain ⟨v6, hv6, H⟩ := bindE H
   refine Sx tok [] [4] (by intro K k; simp -dsimp -implicitDefEqProofs (maxDischargeDepth := 6) [hv6]; exact k) ?_
   replace H := oi H; subst H; exact AWP_ret ⟨_, rfl, 4, by simp [encL_nil]⟩
  ·
   replace H := ifF C2 H
   refine AWP_skip (Jn hK2 ?_)
   refine S0 tok [] [4] ?_
   replace H := oi H; subst H; exact AWP_ret ⟨_, rfl, 4, by simp [encL_nil]⟩
theorem c21 {p0 : Int} {r : Int} (H : i_Wrap p0 = some r) : APure Tryd.prog G 21 [.int .i64 p0] (.int .i64 r) := by
 refine APure_fn (fun N0 => ?_) (by simp)
 refine ACalls_fn tok Tryd.func21 (by kernel_rfl) rfl Tryd.ntmps21 Tryd.results21 rfl ?_
 simp only [argsA, Nat.reduceAdd, hp_next]
 unfold i_Wrap at H
 refine S0 tok [] [0] ?_
 refine S0 tok [] [2] ?_
 replace H := oi H; subst H; exact AWP_ret ⟨_, rfl, 4, by simp [encL_nil]⟩
theorem c67 {p0 : Int} {p1 : Int} {r : (List gInstr)} (H : i_constInstrs p0 p1 = some r) : APure Tryd.prog G 67 [.int .i64 p0, .int .i64 p1] (.fsl (encL rInstr r)) := by
 refine APure_fn (fun N0 => ?_) (by simp)
 refine ACalls_fn tok Tryd.func67 (by kernel_rfl) rfl Tryd.ntmps67 Tryd.results67 rfl ?_
 simp only [argsA, Nat.reduceAdd, hp_next]
 unfold i_constInstrs at H
 refine S0 tok [] [0, 1] ?_
 refine AWP_sq [0, 1] fun K1 hK1 => ?_
 obtain ⟨g1, hg1, H⟩ := bindE H
 refine AWP_sr tok [] [0, 1, 12] (fun a σ => a = [(0, .int .i64 p0), (1, .int .i64 p1), (12, .bool g1)] ∧ σ = hp E0 [] (N0 + 7)) (fun K hK => ?_) ?_
 ·
  simp -dsimp -implicitDefEqProofs (maxDischargeDepth := 6)
  cases hbg1 : ige p1 (-2048)
  ·
   replace hg1 := ifF hbg1 hg1
   replace hg1 := oi hg1; subst hg1
   try simp -dsimp -implicitDefEqProofs (maxDischargeDepth := 6) [hbg1]
   exact hK _ _ ⟨rfl, rfl⟩
  ·
   replace hg1 := ifT hbg1 hg1
   replace hg1 := oi hg1; subst hg1
   try simp -dsimp -implicitDefEqProofs (maxDischargeDepth := 6) [hbg1]
   exact hK _ _ ⟨rfl, rfl⟩
 rintro a σ ⟨rfl, rfl⟩
 refine AWP_cond g1 rfl (fun C1 => ?_) (fun C1 => ?_)
 ·
  replace H := ifT C1 H
  obtain ⟨r2, hr2, H⟩ := bindE H
  have q0 : ∀ σ i, buildSliceA T 46 true i 1 [(0, .agg [.int .i64 r2.Op, .int .i64 r2.Rd, .int .i64 r2.Rs, .int .i64 r2.Rt, .int .i64 r2.Imm])] σ = some (.fsl (encL rInstr ([r2] : List gInstr)), σ) := fun _ _ => rfl
  refine Sx tok [3] [4] (by intro K k; (repeat first | simp -dsimp -implicitDefEqProofs (maxDischargeDepth := 6) [q0] | refine (c70 hr2).app ?_); exact k) ?_
  replace H := oi H; subst H; exact AWP_ret ⟨_, rfl, 4, by simp [encL_nil]⟩
 ·
  replace H := ifF C1 H
  refine AWP_skip (Jn hK1 ?_)
  obtain ⟨r3, hr3, H⟩ := bindE H
  obtain ⟨r4, hr4, H⟩ := bindE H
  obtain ⟨r5, hr5, H⟩ := bindE H
  refine Sx tok [] [0, 1, 5] (by intro K k; (repeat first | simp -dsimp -implicitDefEqProofs (maxDischargeDepth := 6) | refine (c90 hr3).app ?_ | refine (c92 hr4).app ?_ | refine (c105 hr5).app ?_); exact k) ?_
  obtain ⟨r6, hr6, H⟩ := bindE H
  obtain ⟨r7, hr7, H⟩ := bindE H
  obtain ⟨r8, hr8, H⟩ := bindE H
  refine Sx tok [] [0, 5, 6] (by intro K k; (repeat first | simp -dsimp -implicitDefEqProofs (maxDischargeDepth := 6) | refine (c21 hr6).app ?_ | refine (c90 hr7).app ?_ | refine (c92 hr8).app ?_); exact k) ?_
  obtain ⟨r9, hr9, H⟩ := bindE H
  have q1 : ∀ σ i, buildSliceA T 46 true i 2 [(0, .agg [.int .i64 19, .int .i64 p0, .int .i64 0, .int .i64 0, .int .i64 r8]), (1, .agg [.int .i64 r9.Op, .int .i64 r9.Rd, .int .i64 r9.Rs, .int .i64 r9.Rt, .int .i64 r9.Imm])] σ = some (.fsl (encL rInstr ([(⟨19, p0, 0, 0, r8⟩ : gInstr), r9] : List gInstr)), σ) := fun _ _ => rfl
  refine Sx tok [7] [4] (by intro K k; (repeat first | simp -dsimp -implicitDefEqProofs (maxDischargeDepth := 6) [q1] | refine (c70 hr9).app ?_); exact k) ?_
  replace H := oi H; subst H; exact AWP_ret ⟨_, rfl, 4, by simp [encL_nil]⟩
theorem c66 {p0 : Int} {pf0 : gQuad} {r : (List gInstr)} (H : i_quadInstrs_1 p0 pf0 = some r) : APure Tryd.prog G 66 [.int .i64 p0, .fptr [.int .i64 pf0.Op, .int .i64 pf0.Dst, .int .i64 pf0.A, .int .i64 pf0.B, .int .i64 pf0.N] 0] (.fsl (encL rInstr r)) := by
 refine APure_fn (fun N0 => ?_) (by simp)
 refine ACalls_fn tok Tryd.func66 (by kernel_rfl) rfl Tryd.ntmps66 Tryd.results66 rfl ?_
 simp only [argsA, Nat.reduceAdd, hp_next]
 unfold i_quadInstrs_1 at H
 refine S0 tok [] [0, 1] ?_
 obtain ⟨r1, hr1, H⟩ := bindE H
 refine Sx tok [] [3] (by intro K k; (repeat first | simp -dsimp -implicitDefEqProofs (maxDischargeDepth := 6) | refine (c67 hr1).app ?_); exact k) ?_
 replace H := oi H; subst H; exact AWP_ret ⟨_, rfl, 4, by simp [encL_nil]⟩
theorem c73 {p0 : gEmitter} {p1 : (List gInstr)} {r : gEmitter} (H : i_emitter_emit p0 p1 = some r) {σ : AHeap} {w0 : Nat} {W0 : List (List AV)} {r0_ : Nat} (q0 : σ.objs w0 = some ⟨100, 2, W0⟩) (g0 : W0[r0_]? = some [.int .i64 p0.colors, .osl 78 5 (encL rInstr p0.list)]) : ACalls Tryd.prog G 73 [.ptr w0 r0_ 0, .fsl (encL rInstr p1)] σ (fun v σ' => ∃ M : Nat, σ.next ≤ M ∧ v = .tup [] ∧ σ' = hp σ.objs [(w0, some ⟨100, 2, W0.set r0_ [.int .i64 r.colors, .osl 78 5 (encL rInstr r.list)]⟩)] M) := by
 refine ACalls_fr (L := [(w0, some ⟨100, 2, W0⟩)]) (Q1 := fun v σ' => ∃ M : Nat, σ.next ≤ M ∧ v = .tup [] ∧ σ' = hp E0 [(w0, some ⟨100, 2, W0.set r0_ [.int .i64 r.colors, .osl 78 5 (encL rInstr r.list)]⟩)] M) (by simp [q0]) (fun hlt => ?_) ?_ ⟨_, Tryd.func73, rfl, rfl⟩
 rotate_left
 ·
  rintro v σ1 ⟨M, h0, rfl, rfl⟩
  exact ⟨_, M, rfl, by simp, by simp; try omega, M, h0, rfl, rfl⟩
 generalize σ.next = N0 at hlt ⊢
 have lw0 : w0 < N0 := hlt _ (.head _) rfl
 have gs_W0 : ∀ x, (W0.set r0_ x)[r0_]? = some x := gsetW g0
 rw [show W0 = W0.set r0_ [.int .i64 p0.colors, .osl 78 5 (encL rInstr p0.list)] from (set_same g0).symm]
 refine ACalls_fn tok Tryd.func73 (by kernel_rfl) rfl Tryd.ntmps73 Tryd.results73 rfl ?_
 simp only [argsA, Nat.reduceAdd, hp_next]
 unfold i_emitter_emit at H
 refine AWP_end [] fun KE hKE => ?_
 refine gU AWP_ref w0 r0_ 1 ?_ (hr := by exact gs_W0 _)
 obtain ⟨l1, hl1, H⟩ := bindE H
 refine AWP_rt tok [] [] (fun a σ => a = [] ∧ σ = hp E0 [(w0, some ⟨100, 2, W0.set r0_ [.int .i64 p0.colors, .sl (N0 + 7) 0 l1.length]⟩), (N0 + 7, some ⟨78, 5, encL rInstr l1⟩)] (N0 + 11)) (fun K hK => ?_) ?_
 ·
  have e0 := nQ w0 N0
  have e1 := nQ w0 (N0 + 7)
  simp -dsimp -implicitDefEqProofs (maxDischargeDepth := 6) [e0, e1, gs_W0, List.set_set, app46 hl1]
  exact hK _ _ ⟨rfl, rfl⟩
 rintro a σ ⟨ha, rfl⟩
 replace H := oi H; subst H
 refine hKE _ _ ?_; rw [ha]
 refine Rc.kp [] [] rfl ?_
 refine gP Rc_ref w0 r0_ 1 ?_ (hr := by exact gs_W0 _)
 refine Rc.mk ?_
 refine ⟨[], by simp [gs_W0], N0 + 11, by omega, ?_, ?_⟩
 ·
  simp [encL_nil]
 ·
  first | rfl | simp [List.set_set]
theorem c65_i_quadInstrs_1 {p0 : gEmitter} {p1 : Int} {p2_0 : gQuad} {r : gEmitter} (H : i_emitter_write_i_quadInstrs_1 p0 p1 p2_0 = some r) {σ : AHeap} {w0 : Nat} {W0 : List (List AV)} {r0_ : Nat} (q0 : σ.objs w0 = some ⟨100, 2, W0⟩) (g0 : W0[r0_]? = some [.int .i64 p0.colors, .osl 78 5 (encL rInstr p0.list)]) : ACalls Tryd.prog G 65 [.ptr w0 r0_ 0, .int .i64 p1, .clo 66 [] [.fptr [.int .i64 p2_0.Op, .int .i64 p2_0.Dst, .int .i64 p2_0.A, .int .i64 p2_0.B, .int .i64 p2_0.N] 0]] σ (fun v σ' => ∃ M : Nat, σ.next ≤ M ∧ v = .tup [] ∧ σ' = hp σ.objs [(w0, some ⟨100, 2, W0.set r0_ [.int .i64 r.colors, .osl 78 5 (encL rInstr r.list)]⟩)] M) := by
 refine ACalls_fr (L := [(w0, some ⟨100, 2, W0⟩)]) (Q1 := fun v σ' => ∃ M : Nat, σ.next ≤ M ∧ v = .tup [] ∧ σ' = hp E0 [(w0, some ⟨100, 2, W0.set r0_ [.int .i64 r.colors, .osl 78 5 (encL rInstr r.list)]⟩)] M) (by simp [q0]) (fun hlt => ?_) ?_ ⟨_, Tryd.func65, rfl, rfl⟩
 rotate_left
 ·
  rintro v σ1 ⟨M, h0, rfl, rfl⟩
  exact ⟨_, M, rfl, by simp, by simp; try omega, M, h0, rfl, rfl⟩
 generalize σ.next = N0 at hlt ⊢
 have lw0 : w0 < N0 := hlt _ (.head _) rfl
 have gs_W0 : ∀ x, (W0.set r0_ x)[r0_]? = some x := gsetW g0
 rw [show W0 = W0.set r0_ [.int .i64 p0.colors, .osl 78 5 (encL rInstr p0.list)] from (set_same g0).symm]
 refine ACalls_fn tok Tryd.func65 (by kernel_rfl) rfl Tryd.ntmps65 Tryd.results65 rfl ?_
 simp only [argsA, Nat.reduceAdd, hp_next]
 unfold i_emitter_write_i_quadInstrs_1 at H
 refine AWP_end [] fun KE hKE => ?_
 refine AWP_sq [0, 1, 2] fun K1 hK1 => ?_
 refine Sx tok [] [0, 1, 2, 11] (by intro K k; simp -dsimp -implicitDefEqProofs (maxDischargeDepth := 6) [gs_W0, List.set_set]; exact k) ?_
 refine AWP_cond (ilt p1 p0.colors) rfl (fun C1 => ?_) (fun C1 => ?_)
 ·
  replace H := ifT C1 H
  obtain ⟨v1, hv1, H⟩ := bindE H
  obtain ⟨r2, hr2, H⟩ := bindE H
  obtain ⟨r3, hr3, H⟩ := bindE H
  refine AWP_sr tok [] [] (fun a σ => ∃ M1 : Nat, N0 + 13 ≤ M1 ∧ a = [] ∧ σ = hp E0 [(w0, some ⟨100, 2, W0.set r0_ [.int .i64 r3.colors, .osl 78 5 (encL rInstr r3.list)]⟩)] M1) (fun K hK => ?_) ?_
  ·
   simp -dsimp -implicitDefEqProofs (maxDischargeDepth := 6) [gs_W0, List.set_set, gx131 hv1]
   refine (c66 hr2).app ?_; try simp -dsimp -implicitDefEqProofs (maxDischargeDepth := 6) [gs_W0, List.set_set, gx131 hv1]
   refine (c73 (W0 := W0.set r0_ [.int .i64 p0.colors, .osl 78 5 (encL rInstr p0.list)]) (r0_ := r0_) (H := hr3) (by simp [gs_W0, List.set_set, gx131 hv1]) (by simp [gs_W0, List.set_set, gx131 hv1])).mono ?_; rintro _ _ ⟨M1, fM1_0, rfl, rfl⟩; simp only [hp_next] at fM1_0
   try simp -dsimp -implicitDefEqProofs (maxDischargeDepth := 6) [gs_W0, List.set_set, gx131 hv1, hp_over_some, hp_over_none]
   exact hK _ _ ⟨M1, (by omega), rfl, rfl⟩
  rintro a σ ⟨M1, fM1_0, rfl, rfl⟩
  replace H := oi H; subst H
  refine Kp [] ?_
  refine AWP_ret ?_
  refine ⟨[], by simp [gs_W0], M1, by omega, ?_, ?_⟩
  ·
   simp [encL_nil]
  ·
   first | rfl | simp [List.set_set]
 ·
  replace H := ifF C1 H
  refine AWP_skip (Jn hK1 ?_)
  obtain ⟨r4, hr4, H⟩ := bindE H
  obtain ⟨r5, hr5, H⟩ := bindE H
  refine AWP_sr tok [] [0, 1] (fun a σ => ∃ M2 : Nat, N0 + 10 ≤ M2 ∧ a = [(0, .ptr w0 r0_ 0), (1, .int .i64 p1)] ∧ σ = hp E0 [(w0, some ⟨100, 2, W0.set r0_ [.int .i64 r5.colors, .osl 78 5 (encL rInstr r5.list)]⟩)] M2) (fun K hK => ?_) ?_
  ·
   simp -dsimp -implicitDefEqProofs (maxDischargeDepth := 6) [gs_W0, List.set_set]
   refine (c66 hr4).app ?_; try simp -dsimp -implicitDefEqProofs (maxDischargeDepth := 6) [gs_W0, List.set_set]
   refine (c73 (W0 := W0.set r0_ [.int .i64 p0.colors, .osl 78 5 (encL rInstr p0.list)]) (r0_ := r0_) (H := hr5) (by simp [gs_W0, List.set_set]) (by simp [gs_W0, List.set_set])).mono ?_; rintro _ _ ⟨M2, fM2_0, rfl, rfl⟩; simp only [hp_next] at fM2_0
   try simp -dsimp -implicitDefEqProofs (maxDischargeDepth := 6) [gs_W0, List.set_set, hp_over_some, hp_over_none]
   exact hK _ _ ⟨M2, (by omega), rfl, rfl⟩
  rintro a σ ⟨M2, fM2_0, rfl, rfl⟩
  obtain ⟨r6, hr6, H⟩ := bindE H
  have q0 : ∀ σ i, buildSliceA T 46 true i 1 [(0, .agg [.int .i64 16, .int .i64 0, .int .i64 2, .int .i64 7, .int .i64 (imul .i64 4 (isub .i64 p1 r5.colors))])] σ = some (.fsl (encL rInstr ([(⟨16, 0, 2, 7, imul .i64 4 (isub .i64 p1 r5.colors)⟩ : gInstr)] : List gInstr)), σ) := fun _ _ => rfl
  refine AWP_rt tok [9] [] (fun a σ => ∃ M3 : Nat, M2 + 11 ≤ M3 ∧ a = [] ∧ σ = hp E0 [(w0, some ⟨100, 2, W0.set r0_ [.int .i64 r6.colors, .osl 78 5 (encL rInstr r6.list)]⟩)] M3) (fun K hK => ?_) ?_
  ·
   simp -dsimp -implicitDefEqProofs (maxDischargeDepth := 6) [gs_W0, List.set_set, q0]
   refine (c73 (W0 := W0.set r0_ [.int .i64 r5.colors, .osl 78 5 (encL rInstr r5.list)]) (r0_ := r0_) (H := hr6) (by simp [gs_W0, List.set_set, q0]) (by simp [gs_W0, List.set_set, q0])).mono ?_; rintro _ _ ⟨M3, fM3_0, rfl, rfl⟩; simp only [hp_next] at fM3_0
   try simp -dsimp -implicitDefEqProofs (maxDischargeDepth := 6) [gs_W0, List.set_set, q0, hp_over_some, hp_over_none]
   exact hK _ _ ⟨M3, (by omega), rfl, rfl⟩
  rintro a σ ⟨M3, fM3_0, ha, rfl⟩
  replace H := oi H; subst H
  refine hKE _ _ ?_; rw [ha]
  refine Rc.kp [] [] rfl ?_
  refine Rc.mk ?_
  refine ⟨[], by simp [gs_W0], M3, by omega, ?_, ?_⟩
  ·
   simp [encL_nil]
  ·
   first | rfl | simp [List.set_set]
theorem c68 {p0 : gEmitter} {p1 : Int} {p2 : Int} {r : Int × gEmitter} (H : i_emitter_read p0 p1 p2 = some r) {σ : AHeap} {w0 : Nat} {W0 : List (List AV)} {r0_ : Nat} (q0 : σ.objs w0 = some ⟨100, 2, W0⟩) (g0 : W0[r0_]? = some [.int .i64 p0.colors, .osl 78 5 (encL rInstr p0.list)]) : ACalls Tryd.prog G 68 [.ptr w0 r0_ 0, .int .i64 p1, .int .i64 p2] σ (fun v σ' => ∃ M : Nat, σ.next ≤ M ∧ v = .int .i64 r.1 ∧ σ' = hp σ.objs [(w0, some ⟨100, 2, W0.set r0_ [.int .i64 r.2.colors, .osl 78 5 (encL rInstr r.2.list)]⟩)] M) := by
 refine ACalls_fr (L := [(w0, some ⟨100, 2, W0⟩)]) (Q1 := fun v σ' => ∃ M : Nat, σ.next ≤ M ∧ v = .int .i64 r.1 ∧ σ' = hp E0 [(w0, some ⟨100, 2, W0.set r0_ [.int .i64 r.2.colors, .osl 78 5 (encL rInstr r.2.list)]⟩)] M) (by simp [q0]) (fun hlt => ?_) ?_ ⟨_, Tryd.func68, rfl, rfl⟩
 rotate_left
 ·
  rintro v σ1 ⟨M, h0, rfl, rfl⟩
  exact ⟨_, M, rfl, by simp, by simp; try omega, M, h0, rfl, rfl⟩
 generalize σ.next = N0 at hlt ⊢
 have lw0 : w0 < N0 := hlt _ (.head _) rfl
 have gs_W0 : ∀ x, (W0.set r0_ x)[r0_]? = some x := gsetW g0
 rw [show W0 = W0.set r0_ [.int .i64 p0.colors, .osl 78 5 (encL rInstr p0.list)] from (set_same g0).symm]
 refine ACalls_fn tok Tryd.func68 (by kernel_rfl) rfl Tryd.ntmps68 Tryd.results68 rfl ?_
 simp only [argsA, Nat.reduceAdd, hp_next]
 unfold i_emitter_read at H
 refine Sx tok [] [0, 1, 2] (by intro K k; simp -dsimp -implicitDefEqProofs (maxDischargeDepth := 6) [gs_W0, List.set_set]; exact k) ?_
 refine AWP_sq [0, 1, 2] fun K1 hK1 => ?_
 refine Sx tok [] [0, 1, 2, 12] (by intro K k; simp -dsimp -implicitDefEqProofs (maxDischargeDepth := 6) [gs_W0, List.set_set]; exact k) ?_
 refine AWP_cond (ilt p1 p0.colors) rfl (fun C1 => ?_) (fun C1 => ?_)
 ·
  replace H := ifT C1 H
  obtain ⟨v1, hv1, H⟩ := bindE H
  refine Sx tok [] [6] (by intro K k; simp -dsimp -implicitDefEqProofs (maxDischargeDepth := 6) [gs_W0, List.set_set, gx131 hv1]; exact k) ?_
  replace H := oi H; subst H
  refine Kp [6] ?_
  refine AWP_ret ?_
  refine ⟨[.int .i64 v1], by simp [gs_W0], N0 + 11, by omega, ?_, ?_⟩
  ·
   simp [encL_nil]
  ·
   first | rfl | simp [List.set_set]
 ·
  replace H := ifF C1 H
  refine AWP_skip (Jn hK1 ?_)
  obtain ⟨r2, hr2, H⟩ := bindE H
  have q0 : ∀ σ i, buildSliceA T 46 true i 1 [(0, .agg [.int .i64 14, .int .i64 p2, .int .i64 2, .int .i64 0, .int .i64 (imul .i64 4 (isub .i64 p1 p0.colors))])] σ = some (.fsl (encL rInstr ([(⟨14, p2, 2, 0, imul .i64 4 (isub .i64 p1 p0.colors)⟩ : gInstr)] : List gInstr)), σ) := fun _ _ => rfl
  refine AWP_sr tok [10] [2] (fun a σ => ∃ M1 : Nat, N0 + 19 ≤ M1 ∧ a = [(2, .int .i64 p2)] ∧ σ = hp E0 [(w0, some ⟨100, 2, W0.set r0_ [.int .i64 r2.colors, .osl 78 5 (encL rInstr r2.list)]⟩)] M1) (fun K hK => ?_) ?_
  ·
   simp -dsimp -implicitDefEqProofs (maxDischargeDepth := 6) [gs_W0, List.set_set, q0]
   refine (c73 (W0 := W0.set r0_ [.int .i64 p0.colors, .osl 78 5 (encL rInstr p0.list)]) (r0_ := r0_) (H := hr2) (by simp [gs_W0, List.set_set, q0]) (by simp [gs_W0, List.set_set, q0])).mono ?_; rintro _ _ ⟨M1, fM1_0, rfl, rfl⟩; simp only [hp_next] at fM1_0
   try simp -dsimp -implicitDefEqProofs (maxDischargeDepth := 6) [gs_W0, List.set_set, q0, hp_over_some, hp_over_none]
   exact hK _ _ ⟨M1, (by omega), rfl, rfl⟩
  rintro a σ ⟨M1, fM1_0, rfl, rfl⟩
  refine Sx tok [] [6] (by intro K k; simp -dsimp -implicitDefEqProofs (maxDischargeDepth := 6) [gs_W0, List.set_set]; exact k) ?_
  replace H := oi H; subst H
  refine Kp [6] ?_
  refine AWP_ret ?_
  refine ⟨[.int .i64 p2], by simp [gs_W0], M1 + 2, by omega, ?_, ?_⟩
  ·
   simp [encL_nil]
  ·
   first | rfl | simp [List.set_set]
theorem c69 {p0 : Int} {pf0 : Int} {r : (List gInstr)} (H : i_quadInstrs_2 p0 pf0 = some r) : APure Tryd.prog G 69 [.int .i64 p0, .fptr [.int .i64 pf0] 0] (.fsl (encL rInstr r)) := by
 refine APure_fn (fun N0 => ?_) (by simp)
 refine ACalls_fn tok Tryd.func69 (by kernel_rfl) rfl Tryd.ntmps69 Tryd.results69 rfl ?_
 simp only [argsA, Nat.reduceAdd, hp_next]
 unfold i_quadInstrs_2 at H
 refine S0 tok [] [0, 1] ?_
 obtain ⟨r1, hr1, H⟩ := bindE H
 have q0 : ∀ σ i, buildSliceA T 46 true i 1 [(0, .agg [.int .i64 r1.Op, .int .i64 r1.Rd, .int .i64 r1.Rs, .int .i64 r1.Rt, .int .i64 r1.Imm])] σ = some (.fsl (encL rInstr ([r1] : List gInstr)), σ) := fun _ _ => rfl
 refine Sx tok [3] [3] (by intro K k; (repeat first | simp -dsimp -implicitDefEqProofs (maxDischargeDepth := 6) [q0] | refine (c70 hr1).app ?_); exact k) ?_
 replace H := oi H; subst H; exact AWP_ret ⟨_, rfl, 4, by simp [encL_nil]⟩
theorem c65_i_quadInstrs_2 {p0 : gEmitter} {p1 : Int} {p2_0 : Int} {r : gEmitter} (H : i_emitter_write_i_quadInstrs_2 p0 p1 p2_0 = some r) {σ : AHeap} {w0 : Nat} {W0 : List (List AV)} {r0_ : Nat} (q0 : σ.objs w0 = some ⟨100, 2, W0⟩) (g0 : W0[r0_]? = some [.int .i64 p0.colors, .osl 78 5 (encL rInstr p0.list)]) : ACalls Tryd.prog G 65 [.ptr w0 r0_ 0, .int .i64 p1, .clo 69 [] [.fptr [.int .i64 p2_0] 0]] σ (fun v σ' => ∃ M : Nat, σ.next ≤ M ∧ v = .tup [] ∧ σ' = hp σ.objs [(w0, some ⟨100, 2, W0.set r0_ [.int .i64 r.colors, .osl 78 5 (encL rInstr r.list)]⟩)] M) := by
 refine ACalls_fr (L := [(w0, some ⟨100, 2, W0⟩)]) (Q1 := fun v σ' => ∃ M : Nat, σ.next ≤ M ∧ v = .tup [] ∧ σ' = hp E0 [(w0, some ⟨100, 2, W0.set r0_ [.int .i64 r.colors, .osl 78 5 (encL rInstr r.list)]⟩)] M) (by simp [q0]) (fun hlt => ?_) ?_ ⟨_, Tryd.func65, rfl, rfl⟩
 rotate_left
 ·
  rintro v σ1 ⟨M, h0, rfl, rfl⟩
  exact ⟨_, M, rfl, by simp, by simp; try omega, M, h0, rfl, rfl⟩
 generalize σ.next = N0 at hlt ⊢
 have lw0 : w0 < N0 := hlt _ (.head _) rfl
 have gs_W0 : ∀ x, (W0.set r0_ x)[r0_]? = some x := gsetW g0
 rw [show W0 = W0.set r0_ [.int .i64 p0.colors, .osl 78 5 (encL rInstr p0.list)] from (set_same g0).symm]
 refine ACalls_fn tok Tryd.func65 (by kernel_rfl) rfl Tryd.ntmps65 Tryd.results65 rfl ?_
 simp only [argsA, Nat.reduceAdd, hp_next]
 unfold i_emitter_write_i_quadInstrs_2 at H
 refine AWP_end [] fun KE hKE => ?_
 refine AWP_sq [0, 1, 2] fun K1 hK1 => ?_
 refine Sx tok [] [0, 1, 2, 11] (by intro K k; simp -dsimp -implicitDefEqProofs (maxDischargeDepth := 6) [gs_W0, List.set_set]; exact k) ?_
 refine AWP_cond (ilt p1 p0.colors) rfl (fun C1 => ?_) (fun C1 => ?_)
 ·
  replace H := ifT C1 H
  obtain ⟨v1, hv1, H⟩ := bindE H
  obtain ⟨r2, hr2, H⟩ := bindE H
  obtain ⟨r3, hr3, H⟩ := bindE H
  refine AWP_sr tok [] [] (fun a σ => ∃ M1 : Nat, N0 + 13 ≤ M1 ∧ a = [] ∧ σ = hp E0 [(w0, some ⟨100, 2, W0.set r0_ [.int .i64 r3.colors, .osl 78 5 (encL rInstr r3.list)]⟩)] M1) (fun K hK => ?_) ?_
  ·
   simp -dsimp -implicitDefEqProofs (maxDischargeDepth := 6) [gs_W0, List.set_set, gx131 hv1]
   refine (c69 hr2).app ?_; try simp -dsimp -implicitDefEqProofs (maxDischargeDepth := 6) [gs_W0, List.set_set, gx131 hv1]
   refine (c73 (W0 := W0.set r0_ [.int .i64 p0.colors, .osl 78 5 (encL rInstr p0.list)]) (r0_ := r0_) (H := hr3) (by simp [gs_W0, List.set_set, gx131 hv1]) (by simp [gs_W0, List.set_set, gx131 hv1])).mono ?_; rintro _ _ ⟨M1, fM1_0, rfl, rfl⟩; simp only [hp_next] at fM1_0
   try simp -dsimp -implicitDefEqProofs (maxDischargeDepth := 6) [gs_W0, List.set_set, gx131 hv1, hp_over_some, hp_over_none]
   exact hK _ _ ⟨M1, (by omega), rfl, rfl⟩
  rintro a σ ⟨M1, fM1_0, rfl, rfl⟩
  replace H := oi H; subst H
  refine Kp [] ?_
  refine AWP_ret ?_
  refine ⟨[], by simp [gs_W0], M1, by omega, ?_, ?_⟩
  ·
   simp [encL_nil]
  ·
   first | rfl | simp [List.set_set]
 ·
  replace H := ifF C1 H
  refine AWP_skip (Jn hK1 ?_)
  obtain ⟨r4, hr4, H⟩ := bindE H
  obtain ⟨r5, hr5, H⟩ := bindE H
  refine AWP_sr tok [] [0, 1] (fun a σ => ∃ M2 : Nat, N0 + 10 ≤ M2 ∧ a = [(0, .ptr w0 r0_ 0), (1, .int .i64 p1)] ∧ σ = hp E0 [(w0, some ⟨100, 2, W0.set r0_ [.int .i64 r5.colors, .osl 78 5 (encL rInstr r5.list)]⟩)] M2) (fun K hK => ?_) ?_
  ·
   simp -dsimp -implicitDefEqProofs (maxDischargeDepth := 6) [gs_W0, List.set_set]
   refine (c69 hr4).app ?_; try simp -dsimp -implicitDefEqProofs (maxDischargeDepth := 6) [gs_W0, List.set_set]
   refine (c73 (W0 := W0.set r0_ [.int .i64 p0.colors, .osl 78 5 (encL rInstr p0.list)]) (r0_ := r0_) (H := hr5) (by simp [gs_W0, List.set_set]) (by simp [gs_W0, List.set_set])).mono ?_; rintro _ _ ⟨M2, fM2_0, rfl, rfl⟩; simp only [hp_next] at fM2_0
   try simp -dsimp -implicitDefEqProofs (maxDischargeDepth := 6) [gs_W0, List.set_set, hp_over_some, hp_over_none]
   exact hK _ _ ⟨M2, (by omega), rfl, rfl⟩
  rintro a σ ⟨M2, fM2_0, rfl, rfl⟩
  obtain ⟨r6, hr6, H⟩ := bindE H
  have q0 : ∀ σ i, buildSliceA T 46 true i 1 [(0, .agg [.int .i64 16, .int .i64 0, .int .i64 2, .int .i64 7, .int .i64 (imul .i64 4 (isub .i64 p1 r5.colors))])] σ = some (.fsl (encL rInstr ([(⟨16, 0, 2, 7, imul .i64 4 (isub .i64 p1 r5.colors)⟩ : gInstr)] : List gInstr)), σ) := fun _ _ => rfl
  refine AWP_rt tok [9] [] (fun a σ => ∃ M3 : Nat, M2 + 11 ≤ M3 ∧ a = [] ∧ σ = hp E0 [(w0, some ⟨100, 2, W0.set r0_ [.int .i64 r6.colors, .osl 78 5 (encL rInstr r6.list)]⟩)] M3) (fun K hK => ?_) ?_
  ·
   simp -dsimp -implicitDefEqProofs (maxDischargeDepth := 6) [gs_W0, List.set_set, q0]
   refine (c73 (W0 := W0.set r0_ [.int .i64 r5.colors, .osl 78 5 (encL rInstr r5.list)]) (r0_ := r0_) (H := hr6) (by simp [gs_W0, List.set_set, q0]) (by simp [gs_W0, List.set_set, q0])).mono ?_; rintro _ _ ⟨M3, fM3_0, rfl, rfl⟩; simp only [hp_next] at fM3_0
   try simp -dsimp -implicitDefEqProofs (maxDischargeDepth := 6) [gs_W0, List.set_set, q0, hp_over_some, hp_over_none]
   exact hK _ _ ⟨M3, (by omega), rfl, rfl⟩
  rintro a σ ⟨M3, fM3_0, ha, rfl⟩
  replace H := oi H; subst H
  refine hKE _ _ ?_; rw [ha]
  refine Rc.kp [] [] rfl ?_
  refine Rc.mk ?_
  refine ⟨[], by simp [gs_W0], M3, by omega, ?_, ?_⟩
  ·
   simp [encL_nil]
  ·
   first | rfl | simp [List.set_set]
theorem c71 {p0 : Int} {pf0 : gQuad} {pf1 : Int} {pf2 : Int} {r : (List gInstr)} (H : i_quadInstrs_3 p0 pf0 pf1 pf2 = some r) : APure Tryd.prog G 71 [.int .i64 p0, .fptr [.int .i64 pf0.Op, .int .i64 pf0.Dst, .int .i64 pf0.A, .int .i64 pf0.B, .int .i64 pf0.N] 0, .fptr [.int .i64 pf1] 0, .fptr [.int .i64 pf2] 0] (.fsl (encL rInstr r)) := by
 refine APure_fn (fun N0 => ?_) (by simp)
 refine ACalls_fn tok Tryd.func71 (by kernel_rfl) rfl Tryd.ntmps71 Tryd.results71 rfl ?_
 simp only [argsA, Nat.reduceAdd, hp_next]
 unfold i_quadInstrs_3 at H
 refine S0 tok [] [0, 1, 2, 3] ?_
 obtain ⟨v1, hv1, H⟩ := bindE H
 obtain ⟨l2, hl2, H⟩ := bindE H
 have q0 : ∀ σ i, buildSliceA T 46 false i 1 [(0, .agg [.int .i64 v1, .int .i64 p0, .int .i64 pf1, .int .i64 pf2, .int .i64 0])] σ = some (.sl i 0 (List.length l2), σ.put i ⟨78, 5, encL rInstr l2⟩) := by rw [← Option.some.inj hl2]; intro _ _; rfl
 refine Sd tok tokM [] [9] [0, 1, 2, 3, 4, 5, 6, 7, 8, 9, 10] [0, 1, 6] (by
  intro K k
  simp only [pickL, nthO_succ, nthO_zero]
  simp -dsimp -implicitDefEqProofs (maxDischargeDepth := 6) [gx106 hv1, q0]
  exact k) ?_
 refine AWP_sq [6] fun K1 hK1 => ?_
 refine S0 tok [] [0, 6, 19] ?_
 refine AWP_cond (ieq pf0.N 4) rfl (fun C1 => ?_) (fun C1 => ?_)
 ·
  replace H := ifT C1 H
  obtain ⟨l3, hl3, H⟩ := bindE H
  have q1 : ∀ σ i, buildSliceA T 46 true i 1 [(0, .agg [.int .i64 13, .int .i64 p0, .int .i64 p0, .int .i64 0, .int .i64 1])] σ = some (.fsl (encL rInstr ([(⟨13, p0, p0, 0, 1⟩ : gInstr)] : List gInstr)), σ) := fun _ _ => rfl
  refine AWP_rt tok [4] [6] (fun a σ => a = [(6, .sl (N0 + 20) 0 l3.length)] ∧ σ = hp E0 [(N0 + 20, some ⟨78, 5, encL rInstr l3⟩)] (N0 + 22)) (fun K hK => ?_) ?_
  ·
   simp -dsimp -implicitDefEqProofs (maxDischargeDepth := 6) [q1, app46 hl3]
   exact hK _ _ ⟨rfl, rfl⟩
  rintro a σ ⟨ha, rfl⟩
  refine hK1 _ _ ?_; rw [ha]
  refine gFrz Rc_ref 4 [N0 + 20] [] [(6, .fsl (encL rInstr l3))] (by simp) (cutD (by simp)) ?_
  refine Rc.mk ?_
  refine S0 tok [] [5] ?_
  replace H := oi H; subst H; exact AWP_ret ⟨_, rfl, 4, by simp [encL_nil]⟩
 ·
  replace H := ifF C1 H
  refine AWP_skip (Jn hK1 ?_)
  refine S0 tok [] [5] ?_
  replace H := oi H; subst H; exact AWP_ret ⟨_, rfl, 4, by simp [encL_nil]⟩
theorem c65_i_quadInstrs_3 {p0 : gEmitter} {p1 : Int} {p2_0 : gQuad} {p2_1 : Int} {p2_2 : Int} {r : gEmitter} (H : i_emitter_write_i_quadInstrs_3 p0 p1 p2_0 p2_1 p2_2 = some r) {σ : AHeap} {w0 : Nat} {W0 : List (List AV)} {r0_ : Nat} (q0 : σ.objs w0 = some ⟨100, 2, W0⟩) (g0 : W0[r0_]? = some [.int .i64 p0.colors, .osl 78 5 (encL rInstr p0.list)]) : ACalls Tryd.prog G 65 [.ptr w0 r0_ 0, .int .i64 p1, .clo 71 [] [.fptr [.int .i64 p2_0.Op, .int .i64 p2_0.Dst, .int .i64 p2_0.A, .int .i64 p2_0.B, .int .i64 p2_0.N] 0, .fptr [.int .i64 p2_1] 0, .fptr [.int .i64 p2_2] 0]] σ (fun v σ' => ∃ M : Nat, σ.next ≤ M ∧ v = .tup [] ∧ σ' = hp σ.objs [(w0, some ⟨100, 2, W0.set r0_ [.int .i64 r.colors, .osl 78 5 (encL rInstr r.list)]⟩)] M) := by
 refine ACalls_fr (L := [(w0, some ⟨100, 2, W0⟩)]) (Q1 := fun v σ' => ∃ M : Nat, σ.next ≤ M ∧ v = .tup [] ∧ σ' = hp E0 [(w0, some ⟨100, 2, W0.set r0_ [.int .i64 r.colors, .osl 78 5 (encL rInstr r.list)]⟩)] M) (by simp [q0]) (fun hlt => ?_) ?_ ⟨_, Tryd.func65, rfl, rfl⟩
 rotate_left
 ·
  rintro v σ1 ⟨M, h0, rfl, rfl⟩
  exact ⟨_, M, rfl, by simp, by simp; try omega, M, h0, rfl, rfl⟩
 generalize σ.next = N0 at hlt ⊢
 have lw0 : w0 < N0 := hlt _ (.head _) rfl
 have gs_W0 : ∀ x, (W0.set r0_ x)[r0_]? = some x := gsetW g0
 rw [show W0 = W0.set r0_ [.int .i64 p0.colors, .osl 78 5 (encL rInstr p0.list)] from (set_same g0).symm]
 refine ACalls_fn tok Tryd.func65 (by kernel_rfl) rfl Tryd.ntmps65 Tryd.results65 rfl ?_
 simp only [argsA, Nat.reduceAdd, hp_next]
 unfold i_emitter_write_i_quadInstrs_3 at H
 refine AWP_end [] fun KE hKE => ?_
 refine AWP_sq [0, 1, 2] fun K1 hK1 => ?_
 refine Sx tok [] [0, 1, 2, 11] (by intro K k; simp -dsimp -implicitDefEqProofs (maxDischargeDepth := 6) [gs_W0, List.set_set]; exact k) ?_
 refine AWP_cond (ilt p1 p0.colors) rfl (fun C1 => ?_) (fun C1 => ?_)
 ·
  replace H := ifT C1 H
  obtain ⟨v1, hv1, H⟩ := bindE H
  obtain ⟨r2, hr2, H⟩ := bindE H
  obtain ⟨r3, hr3, H⟩ := bindE H
  refine AWP_sr tok [] [] (fun a σ => ∃ M1 : Nat, N0 + 13 ≤ M1 ∧ a = [] ∧ σ = hp E0 [(w0, some ⟨100, 2, W0.set r0_ [.int .i64 r3.colors, .osl 78 5 (encL rInstr r3.list)]⟩)] M1) (fun K hK => ?_) ?_
  ·
   simp -dsimp -implicitDefEqProofs (maxDischargeDepth := 6) [gs_W0, List.set_set, gx131 hv1]
   refine (c71 hr2).app ?_; try simp -dsimp -implicitDefEqProofs (maxDischargeDepth := 6) [gs_W0, List.set_set, gx131 hv1]
   refine (c73 (W0 := W0.set r0_ [.int .i64 p0.colors, .osl 78 5 (encL rInstr p0.list)]) (r0_ := r0_) (H := hr3) (by simp [gs_W0, List.set_set, gx131 hv1]) (by simp [gs_W0, List.set_set, gx131 hv1])).mono ?_; rintro _ _ ⟨M1, fM1_0, rfl, rfl⟩; simp only [hp_next] at fM1_0
   try simp -dsimp -implicitDefEqProofs (maxDischargeDepth := 6) [gs_W0, List.set_set, gx131 hv1, hp_over_some, hp_over_none]
   exact hK _ _ ⟨M1, (by omega), rfl, rfl⟩
  rintro a σ ⟨M1, fM1_0, rfl, rfl⟩
  replace H := oi H; subst H
  refine Kp [] ?_
  refine AWP_ret ?_
  refine ⟨[], by simp [gs_W0], M1, by omega, ?_, ?_⟩
  ·
   simp [encL_nil]
  ·
   first | rfl | simp [List.set_set]
 ·
  replace H := ifF C1 H
  refine AWP_skip (Jn hK1 ?_)
  obtain ⟨r4, hr4, H⟩ := bindE H
  obtain ⟨r5, hr5, H⟩ := bindE H
  refine AWP_sr tok [] [0, 1] (fun a σ => ∃ M2 : Nat, N0 + 10 ≤ M2 ∧ a = [(0, .ptr w0 r0_ 0), (1, .int .i64 p1)] ∧ σ = hp E0 [(w0, some ⟨100, 2, W0.set r0_ [.int .i64 r5.colors, .osl 78 5 (encL rInstr r5.list)]⟩)] M2) (fun K hK => ?_) ?_
  ·
   simp -dsimp -implicitDefEqProofs (maxDischargeDepth := 6) [gs_W0, List.set_set]
   refine (c71 hr4).app ?_; try simp -dsimp -implicitDefEqProofs (maxDischargeDepth := 6) [gs_W0, List.set_set]
   refine (c73 (W0 := W0.set r0_ [.int .i64 p0.colors, .osl 78 5 (encL rInstr p0.list)]) (r0_ := r0_) (H := hr5) (by simp [gs_W0, List.set_set]) (by simp [gs_W0, List.set_set])).mono ?_; rintro _ _ ⟨M2, fM2_0, rfl, rfl⟩; simp only [hp_next] at fM2_0
   try simp -dsimp -implicitDefEqProofs (maxDischargeDepth := 6) [gs_W0, List.set_set, hp_over_some, hp_over_none]
   exact hK _ _ ⟨M2, (by omega), rfl, rfl⟩
  rintro a σ ⟨M2, fM2_0, rfl, rfl⟩
  obtain ⟨r6, hr6, H⟩ := bindE H
  have q0 : ∀ σ i, buildSliceA T 46 true i 1 [(0, .agg [.int .i64 16, .int .i64 0, .int .i64 2, .int .i64 7, .int .i64 (imul .i64 4 (isub .i64 p1 r5.colors))])] σ = some (.fsl (encL rInstr ([(⟨16, 0, 2, 7, imul .i64 4 (isub .i64 p1 r5.colors)⟩ : gInstr)] : List gInstr)), σ) := fun _ _ => rfl
  refine AWP_rt tok [9] [] (fun a σ => ∃ M3 : Nat, M2 + 11 ≤ M3 ∧ a = [] ∧ σ = hp E0 [(w0, some ⟨100, 2, W0.set r0_ [.int .i64 r6.colors, .osl 78 5 (encL rInstr r6.list)]⟩)] M3) (fun K hK => ?_) ?_
  ·
   simp -dsimp -implicitDefEqProofs (maxDischargeDepth := 6) [gs_W0, List.set_set, q0]
   refine (c73 (W0 := W0.set r0_ [.int .i64 r5.colors, .osl 78 5 (encL rInstr r5.list)]) (r0_ := r0_) (H := hr6) (by simp [gs_W0, List.set_set, q0]) (by simp [gs_W0, List.set_set, q0])).mono ?_; rintro _ _ ⟨M3, fM3_0, rfl, rfl⟩; simp only [hp_next] at fM3_0
   try simp -dsimp -implicitDefEqProofs (maxDischargeDepth := 6) [gs_W0, List.set_set, q0, hp_over_some, hp_over_none]
   exact hK _ _ ⟨M3, (by omega), rfl, rfl⟩
  rintro a σ ⟨M3, fM3_0, ha, rfl⟩
  replace H := oi H; subst H
  refine hKE _ _ ?_; rw [ha]
  refine Rc.kp [] [] rfl ?_
  refine Rc.mk ?_
  refine ⟨[], by simp [gs_W0], M3, by omega, ?_, ?_⟩
  ·
   simp [encL_nil]
  ·
   first | rfl | simp [List.set_set]
theorem c73_c0_1 {p0 : gEmitter} {p1 : (List gInstr)} {r : gEmitter} (H : i_emitter_emit_c0_1 p0 p1 = some r) {σ : AHeap} {w0 : Nat} {W0 : List (List AV)} {r0_ : Nat} {w0c1 : Nat} (q0 : σ.objs w0 = some ⟨100, 2, W0⟩) (g0 : W0[r0_]? = some [.int .i64 p0.colors, .sl w0c1 0 p0.list.length]) (q0c1 : σ.objs w0c1 = some ⟨78, 5, encL rInstr p0.list⟩) (d0_1 : ¬ w0 = w0c1) : ACalls Tryd.prog G 73 [.ptr w0 r0_ 0, .fsl (encL rInstr p1)] σ (fun v σ' => ∃ M : Nat, σ.next ≤ M ∧ v = .tup [] ∧ σ' = hp σ.objs [(w0, some ⟨100, 2, W0.set r0_ [.int .i64 r.colors, .osl 78 5 (encL rInstr r.list)]⟩), (w0c1, none)] M) := by
 refine ACalls_fr (L := [(w0, some ⟨100, 2, W0⟩), (w0c1, some ⟨78, 5, encL rInstr p0.list⟩)]) (Q1 := fun v σ' => ∃ M : Nat, σ.next ≤ M ∧ v = .tup [] ∧ σ' = hp E0 [(w0, some ⟨100, 2, W0.set r0_ [.int .i64 r.colors, .osl 78 5 (encL rInstr r.list)]⟩), (w0c1, none)] M) (by simp [q0, q0c1]) (fun hlt => ?_) ?_ ⟨_, Tryd.func73, rfl, rfl⟩
 rotate_left
 ·
  rintro v σ1 ⟨M, h0, rfl, rfl⟩
  exact ⟨_, M, rfl, by simp, by simp; try omega, M, h0, rfl, rfl⟩
 generalize σ.next = N0 at hlt ⊢
 have lw0 : w0 < N0 := hlt _ (.head _) rfl
 have lw0c1 : w0c1 < N0 := hlt _ (.tail _ (.head _)) rfl
 have gs_W0 : ∀ x, (W0.set r0_ x)[r0_]? = some x := gsetW g0
 rw [show W0 = W0.set r0_ [.int .i64 p0.colors, .sl w0c1 0 p0.list.length] from (set_same g0).symm]
 refine ACalls_fn tok Tryd.func73 (by kernel_rfl) rfl Tryd.ntmps73 Tryd.results73 rfl ?_
 simp only [argsA, Nat.reduceAdd, hp_next]
 unfold i_emitter_emit_c0_1 at H
 refine AWP_end [] fun KE hKE => ?_
 obtain ⟨l1, hl1, H⟩ := bindE H
 refine AWP_rt tok [] [] (fun a σ => a = [] ∧ σ = hp E0 [(w0, some ⟨100, 2, W0.set r0_ [.int .i64 p0.colors, .sl (N0 + 6) 0 l1.length]⟩), (N0 + 6, some ⟨78, 5, encL rInstr l1⟩)] (N0 + 10)) (fun K hK => ?_) ?_
 ·
  have e0 := nQ w0 w0c1
  have e1 := nQ w0 (N0 + 6)
  have e2 := nQ w0c1 (N0 + 6)
  simp -dsimp -implicitDefEqProofs (maxDischargeDepth := 6) [e0, e1, e2, gs_W0, List.set_set, app46 hl1]
  exact hK _ _ ⟨rfl, rfl⟩
 rintro a σ ⟨ha, rfl⟩
 replace H := oi H; subst H
 refine hKE _ _ ?_; rw [ha]
 refine Rc.kp [] [] rfl ?_
 refine gP Rc_ref w0 r0_ 1 ?_ (hr := by exact gs_W0 _)
 refine Rc.mk ?_
 refine ⟨[], by simp [gs_W0], N0 + 10, by omega, ?_, ?_⟩
 ·
  simp [encL_nil]
 ·
  symm; first | exact hp_tail (L := [(w0, some ⟨100, 2, W0.set r0_ [.int .i64 p0.colors, .osl 78 5 (encL rInstr l1)]⟩)]) | (simp only [List.set_set]; exact hp_tail (L := [(w0, some ⟨100, 2, W0.set r0_ [.int .i64 p0.colors, .osl 78 5 (encL rInstr l1)]⟩)]))
theorem c72 {p0 : gEmitter} {p1 : Int} {r : gEmitter} (H : i_emitter_jump p0 p1 = some r) {σ : AHeap} {w0 : Nat} {W0 : List (List AV)} {r0_ : Nat} (q0 : σ.objs w0 = some ⟨100, 2, W0⟩) (g0 : W0[r0_]? = some [.int .i64 p0.colors, .osl 78 5 (encL rInstr p0.list)]) : ACalls Tryd.prog G 72 [.ptr w0 r0_ 0, .int .i64 p1] σ (fun v σ' => ∃ M : Nat, σ.next ≤ M ∧ v = .tup [] ∧ σ' = hp σ.objs [(w0, some ⟨100, 2, W0.set r0_ [.int .i64 r.colors, .osl 78 5 (encL rInstr r.list)]⟩)] M) := by
 refine ACalls_fr (L := [(w0, some ⟨100, 2, W0⟩)]) (Q1 := fun v σ' => ∃ M : Nat, σ.next ≤ M ∧ v = .tup [] ∧ σ' = hp E0 [(w0, some ⟨100, 2, W0.set r0_ [.int .i64 r.colors, .osl 78 5 (encL rInstr r.list)]⟩)] M) (by simp [q0]) (fun hlt => ?_) ?_ ⟨_, Tryd.func72, rfl, rfl⟩
 rotate_left
 ·
  rintro v σ1 ⟨M, h0, rfl, rfl⟩
  exact ⟨_, M, rfl, by simp, by simp; try omega, M, h0, rfl, rfl⟩
 generalize σ.next = N0 at hlt ⊢
 have lw0 : w0 < N0 := hlt _ (.head _) rfl
 have gs_W0 : ∀ x, (W0.set r0_ x)[r0_]? = some x := gsetW g0
 rw [show W0 = W0.set r0_ [.int .i64 p0.colors, .osl 78 5 (encL rInstr p0.list)] from (set_same g0).symm]
 refine ACalls_fn tok Tryd.func72 (by kernel_rfl) rfl Tryd.ntmps72 Tryd.results72 rfl ?_
 simp only [argsA, Nat.reduceAdd, hp_next]
 unfold i_emitter_jump at H
 refine AWP_end [] fun KE hKE => ?_
 refine gU AWP_ref w0 r0_ 1 ?_ (hr := by exact gs_W0 _)
 obtain ⟨r1, hr1, H⟩ := bindE H
 have q0 : ∀ σ i, buildSliceA T 46 true i 1 [(0, .agg [.int .i64 20, .int .i64 0, .int .i64 0, .int .i64 0, .int .i64 (isub .i64 p1 (imul .i64 4 (ilen p0.list)))])] σ = some (.fsl (encL rInstr ([(⟨20, 0, 0, 0, isub .i64 p1 (imul .i64 4 (ilen p0.list))⟩ : gInstr)] : List gInstr)), σ) := fun _ _ => rfl
 refine AWP_rt tok [10] [] (fun a σ => ∃ M1 : Nat, N0 + 13 ≤ M1 ∧ a = [] ∧ σ = hp E0 [(w0, some ⟨100, 2, W0.set r0_ [.int .i64 r1.colors, .osl 78 5 (encL rInstr r1.list)]⟩)] M1) (fun K hK => ?_) ?_
 ·
  have e0 := nQ w0 N0
  simp -dsimp -implicitDefEqProofs (maxDischargeDepth := 6) [e0, gs_W0, List.set_set, q0]
  refine (c73_c0_1 (w0c1 := N0) (W0 := W0.set r0_ [.int .i64 p0.colors, .sl N0 0 p0.list.length]) (r0_ := r0_) (H := hr1) (by simp [e0, gs_W0, List.set_set, q0]) (by simp [e0, gs_W0, List.set_set, q0]) (by simp [e0, gs_W0, List.set_set, q0]) (by simp [e0, gs_W0, List.set_set, q0])).mono ?_; rintro _ _ ⟨M1, fM1_0, rfl, rfl⟩; simp only [hp_next] at fM1_0
  try simp -dsimp -implicitDefEqProofs (maxDischargeDepth := 6) [e0, gs_W0, List.set_set, q0, hp_over_some, hp_over_none]
  exact hK _ _ ⟨M1, (by omega), rfl, rfl⟩
 rintro a σ ⟨M1, fM1_0, ha, rfl⟩
 replace H := oi H; subst H
 refine hKE _ _ ?_; rw [ha]
 refine Rc.kp [] [] rfl ?_
 refine Rc.mk ?_
 refine ⟨[], by simp [gs_W0], M1, by omega, ?_, ?_⟩
 ·
  simp [encL_nil]
 ·
  first | rfl | simp [List.set_set]
theorem c74 {p0 : gEmitter} {p1 : Int} {r : gEmitter} (H : i_emitter_call p0 p1 = some r) {σ : AHeap} {w0 : Nat} {W0 : List (List AV)} {r0_ : Nat} (q0 : σ.objs w0 = some ⟨100, 2, W0⟩) (g0 : W0[r0_]? = some [.int .i64 p0.colors, .osl 78 5 (encL rInstr p0.list)]) : ACalls Tryd.prog G 74 [.ptr w0 r0_ 0, .int .i64 p1] σ (fun v σ' => ∃ M : Nat, σ.next ≤ M ∧ v = .tup [] ∧ σ' = hp σ.objs [(w0, some ⟨100, 2, W0.set r0_ [.int .i64 r.colors, .osl 78 5 (encL rInstr r.list)]⟩)] M) := by
 refine ACalls_fr (L := [(w0, some ⟨100, 2, W0⟩)]) (Q1 := fun v σ' => ∃ M : Nat, σ.next ≤ M ∧ v = .tup [] ∧ σ' = hp E0 [(w0, some ⟨100, 2, W0.set r0_ [.int .i64 r.colors, .osl 78 5 (encL rInstr r.list)]⟩)] M) (by simp [q0]) (fun hlt => ?_) ?_ ⟨_, Tryd.func74, rfl, rfl⟩
 rotate_left
 ·
  rintro v σ1 ⟨M, h0, rfl, rfl⟩
  exact ⟨_, M, rfl, by simp, by simp; try omega, M, h0, rfl, rfl⟩
 generalize σ.next = N0 at hlt ⊢
 have lw0 : w0 < N0 := hlt _ (.head _) rfl
 have gs_W0 : ∀ x, (W0.set r0_ x)[r0_]? = some x := gsetW g0
 rw [show W0 = W0.set r0_ [.int .i64 p0.colors, .osl 78 5 (encL rInstr p0.list)] from (set_same g0).symm]
 refine ACalls_fn tok Tryd.func74 (by kernel_rfl) rfl Tryd.ntmps74 Tryd.results74 rfl ?_
 simp only [argsA, Nat.reduceAdd, hp_next]
 unfold i_emitter_call at H
 refine AWP_end [] fun KE hKE => ?_
 obtain ⟨r1, hr1, H⟩ := bindE H
 obtain ⟨r2, hr2, H⟩ := bindE H
 have q0 : ∀ σ i, buildSliceA T 46 true i 2 [(0, .agg [.int .i64 r1.Op, .int .i64 r1.Rd, .int .i64 r1.Rs, .int .i64 r1.Rt, .int .i64 r1.Imm]), (1, .agg [.int .i64 15, .int .i64 1, .int .i64 0, .int .i64 0, .int .i64 0])] σ = some (.fsl (encL rInstr ([r1, (⟨15, 1, 0, 0, 0⟩ : gInstr)] : List gInstr)), σ) := fun _ _ => rfl
 refine AWP_rt tok [4] [] (fun a σ => ∃ M1 : Nat, N0 + 6 ≤ M1 ∧ a = [] ∧ σ = hp E0 [(w0, some ⟨100, 2, W0.set r0_ [.int .i64 r2.colors, .osl 78 5 (encL rInstr r2.list)]⟩)] M1) (fun K hK => ?_) ?_
 ·
  simp -dsimp -implicitDefEqProofs (maxDischargeDepth := 6) [gs_W0, List.set_set, q0]
  refine (c70 hr1).app ?_; try simp -dsimp -implicitDefEqProofs (maxDischargeDepth := 6) [gs_W0, List.set_set, q0]
  refine (c73 (W0 := W0.set r0_ [.int .i64 p0.colors, .osl 78 5 (encL rInstr p0.list)]) (r0_ := r0_) (H := hr2) (by simp [gs_W0, List.set_set, q0]) (by simp [gs_W0, List.set_set, q0])).mono ?_; rintro _ _ ⟨M1, fM1_0, rfl, rfl⟩; simp only [hp_next] at fM1_0
  try simp -dsimp -implicitDefEqProofs (maxDischargeDepth := 6) [gs_W0, List.set_set, q0, hp_over_some, hp_over_none]
  exact hK _ _ ⟨M1, (by omega), rfl, rfl⟩
 rintro a σ ⟨M1, fM1_0, ha, rfl⟩
 replace H := oi H; subst H
 refine hKE _ _ ?_; rw [ha]
 refine Rc.kp [] [] rfl ?_
 refine Rc.mk ?_
 refine ⟨[], by simp [gs_W0], M1, by omega, ?_, ?_⟩
 ·
  simp [encL_nil]
 ·
  first | rfl | simp [List.set_set]
theorem c75 {p0 : Int} {r : (List gInstr)} (H : i_quadInstrs_4 p0 = some r) : APure Tryd.prog G 75 [.int .i64 p0] (.fsl (encL rInstr r)) := by
 refine APure_fn (fun N0 => ?_) (by simp)
 refine ACalls_fn tok Tryd.func75 (by kernel_rfl) rfl Tryd.ntmps75 Tryd.results75 rfl ?_
 simp only [argsA, Nat.reduceAdd, hp_next]
 unfold i_quadInstrs_4 at H
 refine S0 tok [] [0] ?_
 obtain ⟨r1, hr1, H⟩ := bindE H
 have q0 : ∀ σ i, buildSliceA T 46 true i 1 [(0, .agg [.int .i64 r1.Op, .int .i64 r1.Rd, .int .i64 r1.Rs, .int .i64 r1.Rt, .int .i64 r1.Imm])] σ = some (.fsl (encL rInstr ([r1] : List gInstr)), σ) := fun _ _ => rfl
 refine Sx tok [2] [2] (by intro K k; (repeat first | simp -dsimp -implicitDefEqProofs (maxDischargeDepth := 6) [q0] | refine (c70 hr1).app ?_); exact k) ?_
 replace H := oi H; subst H; exact AWP_ret ⟨_, rfl, 4, by simp [encL_nil]⟩
theorem c65_i_quadInstrs_4 {p0 : gEmitter} {p1 : Int} {r : gEmitter} (H : i_emitter_write_i_quadInstrs_4 p0 p1 = some r) {σ : AHeap} {w0 : Nat} {W0 : List (List AV)} {r0_ : Nat} (q0 : σ.objs w0 = some ⟨100, 2, W0⟩) (g0 : W0[r0_]? = some [.int .i64 p0.colors, .osl 78 5 (encL rInstr p0.list)]) : ACalls Tryd.prog G 65 [.ptr w0 r0_ 0, .int .i64 p1, .clo 75 [] []] σ (fun v σ' => ∃ M : Nat, σ.next ≤ M ∧ v = .tup [] ∧ σ' = hp σ.objs [(w0, some ⟨100, 2, W0.set r0_ [.int .i64 r.colors, .osl 78 5 (encL rInstr r.list)]⟩)] M) := by
 refine ACalls_fr (L := [(w0, some ⟨100, 2, W0⟩)]) (Q1 := fun v σ' => ∃ M : Nat, σ.next ≤ M ∧ v = .tup [] ∧ σ' = hp E0 [(w0, some ⟨100, 2, W0.set r0_ [.int .i64 r.colors, .osl 78 5 (encL rInstr r.list)]⟩)] M) (by simp [q0]) (fun hlt => ?_) ?_ ⟨_, Tryd.func65, rfl, rfl⟩
 rotate_left
 ·
  rintro v σ1 ⟨M, h0, rfl, rfl⟩
  exact ⟨_, M, rfl, by simp, by simp; try omega, M, h0, rfl, rfl⟩
 generalize σ.next = N0 at hlt ⊢
 have lw0 : w0 < N0 := hlt _ (.head _) rfl
 have gs_W0 : ∀ x, (W0.set r0_ x)[r0_]? = some x := gsetW g0
 rw [show W0 = W0.set r0_ [.int .i64 p0.colors, .osl 78 5 (encL rInstr p0.list)] from (set_same g0).symm]
 refine ACalls_fn tok Tryd.func65 (by kernel_rfl) rfl Tryd.ntmps65 Tryd.results65 rfl ?_
 simp only [argsA, Nat.reduceAdd, hp_next]
 unfold i_emitter_write_i_quadInstrs_4 at H
 refine AWP_end [] fun KE hKE => ?_
 refine AWP_sq [0, 1, 2] fun K1 hK1 => ?_
 refine Sx tok [] [0, 1, 2, 11] (by intro K k; simp -dsimp -implicitDefEqProofs (maxDischargeDepth := 6) [gs_W0, List.set_set]; exact k) ?_
 refine AWP_cond (ilt p1 p0.colors) rfl (fun C1 => ?_) (fun C1 => ?_)
 ·
  replace H := ifT C1 H
  obtain ⟨v1, hv1, H⟩ := bindE H
  obtain ⟨r2, hr2, H⟩ := bindE H
  obtain ⟨r3, hr3, H⟩ := bindE H
  refine AWP_sr tok [] [] (fun a σ => ∃ M1 : Nat, N0 + 13 ≤ M1 ∧ a = [] ∧ σ = hp E0 [(w0, some ⟨100, 2, W0.set r0_ [.int .i64 r3.colors, .osl 78 5 (encL rInstr r3.list)]⟩)] M1) (fun K hK => ?_) ?_
  ·
   simp -dsimp -implicitDefEqProofs (maxDischargeDepth := 6) [gs_W0, List.set_set, gx131 hv1]
   refine (c75 hr2).app ?_; try simp -dsimp -implicitDefEqProofs (maxDischargeDepth := 6) [gs_W0, List.set_set, gx131 hv1]
   refine (c73 (W0 := W0.set r0_ [.int .i64 p0.colors, .osl 78 5 (encL rInstr p0.list)]) (r0_ := r0_) (H := hr3) (by simp [gs_W0, List.set_set, gx131 hv1]) (by simp [gs_W0, List.set_set, gx131 hv1])).mono ?_; rintro _ _ ⟨M1, fM1_0, rfl, rfl⟩; simp only [hp_next] at fM1_0
   try simp -dsimp -implicitDefEqProofs (maxDischargeDepth := 6) [gs_W0, List.set_set, gx131 hv1, hp_over_some, hp_over_none]
   exact hK _ _ ⟨M1, (by omega), rfl, rfl⟩
  rintro a σ ⟨M1, fM1_0, rfl, rfl⟩
  replace H := oi H; subst H
  refine Kp [] ?_
  refine AWP_ret ?_
  refine ⟨[], by simp [gs_W0], M1, by omega, ?_, ?_⟩
  ·
   simp [encL_nil]
  ·
   first | rfl | simp [List.set_set]
 ·
  replace H := ifF C1 H
  refine AWP_skip (Jn hK1 ?_)
  obtain ⟨r4, hr4, H⟩ := bindE H
  obtain ⟨r5, hr5, H⟩ := bindE H
  refine AWP_sr tok [] [0, 1] (fun a σ => ∃ M2 : Nat, N0 + 10 ≤ M2 ∧ a = [(0, .ptr w0 r0_ 0), (1, .int .i64 p1)] ∧ σ = hp E0 [(w0, some ⟨100, 2, W0.set r0_ [.int .i64 r5.colors, .osl 78 5 (encL rInstr r5.list)]⟩)] M2) (fun K hK => ?_) ?_
  ·
   simp -dsimp -implicitDefEqProofs (maxDischargeDepth := 6) [gs_W0, List.set_set]
   refine (c75 hr4).app ?_; try simp -dsimp -implicitDefEqProofs (maxDischargeDepth := 6) [gs_W0, List.set_set]
   refine (c73 (W0 := W0.set r0_ [.int .i64 p0.colors, .osl 78 5 (encL rInstr p0.list)]) (r0_ := r0_) (H := hr5) (by simp [gs_W0, List.set_set]) (by simp [gs_W0, List.set_set])).mono ?_; rintro _ _ ⟨M2, fM2_0, rfl, rfl⟩; simp only [hp_next] at fM2_0
   try simp -dsimp -implicitDefEqProofs (maxDischargeDepth := 6) [gs_W0, List.set_set, hp_over_some, hp_over_none]
   exact hK _ _ ⟨M2, (by omega), rfl, rfl⟩
  rintro a σ ⟨M2, fM2_0, rfl, rfl⟩
  obtain ⟨r6, hr6, H⟩ := bindE H
  have q0 : ∀ σ i, buildSliceA T 46 true i 1 [(0, .agg [.int .i64 16, .int .i64 0, .int .i64 2, .int .i64 7, .int .i64 (imul .i64 4 (isub .i64 p1 r5.colors))])] σ = some (.fsl (encL rInstr ([(⟨16, 0, 2, 7, imul .i64 4 (isub .i64 p1 r5.colors)⟩ : gInstr)] : List gInstr)), σ) := fun _ _ => rfl
  refine AWP_rt tok [9] [] (fun a σ => ∃ M3 : Nat, M2 + 11 ≤ M3 ∧ a = [] ∧ σ = hp E0 [(w0, some ⟨100, 2, W0.set r0_ [.int .i64 r6.colors, .osl 78 5 (encL rInstr r6.list)]⟩)] M3) (fun K hK => ?_) ?_
  ·
   simp -dsimp -implicitDefEqProofs (maxDischargeDepth := 6) [gs_W0, List.set_set, q0]
   refine (c73 (W0 := W0.set r0_ [.int .i64 r5.colors, .osl 78 5 (encL rInstr r5.list)]) (r0_ := r0_) (H := hr6) (by simp [gs_W0, List.set_set, q0]) (by simp [gs_W0, List.set_set, q0])).mono ?_; rintro _ _ ⟨M3, fM3_0, rfl, rfl⟩; simp only [hp_next] at fM3_0
   try simp -dsimp -implicitDefEqProofs (maxDischargeDepth := 6) [gs_W0, List.set_set, q0, hp_over_some, hp_over_none]
   exact hK _ _ ⟨M3, (by omega), rfl, rfl⟩
  rintro a σ ⟨M3, fM3_0, ha, rfl⟩
  replace H := oi H; subst H
  refine hKE _ _ ?_; rw [ha]
  refine Rc.kp [] [] rfl ?_
  refine Rc.mk ?_
  refine ⟨[], by simp [gs_W0], M3, by omega, ?_, ?_⟩
  ·
   simp [encL_nil]
  ·
   first | rfl | simp [List.set_set]
theorem c47 {p0 : gQuad} {p1 : Int} {p2 : Int} {r : (List gInstr)} (H : i_quadInstrs p0 p1 p2 = some r) : APure Tryd.prog G 47 [.agg [.int .i64 p0.Op, .int .i64 p0.Dst, .int .i64 p0.A, .int .i64 p0.B, .int .i64 p0.N], .int .i64 p1, .int .i64 p2] (.fsl (encL rInstr r)) := by
 refine APure_fn (fun N0 => ?_) (by simp)
 refine ACalls_fn tok Tryd.func47 (by kernel_rfl) rfl Tryd.ntmps47 Tryd.results47 rfl ?_
 simp only [argsA, Nat.reduceAdd, hp_next]
 unfold i_quadInstrs at H
 refine S0 tok [0] [1, 2, 3] ?_
 refine S0 tok [1] [2, 3, 7] ?_
 obtain ⟨j1, hj1, H⟩ := bindE H
 refine AWP_seq (AWP_named fun K1 hK1 => ?_)
 have hJ1 : ∀ a σ, Rc G 120 N0 (fun a σ => ∃ M1 : Nat, N0 ≤ M1 ∧ N0 + 4 < M1 ∧ a = [(7, .ptr (N0 + 4) 0 0)] ∧ σ = hp E0 [(N0 + 4, some ⟨100, 2, [[.int .i64 j1.colors, .osl 78 5 (encL rInstr j1.list)]]⟩)] M1) (a.keep [7]) σ → K1 a σ := by
  rintro a σ ⟨b, τ, hr, M1, fM1_0, fM1_1, rfl, rfl⟩
  refine hK1 _ _ (AWP_keep [7] (AWP_ref hr ?_))
  refine gU AWP_ref (N0 + 4) 0 1 ?_
  refine Sx tok [] [6] (by
   intro K k
   have e0 := nQ (N0 + 4) M1
   simp -dsimp -implicitDefEqProofs (maxDischargeDepth := 6) [e0]
   exact k) ?_
  replace H := oi H; subst H
  refine Kp [6] ?_
  have z6 := nQ (N0 + 4) M1
  refine AWP_ret ?_
  exact ⟨[.sl M1 0 j1.list.length], by simp [z6], 4, by simp [encL_nil, z6]⟩
 replace H := hj1
 refine S0 tok [] [2, 3, 7, 15] ?_
 refine AWP_block (AWP_thenB ?_)
 refine S0 tok [] [2, 3, 7, 15, 16] ?_
 refine AWP_cond (ieq p0.Op 1) rfl (fun C1 => ?_) (fun C1 => ?_)
 ·
  replace H := ifT C1 H
  refine gPk0 AWP_ref (o := (N0 + 4)) (ob := ⟨100, 2, [[.int .i64 p1, .nilsl]]⟩) (row := [.int .i64 p1, .nilsl]) (r := 0) (i := 1) 78 5 [(N0 + 4, some ⟨100, 2, [[.int .i64 p1, .osl 78 5 (encL rInstr ([] : List gInstr))]]⟩)] (by simp (disch := omega)) rfl rfl (by simp (disch := omega)) (by simp (disch := omega) [encL_nil, List.set_set, app_set]) ?_
  obtain ⟨r2, hr2, H⟩ := bindE H
  refine AWP_rt tok [] [7] (fun a σ => ∃ M2 : Nat, N0 + 15 ≤ M2 ∧ a = [(7, .ptr (N0 + 4) 0 0)] ∧ σ = hp E0 [(N0 + 4, some ⟨100, 2, [[.int .i64 r2.colors, .osl 78 5 (encL rInstr r2.list)]]⟩)] M2) (fun K hK => ?_) ?_
  ·
   simp -dsimp -implicitDefEqProofs (maxDischargeDepth := 6)
   refine (c65_i_quadInstrs_1 (W0 := [[.int .i64 p1, .osl 78 5 (encL rInstr ([] : List gInstr))]]) (r0_ := 0) (H := hr2) (by simp []) (by simp [])).mono ?_; rintro _ _ ⟨M2, fM2_0, rfl, rfl⟩; simp only [hp_next] at fM2_0
   try simp -dsimp -implicitDefEqProofs (maxDischargeDepth := 6) [hp_over_some, hp_over_none]
   exact hK _ _ ⟨M2, (by omega), rfl, rfl⟩
  rintro a σ ⟨M2, fM2_0, ha, rfl⟩
  replace H := oi H; subst H
  refine hJ1 _ _ ?_; rw [ha]
  exact Rc.fin (AHeap.Sub.refl _) ⟨M2, (by omega), (by omega), rfl, rfl⟩
 ·
  replace H := ifF C1 H
  refine S0 tok [] [2, 3, 7, 15, 23] ?_
  refine AWP_cond (ieq p0.Op 2) rfl (fun C2 => ?_) (fun C2 => ?_)
  ·
   replace H := ifT C2 H
   refine gPk0 AWP_ref (o := (N0 + 4)) (ob := ⟨100, 2, [[.int .i64 p1, .nilsl]]⟩) (row := [.int .i64 p1, .nilsl]) (r := 0) (i := 1) 78 5 [(N0 + 4, some ⟨100, 2, [[.int .i64 p1, .osl 78 5 (encL rInstr ([] : List gInstr))]]⟩)] (by simp (disch := omega)) rfl rfl (by simp (disch := omega)) (by simp (disch := omega) [encL_nil, List.set_set, app_set]) ?_
   obtain ⟨r3, hr3, H⟩ := bindE H
   refine AWP_sr tok [] [3, 7, 8] (fun a σ => ∃ M3 : Nat, N0 + 18 ≤ M3 ∧ a = [(3, .fptr [.int .i64 p0.Op, .int .i64 p0.Dst, .int .i64 p0.A, .int .i64 p0.B, .int .i64 p0.N] 0), (7, .ptr (N0 + 4) 0 0), (8, .ptr (N0 + 16) 0 0)] ∧ σ = hp E0 [(N0 + 4, some ⟨100, 2, [[.int .i64 r3.2.colors, .osl 78 5 (encL rInstr r3.2.list)]]⟩), (N0 + 16, some ⟨3, 1, [[.int .i64 r3.1]]⟩)] M3) (fun K hK => ?_) ?_
   ·
    simp -dsimp -implicitDefEqProofs (maxDischargeDepth := 6)
    refine (c68 (W0 := [[.int .i64 p1, .osl 78 5 (encL rInstr ([] : List gInstr))]]) (r0_ := 0) (H := hr3) (by simp []) (by simp [])).mono ?_; rintro _ _ ⟨M3, fM3_0, rfl, rfl⟩; simp only [hp_next] at fM3_0
    try simp -dsimp -implicitDefEqProofs (maxDischargeDepth := 6) [hp_over_some, hp_over_none]
    exact hK _ _ ⟨M3, (by omega), rfl, rfl⟩
   rintro a σ ⟨M3, fM3_0, rfl, rfl⟩
   refine gFrz AWP_ref 4 [N0 + 16] [(N0 + 4, some ⟨100, 2, [[.int .i64 r3.2.colors, .osl 78 5 (encL rInstr r3.2.list)]]⟩)] [(3, .fptr [.int .i64 p0.Op, .int .i64 p0.Dst, .int .i64 p0.A, .int .i64 p0.B, .int .i64 p0.N] 0), (7, .ptr (N0 + 4) 0 0), (8, .fptr [.int .i64 r3.1] 0)] (by simp) (cutD (by simp)) ?_
   obtain ⟨r5, hr5, H⟩ := bindE H
   refine AWP_rt tok [] [7] (fun a σ => ∃ M4 : Nat, M3 + 5 ≤ M4 ∧ a = [(7, .ptr (N0 + 4) 0 0)] ∧ σ = hp E0 [(N0 + 4, some ⟨100, 2, [[.int .i64 r5.colors, .osl 78 5 (encL rInstr r5.list)]]⟩)] M4) (fun K hK => ?_) ?_
   ·
    simp -dsimp -implicitDefEqProofs (maxDischargeDepth := 6)
    refine (c65_i_quadInstrs_2 (W0 := [[.int .i64 r3.2.colors, .osl 78 5 (encL rInstr r3.2.list)]]) (r0_ := 0) (H := hr5) (by simp []) (by simp [])).mono ?_; rintro _ _ ⟨M4, fM4_0, rfl, rfl⟩; simp only [hp_next] at fM4_0
    try simp -dsimp -implicitDefEqProofs (maxDischargeDepth := 6) [hp_over_some, hp_over_none]
    exact hK _ _ ⟨M4, (by omega), rfl, rfl⟩
   rintro a σ ⟨M4, fM4_0, ha, rfl⟩
   replace H := oi H; subst H
   refine hJ1 _ _ ?_; rw [ha]
   exact Rc.fin (AHeap.Sub.refl _) ⟨M4, (by omega), (by omega), rfl, rfl⟩
  ·
   replace H := ifF C2 H
   refine S0 tok [] [2, 3, 7, 15, 34] ?_
   refine AWP_cond (ieq p0.Op 3) rfl (fun C3 => ?_) (fun C3 => ?_)
   ·
    replace H := ifT C3 H
    refine gPk0 AWP_ref (o := (N0 + 4)) (ob := ⟨100, 2, [[.int .i64 p1, .nilsl]]⟩) (row := [.int .i64 p1, .nilsl]) (r := 0) (i := 1) 78 5 [(N0 + 4, some ⟨100, 2, [[.int .i64 p1, .osl 78 5 (encL rInstr ([] : List gInstr))]]⟩)] (by simp (disch := omega)) rfl rfl (by simp (disch := omega)) (by simp (disch := omega) [encL_nil, List.set_set, app_set]) ?_
    obtain ⟨r6, hr6, H⟩ := bindE H
    refine AWP_sr tok [] [3, 7, 9] (fun a σ => ∃ M5 : Nat, N0 + 20 ≤ M5 ∧ a = [(3, .fptr [.int .i64 p0.Op, .int .i64 p0.Dst, .int .i64 p0.A, .int .i64 p0.B, .int .i64 p0.N] 0), (7, .ptr (N0 + 4) 0 0), (9, .ptr (N0 + 18) 0 0)] ∧ σ = hp E0 [(N0 + 4, some ⟨100, 2, [[.int .i64 r6.2.colors, .osl 78 5 (encL rInstr r6.2.list)]]⟩), (N0 + 18, some ⟨3, 1, [[.int .i64 r6.1]]⟩)] M5) (fun K hK => ?_) ?_
    ·
     simp -dsimp -implicitDefEqProofs (maxDischargeDepth := 6)
     refine (c68 (W0 := [[.int .i64 p1, .osl 78 5 (encL rInstr ([] : List gInstr))]]) (r0_ := 0) (H := hr6) (by simp []) (by simp [])).mono ?_; rintro _ _ ⟨M5, fM5_0, rfl, rfl⟩; simp only [hp_next] at fM5_0
     try simp -dsimp -implicitDefEqProofs (maxDischargeDepth := 6) [hp_over_some, hp_over_none]
     exact hK _ _ ⟨M5, (by omega), rfl, rfl⟩
    rintro a σ ⟨M5, fM5_0, rfl, rfl⟩
    obtain ⟨r7, hr7, H⟩ := bindE H
    refine AWP_sr tok [] [3, 7, 9, 10] (fun a σ => ∃ M6 : Nat, M5 + 6 ≤ M6 ∧ a = [(3, .fptr [.int .i64 p0.Op, .int .i64 p0.Dst, .int .i64 p0.A, .int .i64 p0.B, .int .i64 p0.N] 0), (7, .ptr (N0 + 4) 0 0), (9, .ptr (N0 + 18) 0 0), (10, .ptr (M5 + 4) 0 0)] ∧ σ = hp E0 [(N0 + 4, some ⟨100, 2, [[.int .i64 r7.2.colors, .osl 78 5 (encL rInstr r7.2.list)]]⟩), (N0 + 18, some ⟨3, 1, [[.int .i64 r6.1]]⟩), (M5 + 4, some ⟨3, 1, [[.int .i64 r7.1]]⟩)] M6) (fun K hK => ?_) ?_
    ·
     have e0 := nQ (N0 + 4) (M5 + 4)
     have e1 := nQ N0 M5
     have e2 := nQ (N0 + 18) (M5 + 4)
     have e3 := nQ (N0 + 14) M5
     simp -dsimp -implicitDefEqProofs (maxDischargeDepth := 6) [e0, e1, e2, e3]
     refine (c68 (W0 := [[.int .i64 r6.2.colors, .osl 78 5 (encL rInstr r6.2.list)]]) (r0_ := 0) (H := hr7) (by simp [e0, e1, e2, e3]) (by simp [e0, e1, e2, e3])).mono ?_; rintro _ _ ⟨M6, fM6_0, rfl, rfl⟩; simp only [hp_next] at fM6_0
     try simp -dsimp -implicitDefEqProofs (maxDischargeDepth := 6) [e0, e1, e2, e3, hp_over_some, hp_over_none]
     exact hK _ _ ⟨M6, (by omega), rfl, rfl⟩
    rintro a σ ⟨M6, fM6_0, rfl, rfl⟩
    have z7 := nQ (N0 + 4) (M5 + 4)
    have z8 := nQ N0 M5
    have z9 := nQ (N0 + 18) (M5 + 4)
    have z10 := nQ (N0 + 14) M5
    refine gFrz AWP_ref 4 [N0 + 18] [(N0 + 4, some ⟨100, 2, [[.int .i64 r7.2.colors, .osl 78 5 (encL rInstr r7.2.list)]]⟩), (M5 + 4, some ⟨3, 1, [[.int .i64 r7.1]]⟩)] [(3, .fptr [.int .i64 p0.Op, .int .i64 p0.Dst, .int .i64 p0.A, .int .i64 p0.B, .int .i64 p0.N] 0), (7, .ptr (N0 + 4) 0 0), (9, .fptr [.int .i64 r6.1] 0), (10, .ptr (M5 + 4) 0 0)] (by simp [z7, z8, z9, z10]) (cutD (by simp [z7, z8, z9, z10])) ?_
    have z11 := nQ (N0 + 4) (M5 + 4)
    have z12 := nQ N0 M5
    refine gFrz AWP_ref 4 [M5 + 4] [(N0 + 4, some ⟨100, 2, [[.int .i64 r7.2.colors, .osl 78 5 (encL rInstr r7.2.list)]]⟩)] [(3, .fptr [.int .i64 p0.Op, .int .i64 p0.Dst, .int .i64 p0.A, .int .i64 p0.B, .int .i64 p0.N] 0), (7, .ptr (N0 + 4) 0 0), (9, .fptr [.int .i64 r6.1] 0), (10, .fptr [.int .i64 r7.1] 0)] (by simp [z11, z12]) (cutD (by simp [z11, z12])) ?_
    obtain ⟨r10, hr10, H⟩ := bindE H
    refine AWP_rt tok [] [7] (fun a σ => ∃ M7 : Nat, M6 + 5 ≤ M7 ∧ a = [(7, .ptr (N0 + 4) 0 0)] ∧ σ = hp E0 [(N0 + 4, some ⟨100, 2, [[.int .i64 r10.colors, .osl 78 5 (encL rInstr r10.list)]]⟩)] M7) (fun K hK => ?_) ?_
    ·
     simp -dsimp -implicitDefEqProofs (maxDischargeDepth := 6)
     refine (c65_i_quadInstrs_3 (W0 := [[.int .i64 r7.2.colors, .osl 78 5 (encL rInstr r7.2.list)]]) (r0_ := 0) (H := hr10) (by simp []) (by simp [])).mono ?_; rintro _ _ ⟨M7, fM7_0, rfl, rfl⟩; simp only [hp_next] at fM7_0
     try simp -dsimp -implicitDefEqProofs (maxDischargeDepth := 6) [hp_over_some, hp_over_none]
     exact hK _ _ ⟨M7, (by omega), rfl, rfl⟩
    rintro a σ ⟨M7, fM7_0, ha, rfl⟩
    replace H := oi H; subst H
    refine hJ1 _ _ ?_; rw [ha]
    exact Rc.fin (AHeap.Sub.refl _) ⟨M7, (by omega), (by omega), rfl, rfl⟩
   ·
    replace H := ifF C3 H
    refine S0 tok [] [2, 3, 7, 15, 49] ?_
    refine AWP_cond (ieq p0.Op 4) rfl (fun C4 => ?_) (fun C4 => ?_)
    ·
     replace H := ifT C4 H
     refine gPk0 AWP_ref (o := (N0 + 4)) (ob := ⟨100, 2, [[.int .i64 p1, .nilsl]]⟩) (row := [.int .i64 p1, .nilsl]) (r := 0) (i := 1) 78 5 [(N0 + 4, some ⟨100, 2, [[.int .i64 p1, .osl 78 5 (encL rInstr ([] : List gInstr))]]⟩)] (by simp (disch := omega)) rfl rfl (by simp (disch := omega)) (by simp (disch := omega) [encL_nil, List.set_set, app_set]) ?_
     obtain ⟨r11, hr11, H⟩ := bindE H
     refine AWP_rt tok [] [7] (fun a σ => ∃ M8 : Nat, N0 + 19 ≤ M8 ∧ a = [(7, .ptr (N0 + 4) 0 0)] ∧ σ = hp E0 [(N0 + 4, some ⟨100, 2, [[.int .i64 r11.colors, .osl 78 5 (encL rInstr r11.list)]]⟩)] M8) (fun K hK => ?_) ?_
     ·
      simp -dsimp -implicitDefEqProofs (maxDischargeDepth := 6)
      refine (c72 (W0 := [[.int .i64 p1, .osl 78 5 (encL rInstr ([] : List gInstr))]]) (r0_ := 0) (H := hr11) (by simp []) (by simp [])).mono ?_; rintro _ _ ⟨M8, fM8_0, rfl, rfl⟩; simp only [hp_next] at fM8_0
      try simp -dsimp -implicitDefEqProofs (maxDischargeDepth := 6) [hp_over_some, hp_over_none]
      exact hK _ _ ⟨M8, (by omega), rfl, rfl⟩
     rintro a σ ⟨M8, fM8_0, ha, rfl⟩
     replace H := oi H; subst H
     refine hJ1 _ _ ?_; rw [ha]
     exact Rc.fin (AHeap.Sub.refl _) ⟨M8, (by omega), (by omega), rfl, rfl⟩
    ·
     replace H := ifF C4 H
     refine S0 tok [] [2, 3, 7, 15, 54] ?_
     refine AWP_cond (ieq p0.Op 5) rfl (fun C5 => ?_) (fun C5 => ?_)
     ·
      replace H := ifT C5 H
      refine gPk0 AWP_ref (o := (N0 + 4)) (ob := ⟨100, 2, [[.int .i64 p1, .nilsl]]⟩) (row := [.int .i64 p1, .nilsl]) (r := 0) (i := 1) 78 5 [(N0 + 4, some ⟨100, 2, [[.int .i64 p1, .osl 78 5 (encL rInstr ([] : List gInstr))]]⟩)] (by simp (disch := omega)) rfl rfl (by simp (disch := omega)) (by simp (disch := omega) [encL_nil, List.set_set, app_set]) ?_
      obtain ⟨r12, hr12, H⟩ := bindE H
      obtain ⟨r13, hr13, H⟩ := bindE H
      have q0 : ∀ σ i, buildSliceA T 46 true i 1 [(0, .agg [.int .i64 18, .int .i64 0, .int .i64 r12.1, .int .i64 0, .int .i64 8])] σ = some (.fsl (encL rInstr ([(⟨18, 0, r12.1, 0, 8⟩ : gInstr)] : List gInstr)), σ) := fun _ _ => rfl
      refine AWP_sr tok [6] [2, 7] (fun a σ => ∃ M9 : Nat, ∃ M10 : Nat, N0 + 26 ≤ M9 ∧ M9 ≤ M10 ∧ a = [(2, .int .i64 p2), (7, .ptr (N0 + 4) 0 0)] ∧ σ = hp E0 [(N0 + 4, some ⟨100, 2, [[.int .i64 r13.colors, .osl 78 5 (encL rInstr r13.list)]]⟩)] M10) (fun K hK => ?_) ?_
      ·
       simp -dsimp -implicitDefEqProofs (maxDischargeDepth := 6) [q0]
       refine (c68 (W0 := [[.int .i64 p1, .osl 78 5 (encL rInstr ([] : List gInstr))]]) (r0_ := 0) (H := hr12) (by simp [q0]) (by simp [q0])).mono ?_; rintro _ _ ⟨M9, fM9_0, rfl, rfl⟩; simp only [hp_next] at fM9_0
       try simp -dsimp -implicitDefEqProofs (maxDischargeDepth := 6) [q0, hp_over_some, hp_over_none]
       refine (c73 (W0 := [[.int .i64 r12.2.colors, .osl 78 5 (encL rInstr r12.2.list)]]) (r0_ := 0) (H := hr13) (by simp [q0, hp_over_some, hp_over_none]) (by simp [q0, hp_over_some, hp_over_none])).mono ?_; rintro _ _ ⟨M10, fM10_0, rfl, rfl⟩; simp only [hp_next] at fM10_0
       try simp -dsimp -implicitDefEqProofs (maxDischargeDepth := 6) [q0, hp_over_some, hp_over_none, hp_over_some, hp_over_none]
       exact hK _ _ ⟨M9, M10, (by omega), (by omega), rfl, rfl⟩
      rintro a σ ⟨M9, M10, fM9_0, fM10_0, rfl, rfl⟩
      obtain ⟨r14, hr14, H⟩ := bindE H
      refine AWP_rt tok [] [7] (fun a σ => ∃ M11 : Nat, M10 + 3 ≤ M11 ∧ a = [(7, .ptr (N0 + 4) 0 0)] ∧ σ = hp E0 [(N0 + 4, some ⟨100, 2, [[.int .i64 r14.colors, .osl 78 5 (encL rInstr r14.list)]]⟩)] M11) (fun K hK => ?_) ?_
      ·
       simp -dsimp -implicitDefEqProofs (maxDischargeDepth := 6)
       refine (c72 (W0 := [[.int .i64 r13.colors, .osl 78 5 (encL rInstr r13.list)]]) (r0_ := 0) (H := hr14) (by simp []) (by simp [])).mono ?_; rintro _ _ ⟨M11, fM11_0, rfl, rfl⟩; simp only [hp_next] at fM11_0
       try simp -dsimp -implicitDefEqProofs (maxDischargeDepth := 6) [hp_over_some, hp_over_none]
       exact hK _ _ ⟨M11, (by omega), rfl, rfl⟩
      rintro a σ ⟨M11, fM11_0, ha, rfl⟩
      replace H := oi H; subst H
      refine hJ1 _ _ ?_; rw [ha]
      exact Rc.fin (AHeap.Sub.refl _) ⟨M11, (by omega), (by omega), rfl, rfl⟩
     ·
      replace H := ifF C5 H
      refine S0 tok [] [3, 7, 15, 67] ?_
      refine AWP_cond (ieq p0.Op 6) rfl (fun C6 => ?_) (fun C6 => ?_)
      ·
       replace H := ifT C6 H
       refine gPk0 AWP_ref (o := (N0 + 4)) (ob := ⟨100, 2, [[.int .i64 p1, .nilsl]]⟩) (row := [.int .i64 p1, .nilsl]) (r := 0) (i := 1) 78 5 [(N0 + 4, some ⟨100, 2, [[.int .i64 p1, .osl 78 5 (encL rInstr ([] : List gInstr))]]⟩)] (by simp (disch := omega)) rfl rfl (by simp (disch := omega)) (by simp (disch := omega) [encL_nil, List.set_set, app_set]) ?_
       obtain ⟨r15, hr15, H⟩ := bindE H
       obtain ⟨r16, hr16, H⟩ := bindE H
       obtain ⟨r17, hr17, H⟩ := bindE H
       obtain ⟨r18, hr18, H⟩ := bindE H
       have q1 : ∀ σ i, buildSliceA T 46 true i 2 [(0, .agg [.int .i64 r16.Op, .int .i64 r16.Rd, .int .i64 r16.Rs, .int .i64 r16.Rt, .int .i64 r16.Imm]), (1, .agg [.int .i64 r17.Op, .int .i64 r17.Rd, .int .i64 r17.Rs, .int .i64 r17.Rt, .int .i64 r17.Imm])] σ = some (.fsl (encL rInstr ([r16, r17] : List gInstr)), σ) := fun _ _ => rfl
       refine AWP_sd tok tokM [9] [4, 10] [0, 1, 2, 3, 6, 7, 4, 5, 8, 9, 10] [7] (fun a σ => ∃ M12 : Nat, ∃ M13 : Nat, N0 + 31 ≤ M12 ∧ M12 ≤ M13 ∧ a = [(7, .ptr (N0 + 4) 0 0)] ∧ σ = hp E0 [(N0 + 4, some ⟨100, 2, [[.int .i64 r18.colors, .osl 78 5 (encL rInstr r18.list)]]⟩)] M13) (by decide) (fun K hK => ?_) ?_
       ·
        simp only [pickL, nthO_succ, nthO_zero]
        simp -dsimp -implicitDefEqProofs (maxDischargeDepth := 6) [q1]
        refine (c68 (W0 := [[.int .i64 p1, .osl 78 5 (encL rInstr ([] : List gInstr))]]) (r0_ := 0) (H := hr15) (by simp [q1]) (by simp [q1])).mono ?_; rintro _ _ ⟨M12, fM12_0, rfl, rfl⟩; simp only [hp_next] at fM12_0
        try simp -dsimp -implicitDefEqProofs (maxDischargeDepth := 6) [q1, hp_over_some, hp_over_none]
        refine Pc.mk (c70 hr16) ?_; try simp -dsimp -implicitDefEqProofs (maxDischargeDepth := 6) [q1, hp_over_some, hp_over_none]
        refine Pc.mk (c70 hr17) ?_; try simp -dsimp -implicitDefEqProofs (maxDischargeDepth := 6) [q1, hp_over_some, hp_over_none]
        refine (c73 (W0 := [[.int .i64 r15.2.colors, .osl 78 5 (encL rInstr r15.2.list)]]) (r0_ := 0) (H := hr18) (by simp [q1, hp_over_some, hp_over_none]) (by simp [q1, hp_over_some, hp_over_none])).mono ?_; rintro _ _ ⟨M13, fM13_0, rfl, rfl⟩; simp only [hp_next] at fM13_0
        try simp -dsimp -implicitDefEqProofs (maxDischargeDepth := 6) [q1, hp_over_some, hp_over_none, hp_over_some, hp_over_none]
        exact hK _ _ ⟨M12, M13, (by omega), (by omega), rfl, rfl⟩
       rintro a σ ⟨M12, M13, fM12_0, fM13_0, rfl, rfl⟩
       obtain ⟨r19, hr19, H⟩ := bindE H
       refine AWP_rt tok [] [7] (fun a σ => ∃ M14 : Nat, M13 + 2 ≤ M14 ∧ a = [(7, .ptr (N0 + 4) 0 0)] ∧ σ = hp E0 [(N0 + 4, some ⟨100, 2, [[.int .i64 r19.colors, .osl 78 5 (encL rInstr r19.list)]]⟩)] M14) (fun K hK => ?_) ?_
       ·
        simp -dsimp -implicitDefEqProofs (maxDischargeDepth := 6)
        refine (c74 (W0 := [[.int .i64 r18.colors, .osl 78 5 (encL rInstr r18.list)]]) (r0_ := 0) (H := hr19) (by simp []) (by simp [])).mono ?_; rintro _ _ ⟨M14, fM14_0, rfl, rfl⟩; simp only [hp_next] at fM14_0
        try simp -dsimp -implicitDefEqProofs (maxDischargeDepth := 6) [hp_over_some, hp_over_none]
        exact hK _ _ ⟨M14, (by omega), rfl, rfl⟩
       rintro a σ ⟨M14, fM14_0, ha, rfl⟩
       replace H := oi H; subst H
       refine hJ1 _ _ ?_; rw [ha]
       exact Rc.fin (AHeap.Sub.refl _) ⟨M14, (by omega), (by omega), rfl, rfl⟩
      ·
       replace H := ifF C6 H
       refine S0 tok [] [3, 7, 15, 82] ?_
       refine AWP_cond (ieq p0.Op 7) rfl (fun C7 => ?_) (fun C7 => ?_)
       ·
        replace H := ifT C7 H
        refine gPk0 AWP_ref (o := (N0 + 4)) (ob := ⟨100, 2, [[.int .i64 p1, .nilsl]]⟩) (row := [.int .i64 p1, .nilsl]) (r := 0) (i := 1) 78 5 [(N0 + 4, some ⟨100, 2, [[.int .i64 p1, .osl 78 5 (encL rInstr ([] : List gInstr))]]⟩)] (by simp (disch := omega)) rfl rfl (by simp (disch := omega)) (by simp (disch := omega) [encL_nil, List.set_set, app_set]) ?_
        obtain ⟨r20, hr20, H⟩ := bindE H
        obtain ⟨r21, hr21, H⟩ := bindE H
        have q2 : ∀ σ i, buildSliceA T 46 true i 1 [(0, .agg [.int .i64 r20.Op, .int .i64 r20.Rd, .int .i64 r20.Rs, .int .i64 r20.Rt, .int .i64 r20.Imm])] σ = some (.fsl (encL rInstr ([r20] : List gInstr)), σ) := fun _ _ => rfl
        refine AWP_sr tok [4] [3, 7] (fun a σ => ∃ M15 : Nat, N0 + 28 ≤ M15 ∧ a = [(3, .fptr [.int .i64 p0.Op, .int .i64 p0.Dst, .int .i64 p0.A, .int .i64 p0.B, .int .i64 p0.N] 0), (7, .ptr (N0 + 4) 0 0)] ∧ σ = hp E0 [(N0 + 4, some ⟨100, 2, [[.int .i64 r21.colors, .osl 78 5 (encL rInstr r21.list)]]⟩)] M15) (fun K hK => ?_) ?_
        ·
         simp -dsimp -implicitDefEqProofs (maxDischargeDepth := 6) [q2]
         refine (c70 hr20).app ?_; try simp -dsimp -implicitDefEqProofs (maxDischargeDepth := 6) [q2]
         refine (c73 (W0 := [[.int .i64 p1, .osl 78 5 (encL rInstr ([] : List gInstr))]]) (r0_ := 0) (H := hr21) (by simp [q2]) (by simp [q2])).mono ?_; rintro _ _ ⟨M15, fM15_0, rfl, rfl⟩; simp only [hp_next] at fM15_0
         try simp -dsimp -implicitDefEqProofs (maxDischargeDepth := 6) [q2, hp_over_some, hp_over_none]
         exact hK _ _ ⟨M15, (by omega), rfl, rfl⟩
        rintro a σ ⟨M15, fM15_0, rfl, rfl⟩
        obtain ⟨r22, hr22, H⟩ := bindE H
        refine AWP_sr tok [] [3, 7] (fun a σ => ∃ M16 : Nat, M15 + 2 ≤ M16 ∧ a = [(3, .fptr [.int .i64 p0.Op, .int .i64 p0.Dst, .int .i64 p0.A, .int .i64 p0.B, .int .i64 p0.N] 0), (7, .ptr (N0 + 4) 0 0)] ∧ σ = hp E0 [(N0 + 4, some ⟨100, 2, [[.int .i64 r22.colors, .osl 78 5 (encL rInstr r22.list)]]⟩)] M16) (fun K hK => ?_) ?_
        ·
         simp -dsimp -implicitDefEqProofs (maxDischargeDepth := 6)
         refine (c74 (W0 := [[.int .i64 r21.colors, .osl 78 5 (encL rInstr r21.list)]]) (r0_ := 0) (H := hr22) (by simp []) (by simp [])).mono ?_; rintro _ _ ⟨M16, fM16_0, rfl, rfl⟩; simp only [hp_next] at fM16_0
         try simp -dsimp -implicitDefEqProofs (maxDischargeDepth := 6) [hp_over_some, hp_over_none]
         exact hK _ _ ⟨M16, (by omega), rfl, rfl⟩
        rintro a σ ⟨M16, fM16_0, rfl, rfl⟩
        obtain ⟨r23, hr23, H⟩ := bindE H
        refine AWP_rt tok [] [7] (fun a σ => ∃ M17 : Nat, M16 + 4 ≤ M17 ∧ a = [(7, .ptr (N0 + 4) 0 0)] ∧ σ = hp E0 [(N0 + 4, some ⟨100, 2, [[.int .i64 r23.colors, .osl 78 5 (encL rInstr r23.list)]]⟩)] M17) (fun K hK => ?_) ?_
        ·
         simp -dsimp -implicitDefEqProofs (maxDischargeDepth := 6)
         refine (c65_i_quadInstrs_4 (W0 := [[.int .i64 r22.colors, .osl 78 5 (encL rInstr r22.list)]]) (r0_ := 0) (H := hr23) (by simp []) (by simp [])).mono ?_; rintro _ _ ⟨M17, fM17_0, rfl, rfl⟩; simp only [hp_next] at fM17_0
         try simp -dsimp -implicitDefEqProofs (maxDischargeDepth := 6) [hp_over_some, hp_over_none]
         exact hK _ _ ⟨M17, (by omega), rfl, rfl⟩
        rintro a σ ⟨M17, fM17_0, ha, rfl⟩
        replace H := oi H; subst H
        refine hJ1 _ _ ?_; rw [ha]
        exact Rc.fin (AHeap.Sub.refl _) ⟨M17, (by omega), (by omega), rfl, rfl⟩
       ·
        replace H := ifF C7 H
        refine S0 tok [] [3, 7, 15, 96] ?_
        refine AWP_cond (ieq p0.Op 8) rfl (fun C8 => ?_) (fun C8 => ?_)
        ·
         replace H := ifT C8 H
         refine gPk0 AWP_ref (o := (N0 + 4)) (ob := ⟨100, 2, [[.int .i64 p1, .nilsl]]⟩) (row := [.int .i64 p1, .nilsl]) (r := 0) (i := 1) 78 5 [(N0 + 4, some ⟨100, 2, [[.int .i64 p1, .osl 78 5 (encL rInstr ([] : List gInstr))]]⟩)] (by simp (disch := omega)) rfl rfl (by simp (disch := omega)) (by simp (disch := omega) [encL_nil, List.set_set, app_set]) ?_
         obtain ⟨r24, hr24, H⟩ := bindE H
         refine AWP_rt tok [] [7] (fun a σ => ∃ M18 : Nat, N0 + 26 ≤ M18 ∧ a = [(7, .ptr (N0 + 4) 0 0)] ∧ σ = hp E0 [(N0 + 4, some ⟨100, 2, [[.int .i64 r24.colors, .osl 78 5 (encL rInstr r24.list)]]⟩)] M18) (fun K hK => ?_) ?_
         ·
          simp -dsimp -implicitDefEqProofs (maxDischargeDepth := 6)
          refine (c74 (W0 := [[.int .i64 p1, .osl 78 5 (encL rInstr ([] : List gInstr))]]) (r0_ := 0) (H := hr24) (by simp []) (by simp [])).mono ?_; rintro _ _ ⟨M18, fM18_0, rfl, rfl⟩; simp only [hp_next] at fM18_0
          try simp -dsimp -implicitDefEqProofs (maxDischargeDepth := 6) [hp_over_some, hp_over_none]
          exact hK _ _ ⟨M18, (by omega), rfl, rfl⟩
         rintro a σ ⟨M18, fM18_0, ha, rfl⟩
         replace H := oi H; subst H
         refine hJ1 _ _ ?_; rw [ha]
         exact Rc.fin (AHeap.Sub.refl _) ⟨M18, (by omega), (by omega), rfl, rfl⟩
        ·
         replace H := ifF C8 H
         refine S0 tok [] [3, 7, 15, 100] ?_
         refine AWP_cond (ieq p0.Op 9) rfl (fun C9 => ?_) (fun C9 => ?_)
         ·
          replace H := ifT C9 H
          refine gPk0 AWP_ref (o := (N0 + 4)) (ob := ⟨100, 2, [[.int .i64 p1, .nilsl]]⟩) (row := [.int .i64 p1, .nilsl]) (r := 0) (i := 1) 78 5 [(N0 + 4, some ⟨100, 2, [[.int .i64 p1, .osl 78 5 (encL rInstr ([] : List gInstr))]]⟩)] (by simp (disch := omega)) rfl rfl (by simp (disch := omega)) (by simp (disch := omega) [encL_nil, List.set_set, app_set]) ?_
          obtain ⟨r25, hr25, H⟩ := bindE H
          obtain ⟨r26, hr26, H⟩ := bindE H
          obtain ⟨r27, hr27, H⟩ := bindE H
          have q3 : ∀ σ i, buildSliceA T 46 true i 1 [(0, .agg [.int .i64 r26.Op, .int .i64 r26.Rd, .int .i64 r26.Rs, .int .i64 r26.Rt, .int .i64 r26.Imm])] σ = some (.fsl (encL rInstr ([r26] : List gInstr)), σ) := fun _ _ => rfl
          refine AWP_sr tok [6] [7] (fun a σ => ∃ M19 : Nat, ∃ M20 : Nat, N0 + 34 ≤ M19 ∧ M19 ≤ M20 ∧ a = [(7, .ptr (N0 + 4) 0 0)] ∧ σ = hp E0 [(N0 + 4, some ⟨100, 2, [[.int .i64 r27.colors, .osl 78 5 (encL rInstr r27.list)]]⟩)] M20) (fun K hK => ?_) ?_
          ·
           simp -dsimp -implicitDefEqProofs (maxDischargeDepth := 6) [q3]
           refine (c68 (W0 := [[.int .i64 p1, .osl 78 5 (encL rInstr ([] : List gInstr))]]) (r0_ := 0) (H := hr25) (by simp [q3]) (by simp [q3])).mono ?_; rintro _ _ ⟨M19, fM19_0, rfl, rfl⟩; simp only [hp_next] at fM19_0
           try simp -dsimp -implicitDefEqProofs (maxDischargeDepth := 6) [q3, hp_over_some, hp_over_none]
           refine (c70 hr26).app ?_; try simp -dsimp -implicitDefEqProofs (maxDischargeDepth := 6) [q3, hp_over_some, hp_over_none]
           refine (c73 (W0 := [[.int .i64 r25.2.colors, .osl 78 5 (encL rInstr r25.2.list)]]) (r0_ := 0) (H := hr27) (by simp [q3, hp_over_some, hp_over_none]) (by simp [q3, hp_over_some, hp_over_none])).mono ?_; rintro _ _ ⟨M20, fM20_0, rfl, rfl⟩; simp only [hp_next] at fM20_0
           try simp -dsimp -implicitDefEqProofs (maxDischargeDepth := 6) [q3, hp_over_some, hp_over_none, hp_over_some, hp_over_none]
           exact hK _ _ ⟨M19, M20, (by omega), (by omega), rfl, rfl⟩
          rintro a σ ⟨M19, M20, fM19_0, fM20_0, rfl, rfl⟩
          obtain ⟨r28, hr28, H⟩ := bindE H
          refine AWP_rt tok [] [7] (fun a σ => ∃ M21 : Nat, M20 + 2 ≤ M21 ∧ a = [(7, .ptr (N0 + 4) 0 0)] ∧ σ = hp E0 [(N0 + 4, some ⟨100, 2, [[.int .i64 r28.colors, .osl 78 5 (encL rInstr r28.list)]]⟩)] M21) (fun K hK => ?_) ?_
          ·
           simp -dsimp -implicitDefEqProofs (maxDischargeDepth := 6)
           refine (c74 (W0 := [[.int .i64 r27.colors, .osl 78 5 (encL rInstr r27.list)]]) (r0_ := 0) (H := hr28) (by simp []) (by simp [])).mono ?_; rintro _ _ ⟨M21, fM21_0, rfl, rfl⟩; simp only [hp_next] at fM21_0
           try simp -dsimp -implicitDefEqProofs (maxDischargeDepth := 6) [hp_over_some, hp_over_none]
           exact hK _ _ ⟨M21, (by omega), rfl, rfl⟩
          rintro a σ ⟨M21, fM21_0, ha, rfl⟩
          replace H := oi H; subst H
          refine hJ1 _ _ ?_; rw [ha]
          exact Rc.fin (AHeap.Sub.refl _) ⟨M21, (by omega), (by omega), rfl, rfl⟩
         ·
          replace H := ifF C9 H
          refine S0 tok [] [7, 112] ?_
          refine AWP_cond (ieq p0.Op 10) rfl (fun C10 => ?_) (fun C10 => ?_)
          ·
           replace H := ifT C10 H
           refine gPk0 AWP_ref (o := (N0 + 4)) (ob := ⟨100, 2, [[.int .i64 p1, .nilsl]]⟩) (row := [.int .i64 p1, .nilsl]) (r := 0) (i := 1) 78 5 [(N0 + 4, some ⟨100, 2, [[.int .i64 p1, .osl 78 5 (encL rInstr ([] : List gInstr))]]⟩)] (by simp (disch := omega)) rfl rfl (by simp (disch := omega)) (by simp (disch := omega) [encL_nil, List.set_set, app_set]) ?_
           obtain ⟨r29, hr29, H⟩ := bindE H
           refine AWP_rt tok [] [7] (fun a σ => ∃ M22 : Nat, N0 + 30 ≤ M22 ∧ a = [(7, .ptr (N0 + 4) 0 0)] ∧ σ = hp E0 [(N0 + 4, some ⟨100, 2, [[.int .i64 r29.colors, .osl 78 5 (encL rInstr r29.list)]]⟩)] M22) (fun K hK => ?_) ?_
           ·
            simp -dsimp -implicitDefEqProofs (maxDischargeDepth := 6)
            refine (c74 (W0 := [[.int .i64 p1, .osl 78 5 (encL rInstr ([] : List gInstr))]]) (r0_ := 0) (H := hr29) (by simp []) (by simp [])).mono ?_; rintro _ _ ⟨M22, fM22_0, rfl, rfl⟩; simp only [hp_next] at fM22_0
            try simp -dsimp -implicitDefEqProofs (maxDischargeDepth := 6) [hp_over_some, hp_over_none]
            exact hK _ _ ⟨M22, (by omega), rfl, rfl⟩
           rintro a σ ⟨M22, fM22_0, ha, rfl⟩
           replace H := oi H; subst H
           refine hJ1 _ _ ?_; rw [ha]
           exact Rc.fin (AHeap.Sub.refl _) ⟨M22, (by omega), (by omega), rfl, rfl⟩
          ·
           replace H := ifF C10 H
           refine AWP_skip ?_
           show K1 _ _
           refine kE [7] fun a' ha => ?_
           replace H := oi H; subst H
           refine hJ1 _ _ ?_; rw [ha]
           refine gPk0 Rc_ref (o := (N0 + 4)) (ob := ⟨100, 2, [[.int .i64 p1, .nilsl]]⟩) (row := [.int .i64 p1, .nilsl]) (r := 0) (i := 1) 78 5 [(N0 + 4, some ⟨100, 2, [[.int .i64 p1, .osl 78 5 (encL rInstr ([] : List gInstr))]]⟩)] (by simp (disch := omega)) rfl rfl (by simp (disch := omega)) (by simp (disch := omega) [encL_nil, List.set_set, app_set]) ?_
           exact Rc.fin (AHeap.Sub.refl _) ⟨N0 + 28, (by omega), (by omega), rfl, rfl⟩
theorem c18 {p0 : gQuad} {p1 : Int} {p2 : Int} {r : (List gInstr) × Bool} (H : i_QuadInstrs p0 p1 p2 = some r) : APure Tryd.prog G 18 [.agg [.int .i64 p0.Op, .int .i64 p0.Dst, .int .i64 p0.A, .int .i64 p0.B, .int .i64 p0.N], .int .i64 p1, .int .i64 p2] (.tup [.fsl (encL rInstr r.1), .bool r.2]) := by
 refine APure_fn (fun N0 => ?_) (by simp)
 refine ACalls_fn tok Tryd.func18 (by kernel_rfl) rfl Tryd.ntmps18 Tryd.results18 rfl ?_
 simp only [argsA, Nat.reduceAdd, hp_next]
 unfold i_QuadInstrs at H
 refine S0 tok [0] [1, 2, 3] ?_
 refine AWP_sq [1, 2, 3] fun K1 hK1 => ?_
 obtain ⟨r1, hr1, H⟩ := bindE H
 obtain ⟨g2, hg2, H⟩ := bindE H
 obtain ⟨g3, hg3, H⟩ := bindE H
 obtain ⟨g5, hg5, H⟩ := bindE H
 obtain ⟨g6, hg6, H⟩ := bindE H
 obtain ⟨g7, hg7, H⟩ := bindE H
 refine AWP_sr tok [] [1, 2, 3, 31] (fun a σ => a = [(1, .int .i64 p1), (2, .int .i64 p2), (3, .fptr [.int .i64 p0.Op, .int .i64 p0.Dst, .int .i64 p0.A, .int .i64 p0.B, .int .i64 p0.N] 0), (31, .bool g7)] ∧ σ = hp E0 [] (N0 + 27)) (fun K hK => ?_) ?_
 ·
  simp -dsimp -implicitDefEqProofs (maxDischargeDepth := 6)
  refine (c46 hr1).app ?_; try simp -dsimp -implicitDefEqProofs (maxDischargeDepth := 6)
  cases hbg2 : bnot r1
  ·
   replace hg2 := ifF hbg2 hg2
   replace hg2 := oi hg2; subst hg2
   try simp -dsimp -implicitDefEqProofs (maxDischargeDepth := 6) [hbg2]
   cases hbg3 : (ilt p1 1)
   ·
    replace hg3 := ifF hbg3 hg3
    replace hg3 := oi hg3; subst hg3
    try simp -dsimp -implicitDefEqProofs (maxDischargeDepth := 6) [hbg2, hbg3]
    cases hbg5 : (igt p1 8)
    ·
     replace hg5 := ifF hbg5 hg5
     obtain ⟨v4, hv4, hg5⟩ := bindE hg5
     replace hg5 := oi hg5; subst hg5
     try simp -dsimp -implicitDefEqProofs (maxDischargeDepth := 6) [hbg2, hbg3, hbg5, hv4]
     cases hbg6 : (ine v4 0)
     ·
      replace hg6 := ifF hbg6 hg6
      replace hg6 := oi hg6; subst hg6
      try simp -dsimp -implicitDefEqProofs (maxDischargeDepth := 6) [hbg2, hbg3, hbg5, hv4, hbg6]
      cases hbg7 : (ilt p2 (-100000))
      ·
       replace hg7 := ifF hbg7 hg7
       replace hg7 := oi hg7; subst hg7
       try simp -dsimp -implicitDefEqProofs (maxDischargeDepth := 6) [hbg2, hbg3, hbg5, hv4, hbg6, hbg7]
       exact hK _ _ ⟨rfl, rfl⟩
      ·
       replace hg7 := ifT hbg7 hg7
       replace hg7 := oi hg7; subst hg7
       try simp -dsimp -implicitDefEqProofs (maxDischargeDepth := 6) [hbg2, hbg3, hbg5, hv4, hbg6, hbg7]
       exact hK _ _ ⟨rfl, rfl⟩
     ·
      replace hg6 := ifT hbg6 hg6
      replace hg6 := oi hg6; subst hg6
      try simp -dsimp -implicitDefEqProofs (maxDischargeDepth := 6) [hbg2, hbg3, hbg5, hv4, hbg6]
      replace hg7 := ifT rfl hg7
      replace hg7 := oi hg7; subst hg7
      try simp -dsimp -implicitDefEqProofs (maxDischargeDepth := 6) [hbg2, hbg3, hbg5, hv4, hbg6]
      exact hK _ _ ⟨rfl, rfl⟩
    ·
     replace hg5 := ifT hbg5 hg5
     replace hg5 := oi hg5; subst hg5
     try simp -dsimp -implicitDefEqProofs (maxDischargeDepth := 6) [hbg2, hbg3, hbg5]
     replace hg6 := ifT rfl hg6
     replace hg6 := oi hg6; subst hg6
     try simp -dsimp -implicitDefEqProofs (maxDischargeDepth := 6) [hbg2, hbg3, hbg5]
     replace hg7 := ifT rfl hg7
     replace hg7 := oi hg7; subst hg7
     try simp -dsimp -implicitDefEqProofs (maxDischargeDepth := 6) [hbg2, hbg3, hbg5]
     exact hK _ _ ⟨rfl, rfl⟩
   ·
    replace hg3 := ifT hbg3 hg3
    replace hg3 := oi hg3; subst hg3
    try simp -dsimp -implicitDefEqProofs (maxDischargeDepth := 6) [hbg2, hbg3]
    replace hg5 := ifT rfl hg5
    replace hg5 := oi hg5; subst hg5
    try simp -dsimp -implicitDefEqProofs (maxDischargeDepth := 6) [hbg2, hbg3]
    replace hg6 := ifT rfl hg6
    replace hg6 := oi hg6; subst hg6
    try simp -dsimp -implicitDefEqProofs (maxDischargeDepth := 6) [hbg2, hbg3]
    replace hg7 := ifT rfl hg7
    replace hg7 := oi hg7; subst hg7
    try simp -dsimp -implicitDefEqProofs (maxDischargeDepth := 6) [hbg2, hbg3]
    exact hK _ _ ⟨rfl, rfl⟩
  ·
   replace hg2 := ifT hbg2 hg2
   replace hg2 := oi hg2; subst hg2
   try simp -dsimp -implicitDefEqProofs (maxDischargeDepth := 6) [hbg2]
   replace hg3 := ifT rfl hg3
   replace hg3 := oi hg3; subst hg3
   try simp -dsimp -implicitDefEqProofs (maxDischargeDepth := 6) [hbg2]
   replace hg5 := ifT rfl hg5
   replace hg5 := oi hg5; subst hg5
   try simp -dsimp -implicitDefEqProofs (maxDischargeDepth := 6) [hbg2]
   replace hg6 := ifT rfl hg6
   replace hg6 := oi hg6; subst hg6
   try simp -dsimp -implicitDefEqProofs (maxDischargeDepth := 6) [hbg2]
   replace hg7 := ifT rfl hg7
   replace hg7 := oi hg7; subst hg7
   try simp -dsimp -implicitDefEqProofs (maxDischargeDepth := 6) [hbg2]
   exact hK _ _ ⟨rfl, rfl⟩
 rintro a σ ⟨rfl, rfl⟩
 refine AWP_cond g7 rfl (fun C1 => ?_) (fun C1 => ?_)
 ·
  replace H := ifT C1 H
  refine S0 tok [] [6, 7] ?_
  replace H := oi H; subst H; exact AWP_ret ⟨_, rfl, 4, by simp [encL_nil]⟩
 ·
  replace H := ifF C1 H
  refine AWP_skip (Jn hK1 ?_)
  obtain ⟨r8, hr8, H⟩ := bindE H
  refine Sx tok [] [6, 7] (by intro K k; (repeat first | simp -dsimp -implicitDefEqProofs (maxDischargeDepth := 6) | refine (c47 hr8).app ?_); exact k) ?_
  replace H := oi H; subst H; exact AWP_ret ⟨_, rfl, 4, by simp [encL_nil]⟩
theorem c27 {p0 : Int} {p1 : Int} {p2 : Int} {r : Bool} (H : s_l6In p0 p1 p2 = some r) : APure Tryd.prog G 27 [.int .i64 p0, .int .i64 p1, .int .i64 p2] (.bool r) := by
 refine APure_fn (fun N0 => ?_) (by simp)
 refine ACalls_fn tok Tryd.func27 (by kernel_rfl) rfl Tryd.ntmps27 Tryd.results27 rfl ?_
 simp only [argsA, Nat.reduceAdd, hp_next]
 unfold s_l6In at H
 refine S0 tok [] [0, 1, 2] ?_
 obtain ⟨g1, hg1, H⟩ := bindE H
 refine AWP_sr tok [] [6] (fun a σ => a = [(6, .bool g1)] ∧ σ = hp E0 [] (N0 + 10)) (fun K hK => ?_) ?_
 ·
  simp -dsimp -implicitDefEqProofs (maxDischargeDepth := 6)
  cases hbg1 : ige p0 p1
  ·
   replace hg1 := ifF hbg1 hg1
   replace hg1 := oi hg1; subst hg1
   try simp -dsimp -implicitDefEqProofs (maxDischargeDepth := 6) [hbg1]
   exact hK _ _ ⟨rfl, rfl⟩
  ·
   replace hg1 := ifT hbg1 hg1
   replace hg1 := oi hg1; subst hg1
   try simp -dsimp -implicitDefEqProofs (maxDischargeDepth := 6) [hbg1]
   exact hK _ _ ⟨rfl, rfl⟩
 rintro a σ ⟨rfl, rfl⟩
 replace H := oi H; subst H; exact AWP_ret ⟨_, rfl, 4, by simp [encL_nil]⟩
theorem c106 {p0 : Int} {p1 : Bool} {r : Bool} (H : s_l21Reg p0 p1 = some r) : APure Tryd.prog G 106 [.int .i64 p0, .bool p1] (.bool r) := by
 refine APure_fn (fun N0 => ?_) (by simp)
 refine ACalls_fn tok Tryd.func106 (by kernel_rfl) rfl Tryd.ntmps106 Tryd.results106 rfl ?_
 simp only [argsA, Nat.reduceAdd, hp_next]
 unfold s_l21Reg at H
 refine S0 tok [] [0, 1] ?_
 refine AWP_sq [0] fun K1 hK1 => ?_
 refine S0 tok [] [0, 5] ?_
 refine AWP_cond p1 rfl (fun C1 => ?_) (fun C1 => ?_)
 ·
  replace H := ifT C1 H
  obtain ⟨r1, hr1, H⟩ := bindE H
  refine Sx tok [] [4] (by intro K k; (repeat first | simp -dsimp -implicitDefEqProofs (maxDischargeDepth := 6) | refine (c27 hr1).app ?_); exact k) ?_
  replace H := oi H; subst H; exact AWP_ret ⟨_, rfl, 4, by simp [encL_nil]⟩
 ·
  replace H := ifF C1 H
  refine AWP_skip (Jn hK1 ?_)
  refine S0 tok [] [4] ?_
  replace H := oi H; subst H; exact AWP_ret ⟨_, rfl, 4, by simp [encL_nil]⟩
theorem c76 {p0 : gQuad} {p1 : Bool} {p2 : Bool} {p3 : Bool} {r : Bool} (H : s_l21Regs p0 p1 p2 p3 = some r) : APure Tryd.prog G 76 [.agg [.int .i64 p0.Op, .int .i64 p0.Dst, .int .i64 p0.A, .int .i64 p0.B, .int .i64 p0.N], .bool p1, .bool p2, .bool p3] (.bool r) := by
 refine APure_fn (fun N0 => ?_) (by simp)
 refine ACalls_fn tok Tryd.func76 (by kernel_rfl) rfl Tryd.ntmps76 Tryd.results76 rfl ?_
 simp only [argsA, Nat.reduceAdd, hp_next]
 unfold s_l21Regs at H
 refine S0 tok [0] [1, 2, 3, 4] ?_
 obtain ⟨r1, hr1, H⟩ := bindE H
 obtain ⟨g3, hg3, H⟩ := bindE H
 obtain ⟨g5, hg5, H⟩ := bindE H
 refine AWP_sr tok [] [8] (fun a σ => a = [(8, .bool g5)] ∧ σ = hp E0 [] (N0 + 19)) (fun K hK => ?_) ?_
 ·
  simp -dsimp -implicitDefEqProofs (maxDischargeDepth := 6)
  refine (c106 hr1).app ?_; try simp -dsimp -implicitDefEqProofs (maxDischargeDepth := 6)
  cases hbg3 : r1
  ·
   replace hg3 := ifF hbg3 hg3
   replace hg3 := oi hg3; subst hg3
   try simp -dsimp -implicitDefEqProofs (maxDischargeDepth := 6) [hbg3]
   replace hg5 := ifF rfl hg5
   replace hg5 := oi hg5; subst hg5
   try simp -dsimp -implicitDefEqProofs (maxDischargeDepth := 6) [hbg3]
   exact hK _ _ ⟨rfl, rfl⟩
  ·
   replace hg3 := ifT hbg3 hg3
   obtain ⟨r2, hr2, hg3⟩ := bindE hg3
   replace hg3 := oi hg3; subst hg3
   try simp -dsimp -implicitDefEqProofs (maxDischargeDepth := 6) [hbg3]
   refine (c106 hr2).app ?_; try simp -dsimp -implicitDefEqProofs (maxDischargeDepth := 6) [hbg3]
   cases hbg5 : r2
   ·
    replace hg5 := ifF hbg5 hg5
    replace hg5 := oi hg5; subst hg5
    try simp -dsimp -implicitDefEqProofs (maxDischargeDepth := 6) [hbg3, hbg5]
    exact hK _ _ ⟨rfl, rfl⟩
   ·
    replace hg5 := ifT hbg5 hg5
    obtain ⟨r4, hr4, hg5⟩ := bindE hg5
    replace hg5 := oi hg5; subst hg5
    try simp -dsimp -implicitDefEqProofs (maxDischargeDepth := 6) [hbg3, hbg5]
    refine (c106 hr4).app ?_; try simp -dsimp -implicitDefEqProofs (maxDischargeDepth := 6) [hbg3, hbg5]
    exact hK _ _ ⟨rfl, rfl⟩
 rintro a σ ⟨rfl, rfl⟩
 replace H := oi H; subst H; exact AWP_ret ⟨_, rfl, 4, by simp [encL_nil]⟩
theorem c77 {p0 : Int} {r : Bool} (H : s_WordValid p0 = some r) : APure Tryd.prog G 77 [.int .i64 p0] (.bool r) := by
 refine APure_fn (fun N0 => ?_) (by simp)
 refine ACalls_fn tok Tryd.func77 (by kernel_rfl) rfl Tryd.ntmps77 Tryd.results77 rfl ?_
 simp only [argsA, Nat.reduceAdd, hp_next]
 unfold s_WordValid at H
 refine S0 tok [] [0] ?_
 obtain ⟨r1, hr1, H⟩ := bindE H
 refine Sx tok [] [2] (by intro K k; (repeat first | simp -dsimp -implicitDefEqProofs (maxDischargeDepth := 6) | refine (c27 hr1).app ?_); exact k) ?_
 replace H := oi H; subst H; exact AWP_ret ⟨_, rfl, 4, by simp [encL_nil]⟩
theorem c78 {p0 : Int} {r : Bool} (H : s_OpValid p0 = some r) : APure Tryd.prog G 78 [.int .i64 p0] (.bool r) := by
 refine APure_fn (fun N0 => ?_) (by simp)
 refine ACalls_fn tok Tryd.func78 (by kernel_rfl) rfl Tryd.ntmps78 Tryd.results78 rfl ?_
 simp only [argsA, Nat.reduceAdd, hp_next]
 unfold s_OpValid at H
 refine S0 tok [] [0] ?_
 obtain ⟨r1, hr1, H⟩ := bindE H
 refine Sx tok [] [2] (by intro K k; (repeat first | simp -dsimp -implicitDefEqProofs (maxDischargeDepth := 6) | refine (c27 hr1).app ?_); exact k) ?_
 replace H := oi H; subst H; exact AWP_ret ⟨_, rfl, 4, by simp [encL_nil]⟩
theorem c48 {p0 : gQuad} {p1 : Int} {r : Bool} (H : s_QuadValid p0 p1 = some r) : APure Tryd.prog G 48 [.agg [.int .i64 p0.Op, .int .i64 p0.Dst, .int .i64 p0.A, .int .i64 p0.B, .int .i64 p0.N], .int .i64 p1] (.bool r) := by
 refine APure_fn (fun N0 => ?_) (by simp)
 refine ACalls_fn tok Tryd.func48 (by kernel_rfl) rfl Tryd.ntmps48 Tryd.results48 rfl ?_
 simp only [argsA, Nat.reduceAdd, hp_next]
 unfold s_QuadValid at H
 refine S0 tok [0] [1, 2] ?_
 refine AWP_sq [] fun K1 hK1 => ?_
 refine S0 tok [] [1, 2, 6] ?_
 refine AWP_block (AWP_thenB ?_)
 refine S0 tok [] [1, 2, 6, 7] ?_
 refine AWP_cond (ieq p0.Op 1) rfl (fun C1 => ?_) (fun C1 => ?_)
 ·
  replace H := ifT C1 H
  obtain ⟨r1, hr1, H⟩ := bindE H
  obtain ⟨g3, hg3, H⟩ := bindE H
  refine AWP_sr tok [] [4] (fun a σ => a = [(4, .bool g3)] ∧ σ = hp E0 [] (N0 + 14)) (fun K hK => ?_) ?_
  ·
   simp -dsimp -implicitDefEqProofs (maxDischargeDepth := 6)
   refine (c76 hr1).app ?_; try simp -dsimp -implicitDefEqProofs (maxDischargeDepth := 6)
   cases hbg3 : r1
   ·
    replace hg3 := ifF hbg3 hg3
    replace hg3 := oi hg3; subst hg3
    try simp -dsimp -implicitDefEqProofs (maxDischargeDepth := 6) [hbg3]
    exact hK _ _ ⟨rfl, rfl⟩
   ·
    replace hg3 := ifT hbg3 hg3
    obtain ⟨r2, hr2, hg3⟩ := bindE hg3
    replace hg3 := oi hg3; subst hg3
    try simp -dsimp -implicitDefEqProofs (maxDischargeDepth := 6) [hbg3]
    refine (c77 hr2).app ?_; try simp -dsimp -implicitDefEqProofs (maxDischargeDepth := 6) [hbg3]
    exact hK _ _ ⟨rfl, rfl⟩
  rintro a σ ⟨rfl, rfl⟩
  replace H := oi H; subst H; exact AWP_ret ⟨_, rfl, 4, by simp [encL_nil]⟩
 ·
  replace H := ifF C1 H
  refine S0 tok [] [1, 2, 6, 16] ?_
  refine AWP_cond (ieq p0.Op 2) rfl (fun C2 => ?_) (fun C2 => ?_)
  ·
   replace H := ifT C2 H
   obtain ⟨r4, hr4, H⟩ := bindE H
   obtain ⟨g5, hg5, H⟩ := bindE H
   refine AWP_sr tok [] [4] (fun a σ => a = [(4, .bool g5)] ∧ σ = hp E0 [] (N0 + 16)) (fun K hK => ?_) ?_
   ·
    simp -dsimp -implicitDefEqProofs (maxDischargeDepth := 6)
    refine (c76 hr4).app ?_; try simp -dsimp -implicitDefEqProofs (maxDischargeDepth := 6)
    cases hbg5 : r4
    ·
     replace hg5 := ifF hbg5 hg5
     replace hg5 := oi hg5; subst hg5
     try simp -dsimp -implicitDefEqProofs (maxDischargeDepth := 6) [hbg5]
     exact hK _ _ ⟨rfl, rfl⟩
    ·
     replace hg5 := ifT hbg5 hg5
     replace hg5 := oi hg5; subst hg5
     try simp -dsimp -implicitDefEqProofs (maxDischargeDepth := 6) [hbg5]
     exact hK _ _ ⟨rfl, rfl⟩
   rintro a σ ⟨rfl, rfl⟩
   replace H := oi H; subst H; exact AWP_ret ⟨_, rfl, 4, by simp [encL_nil]⟩
  ·
   replace H := ifF C2 H
   refine S0 tok [] [1, 2, 6, 25] ?_
   refine AWP_cond (ieq p0.Op 3) rfl (fun C3 => ?_) (fun C3 => ?_)
   ·
    replace H := ifT C3 H
    obtain ⟨r6, hr6, H⟩ := bindE H
    obtain ⟨g8, hg8, H⟩ := bindE H
    refine AWP_sr tok [] [4] (fun a σ => a = [(4, .bool g8)] ∧ σ = hp E0 [] (N0 + 18)) (fun K hK => ?_) ?_
    ·
     simp -dsimp -implicitDefEqProofs (maxDischargeDepth := 6)
     refine (c76 hr6).app ?_; try simp -dsimp -implicitDefEqProofs (maxDischargeDepth := 6)
     cases hbg8 : r6
     ·
      replace hg8 := ifF hbg8 hg8
      replace hg8 := oi hg8; subst hg8
      try simp -dsimp -implicitDefEqProofs (maxDischargeDepth := 6) [hbg8]
      exact hK _ _ ⟨rfl, rfl⟩
     ·
      replace hg8 := ifT hbg8 hg8
      obtain ⟨r7, hr7, hg8⟩ := bindE hg8
      replace hg8 := oi hg8; subst hg8
      try simp -dsimp -implicitDefEqProofs (maxDischargeDepth := 6) [hbg8]
      refine (c78 hr7).app ?_; try simp -dsimp -implicitDefEqProofs (maxDischargeDepth := 6) [hbg8]
      exact hK _ _ ⟨rfl, rfl⟩
    rintro a σ ⟨rfl, rfl⟩
    replace H := oi H; subst H; exact AWP_ret ⟨_, rfl, 4, by simp [encL_nil]⟩
   ·
    replace H := ifF C3 H
    refine S0 tok [] [1, 2, 6, 34] ?_
    refine AWP_cond (ieq p0.Op 4) rfl (fun C4 => ?_) (fun C4 => ?_)
    ·
     replace H := ifT C4 H
     obtain ⟨r9, hr9, H⟩ := bindE H
     obtain ⟨g10, hg10, H⟩ := bindE H
     obtain ⟨g11, hg11, H⟩ := bindE H
     refine AWP_sr tok [] [4] (fun a σ => a = [(4, .bool g11)] ∧ σ = hp E0 [] (N0 + 26)) (fun K hK => ?_) ?_
     ·
      simp -dsimp -implicitDefEqProofs (maxDischargeDepth := 6)
      refine (c76 hr9).app ?_; try simp -dsimp -implicitDefEqProofs (maxDischargeDepth := 6)
      cases hbg10 : r9
      ·
       replace hg10 := ifF hbg10 hg10
       replace hg10 := oi hg10; subst hg10
       try simp -dsimp -implicitDefEqProofs (maxDischargeDepth := 6) [hbg10]
       replace hg11 := ifF rfl hg11
       replace hg11 := oi hg11; subst hg11
       try simp -dsimp -implicitDefEqProofs (maxDischargeDepth := 6) [hbg10]
       exact hK _ _ ⟨rfl, rfl⟩
      ·
       replace hg10 := ifT hbg10 hg10
       replace hg10 := oi hg10; subst hg10
       try simp -dsimp -implicitDefEqProofs (maxDischargeDepth := 6) [hbg10]
       cases hbg11 : (ige p0.N 0)
       ·
        replace hg11 := ifF hbg11 hg11
        replace hg11 := oi hg11; subst hg11
        try simp -dsimp -implicitDefEqProofs (maxDischargeDepth := 6) [hbg10, hbg11]
        exact hK _ _ ⟨rfl, rfl⟩
       ·
        replace hg11 := ifT hbg11 hg11
        replace hg11 := oi hg11; subst hg11
        try simp -dsimp -implicitDefEqProofs (maxDischargeDepth := 6) [hbg10, hbg11]
        exact hK _ _ ⟨rfl, rfl⟩
     rintro a σ ⟨rfl, rfl⟩
     replace H := oi H; subst H; exact AWP_ret ⟨_, rfl, 4, by simp [encL_nil]⟩
    ·
     replace H := ifF C4 H
     refine S0 tok [] [1, 2, 6, 49] ?_
     refine AWP_cond (ieq p0.Op 5) rfl (fun C5 => ?_) (fun C5 => ?_)
     ·
      replace H := ifT C5 H
      obtain ⟨r12, hr12, H⟩ := bindE H
      obtain ⟨g13, hg13, H⟩ := bindE H
      obtain ⟨g14, hg14, H⟩ := bindE H
      refine AWP_sr tok [] [4] (fun a σ => a = [(4, .bool g14)] ∧ σ = hp E0 [] (N0 + 28)) (fun K hK => ?_) ?_
      ·
       simp -dsimp -implicitDefEqProofs (maxDischargeDepth := 6)
       refine (c76 hr12).app ?_; try simp -dsimp -implicitDefEqProofs (maxDischargeDepth := 6)
       cases hbg13 : r12
       ·
        replace hg13 := ifF hbg13 hg13
        replace hg13 := oi hg13; subst hg13
        try simp -dsimp -implicitDefEqProofs (maxDischargeDepth := 6) [hbg13]
        replace hg14 := ifF rfl hg14
        replace hg14 := oi hg14; subst hg14
        try simp -dsimp -implicitDefEqProofs (maxDischargeDepth := 6) [hbg13]
        exact hK _ _ ⟨rfl, rfl⟩
       ·
        replace hg13 := ifT hbg13 hg13
        replace hg13 := oi hg13; subst hg13
        try simp -dsimp -implicitDefEqProofs (maxDischargeDepth := 6) [hbg13]
        cases hbg14 : (ige p0.N 0)
        ·
         replace hg14 := ifF hbg14 hg14
         replace hg14 := oi hg14; subst hg14
         try simp -dsimp -implicitDefEqProofs (maxDischargeDepth := 6) [hbg13, hbg14]
         exact hK _ _ ⟨rfl, rfl⟩
        ·
         replace hg14 := ifT hbg14 hg14
         replace hg14 := oi hg14; subst hg14
         try simp -dsimp -implicitDefEqProofs (maxDischargeDepth := 6) [hbg13, hbg14]
         exact hK _ _ ⟨rfl, rfl⟩
      rintro a σ ⟨rfl, rfl⟩
      replace H := oi H; subst H; exact AWP_ret ⟨_, rfl, 4, by simp [encL_nil]⟩
     ·
      replace H := ifF C5 H
      refine S0 tok [] [2, 6, 64] ?_
      refine AWP_cond (ieq p0.Op 6) rfl (fun C6 => ?_) (fun C6 => ?_)
      ·
       replace H := ifT C6 H
       obtain ⟨r15, hr15, H⟩ := bindE H
       obtain ⟨g17, hg17, H⟩ := bindE H
       refine AWP_sr tok [] [4] (fun a σ => a = [(4, .bool g17)] ∧ σ = hp E0 [] (N0 + 24)) (fun K hK => ?_) ?_
       ·
        simp -dsimp -implicitDefEqProofs (maxDischargeDepth := 6)
        refine (c76 hr15).app ?_; try simp -dsimp -implicitDefEqProofs (maxDischargeDepth := 6)
        cases hbg17 : r15
        ·
         replace hg17 := ifF hbg17 hg17
         replace hg17 := oi hg17; subst hg17
         try simp -dsimp -implicitDefEqProofs (maxDischargeDepth := 6) [hbg17]
         exact hK _ _ ⟨rfl, rfl⟩
        ·
         replace hg17 := ifT hbg17 hg17
         obtain ⟨r16, hr16, hg17⟩ := bindE hg17
         replace hg17 := oi hg17; subst hg17
         try simp -dsimp -implicitDefEqProofs (maxDischargeDepth := 6) [hbg17]
         refine (c27 hr16).app ?_; try simp -dsimp -implicitDefEqProofs (maxDischargeDepth := 6) [hbg17]
         exact hK _ _ ⟨rfl, rfl⟩
       rintro a σ ⟨rfl, rfl⟩
       replace H := oi H; subst H; exact AWP_ret ⟨_, rfl, 4, by simp [encL_nil]⟩
      ·
       replace H := ifF C6 H
       refine S0 tok [] [2, 6, 73] ?_
       refine AWP_cond (ieq p0.Op 7) rfl (fun C7 => ?_) (fun C7 => ?_)
       ·
        replace H := ifT C7 H
        obtain ⟨r18, hr18, H⟩ := bindE H
        obtain ⟨g20, hg20, H⟩ := bindE H
        refine AWP_sr tok [] [4] (fun a σ => a = [(4, .bool g20)] ∧ σ = hp E0 [] (N0 + 26)) (fun K hK => ?_) ?_
        ·
         simp -dsimp -implicitDefEqProofs (maxDischargeDepth := 6)
         refine (c76 hr18).app ?_; try simp -dsimp -implicitDefEqProofs (maxDischargeDepth := 6)
         cases hbg20 : r18
         ·
          replace hg20 := ifF hbg20 hg20
          replace hg20 := oi hg20; subst hg20
          try simp -dsimp -implicitDefEqProofs (maxDischargeDepth := 6) [hbg20]
          exact hK _ _ ⟨rfl, rfl⟩
         ·
          replace hg20 := ifT hbg20 hg20
          obtain ⟨r19, hr19, hg20⟩ := bindE hg20
          replace hg20 := oi hg20; subst hg20
          try simp -dsimp -implicitDefEqProofs (maxDischargeDepth := 6) [hbg20]
          refine (c27 hr19).app ?_; try simp -dsimp -implicitDefEqProofs (maxDischargeDepth := 6) [hbg20]
          exact hK _ _ ⟨rfl, rfl⟩
        rintro a σ ⟨rfl, rfl⟩
        replace H := oi H; subst H; exact AWP_ret ⟨_, rfl, 4, by simp [encL_nil]⟩
       ·
        replace H := ifF C7 H
        refine S0 tok [] [2, 6, 82] ?_
        refine AWP_cond (ieq p0.Op 9) rfl (fun C8 => ?_) (fun C8 => ?_)
        ·
         replace H := ifT C8 H
         obtain ⟨r21, hr21, H⟩ := bindE H
         obtain ⟨g22, hg22, H⟩ := bindE H
         refine AWP_sr tok [] [4] (fun a σ => a = [(4, .bool g22)] ∧ σ = hp E0 [] (N0 + 28)) (fun K hK => ?_) ?_
         ·
          simp -dsimp -implicitDefEqProofs (maxDischargeDepth := 6)
          refine (c76 hr21).app ?_; try simp -dsimp -implicitDefEqProofs (maxDischargeDepth := 6)
          cases hbg22 : r21
          ·
           replace hg22 := ifF hbg22 hg22
           replace hg22 := oi hg22; subst hg22
           try simp -dsimp -implicitDefEqProofs (maxDischargeDepth := 6) [hbg22]
           exact hK _ _ ⟨rfl, rfl⟩
          ·
           replace hg22 := ifT hbg22 hg22
           replace hg22 := oi hg22; subst hg22
           try simp -dsimp -implicitDefEqProofs (maxDischargeDepth := 6) [hbg22]
           exact hK _ _ ⟨rfl, rfl⟩
         rintro a σ ⟨rfl, rfl⟩
         replace H := oi H; subst H; exact AWP_ret ⟨_, rfl, 4, by simp [encL_nil]⟩
        ·
         replace H := ifF C8 H
         obtain ⟨j1, hj1, H⟩ := bindE H
         refine AWP_seq (AWP_named fun K2 hK2 => ?_)
         have hJ1 : ∀ a σ, Rc G 101 N0 (fun a σ => ∃ M1 : Nat, N0 ≤ M1 ∧ a = [(2, .fptr [.int .i64 p0.Op, .int .i64 p0.Dst, .int .i64 p0.A, .int .i64 p0.B, .int .i64 p0.N] 0), (91, .bool j1)] ∧ σ = hp E0 [] M1) (a.keep [2, 91]) σ → K2 a σ := by
          rintro a σ ⟨b, τ, hr, M1, fM1_0, rfl, rfl⟩
          refine hK2 _ _ (AWP_keep [2, 91] (AWP_ref hr ?_))
          refine AWP_cond j1 rfl (fun C9 => ?_) (fun C9 => ?_)
          ·
           replace H := ifT C9 H
           obtain ⟨r24, hr24, H⟩ := bindE H
           obtain ⟨g25, hg25, H⟩ := bindE H
           refine AWP_sr tok [] [4] (fun a σ => a = [(4, .bool g25)] ∧ σ = hp E0 [] (M1 + 8)) (fun K hK => ?_) ?_
           ·
            simp -dsimp -implicitDefEqProofs (maxDischargeDepth := 6)
            refine (c76 hr24).app ?_; try simp -dsimp -implicitDefEqProofs (maxDischargeDepth := 6)
            cases hbg25 : r24
            ·
             replace hg25 := ifF hbg25 hg25
             replace hg25 := oi hg25; subst hg25
             try simp -dsimp -implicitDefEqProofs (maxDischargeDepth := 6) [hbg25]
             exact hK _ _ ⟨rfl, rfl⟩
            ·
             replace hg25 := ifT hbg25 hg25
             replace hg25 := oi hg25; subst hg25
             try simp -dsimp -implicitDefEqProofs (maxDischargeDepth := 6) [hbg25]
             exact hK _ _ ⟨rfl, rfl⟩
           rintro a σ ⟨rfl, rfl⟩
           replace H := oi H; subst H; exact AWP_ret ⟨_, rfl, 4, by simp [encL_nil]⟩
          ·
           replace H := ifF C9 H
           refine AWP_skip (Jn hK1 ?_)
           refine S0 tok [] [4] ?_
           replace H := oi H; subst H; exact AWP_ret ⟨_, rfl, 4, by simp [encL_nil]⟩
         replace H := hj1
         refine S0 tok [] [2, 6, 91] ?_
         refine AWP_cond (ieq p0.Op 8) rfl (fun C10 => ?_) (fun C10 => ?_)
         ·
          replace H := ifT C10 H
          refine AWP_skip ?_
          show K2 _ _
          refine kE [2, 91] fun a' ha => ?_
          replace H := oi H; subst H
          refine hJ1 _ _ ?_; rw [ha]
          exact Rc.fin (AHeap.Sub.refl _) ⟨N0 + 22, (by omega), rfl, rfl⟩
         ·
          replace H := ifF C10 H
          refine AWP_rt tok [] [2, 91] (fun a σ => a = [(2, .fptr [.int .i64 p0.Op, .int .i64 p0.Dst, .int .i64 p0.A, .int .i64 p0.B, .int .i64 p0.N] 0), (91, .bool (ieq p0.Op 10))] ∧ σ = hp E0 [] (N0 + 24)) (fun K hK => ?_) ?_
          ·
           simp -dsimp -implicitDefEqProofs (maxDischargeDepth := 6)
           exact hK _ _ ⟨rfl, rfl⟩
          rintro a σ ⟨ha, rfl⟩
          replace H := oi H; subst H
          refine hJ1 _ _ ?_; rw [ha]
          exact Rc.fin (AHeap.Sub.refl _) ⟨N0 + 24, (by omega), rfl, rfl⟩
theorem c79 {p0 : Int} {p1 : Int} {p2 : Int} {r : Int} (H : s_l43Reg p0 p1 p2 = some r) : APure Tryd.prog G 79 [.int .i64 p0, .int .i64 p1, .int .i64 p2] (.int .i64 r) := by
 refine APure_fn (fun N0 => ?_) (by simp)
 refine ACalls_fn tok Tryd.func79 (by kernel_rfl) rfl Tryd.ntmps79 Tryd.results79 rfl ?_
 simp only [argsA, Nat.reduceAdd, hp_next]
 unfold s_l43Reg at H
 refine S0 tok [] [0, 1, 2] ?_
 refine AWP_sq [0] fun K1 hK1 => ?_
 refine S0 tok [] [0, 2, 9] ?_
 refine AWP_cond (ige p0 p1) rfl (fun C1 => ?_) (fun C1 => ?_)
 ·
  replace H := ifT C1 H
  refine S0 tok [] [6] ?_
  replace H := oi H; subst H; exact AWP_ret ⟨_, rfl, 4, by simp [encL_nil]⟩
 ·
  replace H := ifF C1 H
  refine AWP_skip (Jn hK1 ?_)
  obtain ⟨v1, hv1, H⟩ := bindE H
  have q0 : ∀ σ i, buildSliceA T 22 true i 8 [(0, .int .i64 8), (1, .int .i64 9), (2, .int .i64 18), (3, .int .i64 19), (4, .int .i64 20), (5, .int .i64 21), (6, .int .i64 22), (7, .int .i64 23)] σ = some (.fsl (encL rI ([8, 9, 18, 19, 20, 21, 22, 23] : List Int)), σ) := fun _ _ => rfl
  refine Sx tok [0] [6] (by intro K k; simp -dsimp -implicitDefEqProofs (maxDischargeDepth := 6) [q0, ix22 hv1]; exact k) ?_
  replace H := oi H; subst H; exact AWP_ret ⟨_, rfl, 4, by simp [encL_nil]⟩
theorem c109 {p0 : Int} {r : Int} (H : s_Unsigned p0 = some r) : APure Tryd.prog G 109 [.int .i64 p0] (.int .i64 r) := by
 refine APure_fn (fun N0 => ?_) (by simp)
 refine ACalls_fn tok Tryd.func109 (by kernel_rfl) rfl Tryd.ntmps109 Tryd.results109 rfl ?_
 simp only [argsA, Nat.reduceAdd, hp_next]
 unfold s_Unsigned at H
 refine S0 tok [] [0] ?_
 refine AWP_sq [0] fun K1 hK1 => ?_
 obtain ⟨r1, hr1, H⟩ := bindE H
 refine Sx tok [] [0, 5] (by intro K k; (repeat first | simp -dsimp -implicitDefEqProofs (maxDischargeDepth := 6) | refine (c77 hr1).app ?_); exact k) ?_
 refine AWP_cond (bnot r1) rfl (fun C1 => ?_) (fun C1 => ?_)
 ·
  replace H := ifT C1 H
  refine S0 tok [] [2] ?_
  replace H := oi H; subst H; exact AWP_ret ⟨_, rfl, 4, by simp [encL_nil]⟩
 ·
  replace H := ifF C1 H
  refine AWP_skip (Jn hK1 ?_)
  refine AWP_sq [0] fun K2 hK2 => ?_
  refine S0 tok [] [0, 7] ?_
  refine AWP_cond (ilt p0 0) rfl (fun C2 => ?_) (fun C2 => ?_)
  ·
   replace H := ifT C2 H
   refine S0 tok [] [2] ?_
   replace H := oi H; subst H; exact AWP_ret ⟨_, rfl, 4, by simp [encL_nil]⟩
  ·
   replace H := ifF C2 H
   refine AWP_skip (Jn hK2 ?_)
   refine S0 tok [] [2] ?_
   replace H := oi H; subst H; exact AWP_ret ⟨_, rfl, 4, by simp [encL_nil]⟩
theorem c117 {p0 : Int} {r : Int} (H : s_l1Power p0 = some r) : APure Tryd.prog G 117 [.int .i64 p0] (.int .i64 r) := by
 refine APure_fn (fun N0 => ?_) (by simp)
 refine ACalls_fn tok Tryd.func117 (by kernel_rfl) rfl Tryd.ntmps117 Tryd.results117 rfl ?_
 simp only [argsA, Nat.reduceAdd, hp_next]
 unfold s_l1Power at H
 refine S0 tok [] [0] ?_
 refine S0 tok [] [0, 3] ?_
 refine AWP_sq [3] fun K1 hK1 => ?_
 refine S0 tok [] [0, 3, 4] ?_
 refine AWP_block (AWP_thenB ?_)
 obtain ⟨e1, hse1, H⟩ := bindE H
 refine AWP_lp [0, 3, 4] (fun s a σ => ∃ M1 : Nat, N0 ≤ M1 ∧ a = [(0, .int .i64 p0), (3, .int .i64 s.1), (4, .int .i64 s.2)] ∧ σ = hp E0 [] M1) (fun s x a σ => x = .exit 0 ∧ Rc G 13 N0 (fun a σ => ∃ M2 : Nat, N0 ≤ M2 ∧ a = [(3, .int .i64 s)] ∧ σ = hp E0 [] M2) (AAct.keep a [3]) σ) hse1 ?_ ?_ ?_
 ·
  refine Rc.kp [0, 3, 4] [(0, .int .i64 p0), (3, .int .i64 1), (4, .int .i64 0)] rfl ?_
  exact Rc.fin (AHeap.Sub.refl _) ⟨N0 + 3, (by omega), rfl, rfl⟩
 ·
  clear H hse1
  rintro ⟨s1, s2⟩ fl a σ H ⟨M1, fM1_0, rfl, rfl⟩ K2 O2 hK2 hO2
  unfold s_l1Power_L1 at H; dsimp only at H
  refine AWP_sq [0, 3, 4] fun K3 hK3 => ?_
  refine S0 tok [] [0, 3, 4, 7] ?_
  refine AWP_cond (ilt s2 p0) rfl (fun C1 => ?_) (fun C1 => ?_)
  ·
   replace H := ifT C1 H
   refine AWP_skip (Jn hK3 ?_)
   refine AWP_sq [0, 3, 4] fun K4 hK4 => ?_
   refine AWP_block (AWP_thenB ?_)
   refine AWP_rt tok [] [0, 3, 4] (fun a σ => a = [(0, .int .i64 p0), (3, .int .i64 (imul .i64 s1 2)), (4, .int .i64 s2)] ∧ σ = hp E0 [] (M1 + 6)) (fun K hK => ?_) ?_
   ·
    simp -dsimp -implicitDefEqProofs (maxDischargeDepth := 6)
    exact hK _ _ ⟨rfl, rfl⟩
   rintro a σ ⟨ha, rfl⟩
   refine hK4 _ _ ?_; rw [ha]
   refine Rc.mk ?_
   refine AWP_rt tok [] [0, 3, 4] (fun a σ => a = [(0, .int .i64 p0), (3, .int .i64 (imul .i64 s1 2)), (4, .int .i64 (iadd .i64 s2 1))] ∧ σ = hp E0 [] (M1 + 9)) (fun K hK => ?_) ?_
   ·
    simp -dsimp -implicitDefEqProofs (maxDischargeDepth := 6)
    exact hK _ _ ⟨rfl, rfl⟩
   rintro a σ ⟨ha, rfl⟩
   replace H := oi H; subst H
   refine hK2 _ _ _ rfl ?_; rw [ha]
   exact Rc.fin (AHeap.Sub.refl _) ⟨M1 + 9, (by omega), rfl, rfl⟩
  ·
   replace H := ifF C1 H
   replace H := oi H; subst H
   refine AWP_exit (hO2 _ _ _ _ rfl ⟨rfl, ?_⟩)
   refine Rc.rw (l := [3]) (X := [(3, .int .i64 s1)]) rfl ?_
   exact Rc.fin (AHeap.Sub.refl _) ⟨M1 + 3, (by omega), rfl, rfl⟩
 ·
  intro x a σ hx
  obtain ⟨y3, rfl⟩ : ∃ x, x = e1 := ⟨_, rfl⟩
  obtain ⟨rfl, b, τ, hr, M2, fM2_0, rfl, rfl⟩ := hx
  dsimp only at H
  show K1 _ _
  refine hK1 _ _ (Rc_ref hr ?_)
  refine Rc.mk ?_
  refine S0 tok [] [2] ?_
  replace H := oi H; subst H; exact AWP_ret ⟨_, rfl, 4, by simp [encL_nil]⟩
theorem c108 {p0 : Int} {p1 : Int} {p2 : Int} {r : Int} (H : s_Bits p0 p1 p2 = some r) : APure Tryd.prog G 108 [.int .i64 p0, .int .i64 p1, .int .i64 p2] (.int .i64 r) := by
 refine APure_fn (fun N0 => ?_) (by simp)
 refine ACalls_fn tok Tryd.func108 (by kernel_rfl) rfl Tryd.ntmps108 Tryd.results108 rfl ?_
 simp only [argsA, Nat.reduceAdd, hp_next]
 unfold s_Bits at H
 refine S0 tok [] [0, 1, 2] ?_
 refine AWP_sq [0, 1, 2] fun K1 hK1 => ?_
 obtain ⟨r1, hr1, H⟩ := bindE H
 obtain ⟨g3, hg3, H⟩ := bindE H
 obtain ⟨g5, hg5, H⟩ := bindE H
 refine AWP_sr tok [] [0, 1, 2, 21] (fun a σ => a = [(0, .int .i64 p0), (1, .int .i64 p1), (2, .int .i64 p2), (21, .bool g5)] ∧ σ = hp E0 [] (N0 + 16)) (fun K hK => ?_) ?_
 ·
  simp -dsimp -implicitDefEqProofs (maxDischargeDepth := 6)
  refine (c27 hr1).app ?_; try simp -dsimp -implicitDefEqProofs (maxDischargeDepth := 6)
  cases hbg3 : bnot r1
  ·
   replace hg3 := ifF hbg3 hg3
   obtain ⟨r2, hr2, hg3⟩ := bindE hg3
   replace hg3 := oi hg3; subst hg3
   try simp -dsimp -implicitDefEqProofs (maxDischargeDepth := 6) [hbg3]
   refine (c27 hr2).app ?_; try simp -dsimp -implicitDefEqProofs (maxDischargeDepth := 6) [hbg3]
   cases hbg5 : (bnot r2)
   ·
    replace hg5 := ifF hbg5 hg5
    obtain ⟨r4, hr4, hg5⟩ := bindE hg5
    replace hg5 := oi hg5; subst hg5
    try simp -dsimp -implicitDefEqProofs (maxDischargeDepth := 6) [hbg3, hbg5]
    refine (c27 hr4).app ?_; try simp -dsimp -implicitDefEqProofs (maxDischargeDepth := 6) [hbg3, hbg5]
    exact hK _ _ ⟨rfl, rfl⟩
   ·
    replace hg5 := ifT hbg5 hg5
    replace hg5 := oi hg5; subst hg5
    try simp -dsimp -implicitDefEqProofs (maxDischargeDepth := 6) [hbg3, hbg5]
    exact hK _ _ ⟨rfl, rfl⟩
  ·
   replace hg3 := ifT hbg3 hg3
   replace hg3 := oi hg3; subst hg3
   try simp -dsimp -implicitDefEqProofs (maxDischargeDepth := 6) [hbg3]
   replace hg5 := ifT rfl hg5
   replace hg5 := oi hg5; subst hg5
   try simp -dsimp -implicitDefEqProofs (maxDischargeDepth := 6) [hbg3]
   exact hK _ _ ⟨rfl, rfl⟩
 rintro a σ ⟨rfl, rfl⟩
 refine AWP_cond g5 rfl (fun C1 => ?_) (fun C1 => ?_)
 ·
  replace H := ifT C1 H
  refine S0 tok [] [6] ?_
  replace H := oi H; subst H; exact AWP_ret ⟨_, rfl, 4, by simp [encL_nil]⟩
 ·
  replace H := ifF C1 H
  refine AWP_skip (Jn hK1 ?_)
  obtain ⟨r6, hr6, H⟩ := bindE H
  obtain ⟨v7, hv7, H⟩ := bindE H
  obtain ⟨r8, hr8, H⟩ := bindE H
  obtain ⟨v9, hv9, H⟩ := bindE H
  refine Sd tok tokM [] [] [0, 1, 2, 3, 4, 5, 6, 7] [6] (by
   intro K k
   simp only [pickL, nthO_succ, nthO_zero]
   repeat first | simp -dsimp -implicitDefEqProofs (maxDischargeDepth := 6) [hv7, hv9] | refine Pc.mk (c117 hr6) ?_ | refine Pc.mk (c117 hr8) ?_
   exact k) ?_
  replace H := oi H; subst H; exact AWP_ret ⟨_, rfl, 4, by simp [encL_nil]⟩
theorem c107 {p0 : Int} {p1 : Int} {r : Int} (H : s_SignExtend p0 p1 = some r) : APure Tryd.prog G 107 [.int .i64 p0, .int .i64 p1] (.int .i64 r) := by
 refine APure_fn (fun N0 => ?_) (by simp)
 refine ACalls_fn tok Tryd.func107 (by kernel_rfl) rfl Tryd.ntmps107 Tryd.results107 rfl ?_
 simp only [argsA, Nat.reduceAdd, hp_next]
 unfold s_SignExtend at H
 refine S0 tok [] [0, 1] ?_
 refine AWP_sq [0, 1] fun K1 hK1 => ?_
 obtain ⟨r1, hr1, H⟩ := bindE H
 obtain ⟨g4, hg4, H⟩ := bindE H
 refine AWP_sr tok [] [0, 1, 15] (fun a σ => a = [(0, .int .i64 p0), (1, .int .i64 p1), (15, .bool g4)] ∧ σ = hp E0 [] (N0 + 12)) (fun K hK => ?_) ?_
 ·
  simp -dsimp -implicitDefEqProofs (maxDischargeDepth := 6)
  refine (c27 hr1).app ?_; try simp -dsimp -implicitDefEqProofs (maxDischargeDepth := 6)
  cases hbg4 : bnot r1
  ·
   replace hg4 := ifF hbg4 hg4
   obtain ⟨r2, hr2, hg4⟩ := bindE hg4
   obtain ⟨r3, hr3, hg4⟩ := bindE hg4
   replace hg4 := oi hg4; subst hg4
   try simp -dsimp -implicitDefEqProofs (maxDischargeDepth := 6) [hbg4]
   refine (c117 hr2).app ?_; try simp -dsimp -implicitDefEqProofs (maxDischargeDepth := 6) [hbg4]
   refine (c27 hr3).app ?_; try simp -dsimp -implicitDefEqProofs (maxDischargeDepth := 6) [hbg4]
   exact hK _ _ ⟨rfl, rfl⟩
  ·
   replace hg4 := ifT hbg4 hg4
   replace hg4 := oi hg4; subst hg4
   try simp -dsimp -implicitDefEqProofs (maxDischargeDepth := 6) [hbg4]
   exact hK _ _ ⟨rfl, rfl⟩
 rintro a σ ⟨rfl, rfl⟩
 refine AWP_cond g4 rfl (fun C1 => ?_) (fun C1 => ?_)
 ·
  replace H := ifT C1 H
  refine S0 tok [] [4] ?_
  replace H := oi H; subst H; exact AWP_ret ⟨_, rfl, 4, by simp [encL_nil]⟩
 ·
  replace H := ifF C1 H
  refine AWP_skip (Jn hK1 ?_)
  refine AWP_sq [0] fun K2 hK2 => ?_
  obtain ⟨r5, hr5, H⟩ := bindE H
  refine Sx tok [] [0, 1, 20] (by intro K k; (repeat first | simp -dsimp -implicitDefEqProofs (maxDischargeDepth := 6) | refine (c117 hr5).app ?_); exact k) ?_
  refine AWP_cond (ige p0 r5) rfl (fun C2 => ?_) (fun C2 => ?_)
  ·
   replace H := ifT C2 H
   obtain ⟨r6, hr6, H⟩ := bindE H
   refine Sx tok [] [4] (by intro K k; (repeat first | simp -dsimp -implicitDefEqProofs (maxDischargeDepth := 6) | refine (c117 hr6).app ?_); exact k) ?_
   replace H := oi H; subst H; exact AWP_ret ⟨_, rfl, 4, by simp [encL_nil]⟩
  ·
   replace H := ifF C2 H
   refine AWP_skip (Jn hK2 ?_)
   refine S0 tok [] [4] ?_
   replace H := oi H; subst H; exact AWP_ret ⟨_, rfl, 4, by simp [encL_nil]⟩
end Go.Proofs.YtlcilhmkbmgkeaaDoor
