/- The contracts of functions of the program, part 3: each computes what its mirror computes. No conditions. -/
import Derived.Test.YtoklfbdcghgmlaaNYT2
set_option linter.unusedSimpArgs false
set_option linter.unusedVariables false
set_option maxRecDepth 20000
set_option maxHeartbeats 4000000
namespace Go.Proofs.Ytoklfbdcghgmlaa
open Go Go.Abs Go.RowKit

theorem c76 {p0 : gL6Rd} {r : (List gBox) × gL6Rd} (H : s_l92Boxes p0 = some r) {σ : AHeap} {w0 : Nat} {W0 : List (List AV)} {r0_ : Nat} (q0 : σ.objs w0 = some ⟨118, 2, W0⟩) (g0 : W0[r0_]? = some [.fsl (encL rI_u8 p0.b), .int .i64 p0.p]) : ACalls Try.prog G 76 [.ptr w0 r0_ 0] σ (fun v σ' => ∃ M : Nat, σ.next ≤ M ∧ v = .fsl (encL rBox r.1) ∧ σ' = hp σ.objs [(w0, some ⟨118, 2, W0.set r0_ [.fsl (encL rI_u8 r.2.b), .int .i64 r.2.p]⟩)] M) := by
 refine ACalls_fr (L := [(w0, some ⟨118, 2, W0⟩)]) (Q1 := fun v σ' => ∃ M : Nat, σ.next ≤ M ∧ v = .fsl (encL rBox r.1) ∧ σ' = hp E0 [(w0, some ⟨118, 2, W0.set r0_ [.fsl (encL rI_u8 r.2.b), .int .i64 r.2.p]⟩)] M) (by simp [q0]) (fun hlt => ?_) ?_ ⟨_, Try.func76, rfl, rfl⟩
 rotate_left
 ·
  rintro v σ1 ⟨M, h0, rfl, rfl⟩
  exact ⟨_, M, rfl, by simp, by simp; try omega, M, h0, rfl, rfl⟩
 generalize σ.next = N0 at hlt ⊢
 have lw0 : w0 < N0 := hlt _ (.head _) rfl
 have gs_W0 : ∀ x, (W0.set r0_ x)[r0_]? = some x := gsetW g0
 rw [show W0 = W0.set r0_ [.fsl (encL rI_u8 p0.b), .int .i64 p0.p] from (set_same g0).symm]
 refine ACalls_fn tok Try.func76 (by kernel_rfl) rfl Try.ntmps76 Try.results76 rfl ?_
 simp only [argsA, Nat.reduceAdd, hp_next]
 unfold s_l92Boxes at H
 refine AWP_sr tok [] [0] (fun a σ => a = [(0, .ptr w0 r0_ 0)] ∧ σ = hp E0 [(w0, some ⟨118, 2, W0.set r0_ [.fsl (encL rI_u8 p0.b), .int .i64 p0.p]⟩)] (N0 + 1)) (fun K hK => ?_) ?_
 ·
  skip
  simp -dsimp -implicitDefEqProofs (maxDischargeDepth := 6) [gs_W0, List.set_set]
  exact hK _ _ ⟨rfl, rfl⟩
 rintro a σ ⟨rfl, rfl⟩
 have q0 : ∀ σ i, buildSliceA T 29 true i 0 [] σ = some (.esl, σ) := fun _ _ => rfl
 refine AWP_sr tok [0] [0, 3] (fun a σ => a = [(0, .ptr w0 r0_ 0), (3, .esl)] ∧ σ = hp E0 [(w0, some ⟨118, 2, W0.set r0_ [.fsl (encL rI_u8 p0.b), .int .i64 p0.p]⟩)] (N0 + 3)) (fun K hK => ?_) ?_
 ·
  skip
  simp -dsimp -implicitDefEqProofs (maxDischargeDepth := 6) [gs_W0, List.set_set, q0]
  exact hK _ _ ⟨rfl, rfl⟩
 rintro a σ ⟨rfl, rfl⟩
 obtain ⟨r1, hr1, H⟩ := bindE H
 obtain ⟨v2, hv2, H⟩ := bindE H
 have q1 : ∀ σ i, buildSliceA T 22 true i 4 [(0, .int .i64 1), (1, .int .i64 2), (2, .int .i64 2), (3, .int .i64 3)] σ = some (.fsl (encL rI ([1, 2, 2, 3] : List Int)), σ) := fun _ _ => rfl
 refine AWP_sr tok [0] [0, 3, 4] (fun a σ => ∃ M1 : Nat, N0 + 9 ≤ M1 ∧ a = [(0, .ptr w0 r0_ 0), (3, .esl), (4, .int .i64 v2)] ∧ σ = hp E0 [(w0, some ⟨118, 2, W0.set r0_ [.fsl (encL rI_u8 r1.2.b), .int .i64 r1.2.p]⟩)] M1) (fun K hK => ?_) ?_
 ·
  skip
  simp -dsimp -implicitDefEqProofs (maxDischargeDepth := 6) [gs_W0, List.set_set, q1, ix22 hv2]
  refine (c74 (W0 := W0.set r0_ [.fsl (encL rI_u8 p0.b), .int .i64 p0.p]) (r0_ := r0_) (H := hr1) (by simp [gs_W0, List.set_set, q1, ix22 hv2]) (by simp [gs_W0, List.set_set, q1, ix22 hv2])).mono ?_; rintro _ _ ⟨M1, fM1_0, rfl, rfl⟩; simp only [hp_next] at fM1_0
  try simp -dsimp -implicitDefEqProofs (maxDischargeDepth := 6) [gs_W0, List.set_set, q1, ix22 hv2, hp_over_some, hp_over_none]
  exact hK _ _ ⟨M1, (by omega), rfl, rfl⟩
 rintro a σ ⟨M1, fM1_0, rfl, rfl⟩
 refine AWP_sq [0, 3] fun K1 hK1 => ?_
 refine AWP_sr tok [] [0, 3, 4, 5] (fun a σ => a = [(0, .ptr w0 r0_ 0), (3, .esl), (4, .int .i64 v2), (5, .int .i64 0)] ∧ σ = hp E0 [(w0, some ⟨118, 2, W0.set r0_ [.fsl (encL rI_u8 r1.2.b), .int .i64 r1.2.p]⟩)] (M1 + 1)) (fun K hK => ?_) ?_
 ·
  skip
  simp -dsimp -implicitDefEqProofs (maxDischargeDepth := 6) [gs_W0, List.set_set]
  exact hK _ _ ⟨rfl, rfl⟩
 rintro a σ ⟨rfl, rfl⟩
 refine AWP_block (AWP_thenB ?_)
 obtain ⟨e1, hse1, H⟩ := bindE H
 refine AWP_lp [0, 3, 4, 5] (fun s a σ => ∃ M2 o1 : Nat, N0 ≤ M2 ∧ N0 ≤ o1 ∧ o1 < M2 ∧ a = [(0, .ptr w0 r0_ 0), (3, .sl o1 0 s.2.2.length), (4, .int .i64 v2), (5, .int .i64 s.1)] ∧ σ = hp E0 [(w0, some ⟨118, 2, W0.set r0_ [.fsl (encL rI_u8 s.2.1.b), .int .i64 s.2.1.p]⟩), (o1, some ⟨64, 2, encL rBox s.2.2⟩)] M2) (fun s x a σ => x = .exit 0 ∧ Rc G 54 N0 (fun a σ => ∃ M3 o2 : Nat, N0 ≤ M3 ∧ N0 ≤ o2 ∧ o2 < M3 ∧ a = [(0, .ptr w0 r0_ 0), (3, .sl o2 0 s.2.length)] ∧ σ = hp E0 [(w0, some ⟨118, 2, W0.set r0_ [.fsl (encL rI_u8 s.1.b), .int .i64 s.1.p]⟩), (o2, some ⟨64, 2, encL rBox s.2⟩)] M3) (AAct.keep a [0, 3]) σ) hse1 ?_ ?_ ?_
 ·
  refine Rc.kp [0, 3, 4, 5] [(0, .ptr w0 r0_ 0), (3, .esl), (4, .int .i64 v2), (5, .int .i64 0)] rfl ?_
  refine gNilS Rc_ref 3 64 2 [(w0, some ⟨118, 2, W0.set r0_ [.fsl (encL rI_u8 r1.2.b), .int .i64 r1.2.p]⟩), (M1 + 1, some ⟨64, 2, encL rBox ([] : List gBox)⟩)] [(0, .ptr w0 r0_ 0), (3, .sl (M1 + 1) 0 ([] : List gBox).length), (4, .int .i64 v2), (5, .int .i64 0)] (by simp (disch := omega)) (by simp (disch := omega) [encL_nil]) [0, 3, 4, 5] rfl ?_
  exact Rc.fin (AHeap.Sub.refl _) ⟨M1 + 2, (M1 + 1), (by omega), (by omega), (by omega), rfl, rfl⟩
 ·
  clear H hse1
  rintro ⟨s3, s4, s5⟩ fl a σ H ⟨M2, o1, fM2_0, fM2_1, fM2_2, rfl, rfl⟩ K2 O2 hK2 hO2
  unfold s_l92Boxes_L1 at H; dsimp only at H
  refine AWP_sq [0, 3, 4, 5] fun K3 hK3 => ?_
  refine AWP_sr tok [] [0, 3, 4, 5, 15] (fun a σ => a = [(0, .ptr w0 r0_ 0), (3, .sl o1 0 s5.length), (4, .int .i64 v2), (5, .int .i64 s3), (15, .bool (ilt s3 v2))] ∧ σ = hp E0 [(w0, some ⟨118, 2, W0.set r0_ [.fsl (encL rI_u8 s4.b), .int .i64 s4.p]⟩), (o1, some ⟨64, 2, encL rBox s5⟩)] (M2 + 3)) (fun K hK => ?_) ?_
  ·
   skip
   have e0 := nq (a := w0) (b := o1) (by omega)
   simp -dsimp -implicitDefEqProofs (maxDischargeDepth := 6) [e0, gs_W0, List.set_set]
   exact hK _ _ ⟨rfl, rfl⟩
  rintro a σ ⟨rfl, rfl⟩
  refine AWP_cond (ilt s3 v2) rfl (fun C1 => ?_) (fun C1 => ?_)
  ·
   replace H := ifT C1 H
   refine AWP_skip ?_
   show K3 _ _
   refine keepE (l := [0, 3, 4, 5]) (x := [(0, .ptr w0 r0_ 0), (3, .sl o1 0 s5.length), (4, .int .i64 v2), (5, .int .i64 s3)]) rfl fun a' ha => ?_
   refine hK3 _ _ ?_; rw [ha]
   refine Rc.mk ?_
   refine AWP_sq [0, 3, 4, 5] fun K4 hK4 => ?_
   refine AWP_block (AWP_thenB ?_)
   obtain ⟨r8, hr8, H⟩ := bindE H
   refine AWP_sr tok [] [0, 3, 4, 5, 6] (fun a σ => ∃ M4 : Nat, M2 + 7 ≤ M4 ∧ a = [(0, .ptr w0 r0_ 0), (3, .sl o1 0 s5.length), (4, .int .i64 v2), (5, .int .i64 s3), (6, .int .i64 (iadd .i64 1 r8.1))] ∧ σ = hp E0 [(w0, some ⟨118, 2, W0.set r0_ [.fsl (encL rI_u8 r8.2.b), .int .i64 r8.2.p]⟩), (o1, some ⟨64, 2, encL rBox s5⟩)] M4) (fun K hK => ?_) ?_
   ·
    skip
    have e0 := nq (a := w0) (b := o1) (by omega)
    simp -dsimp -implicitDefEqProofs (maxDischargeDepth := 6) [e0, gs_W0, List.set_set]
    refine (c74 (W0 := W0.set r0_ [.fsl (encL rI_u8 s4.b), .int .i64 s4.p]) (r0_ := r0_) (H := hr8) (by simp [e0, gs_W0, List.set_set]) (by simp [e0, gs_W0, List.set_set])).mono ?_; rintro _ _ ⟨M4, fM4_0, rfl, rfl⟩; simp only [hp_next] at fM4_0
    try simp -dsimp -implicitDefEqProofs (maxDischargeDepth := 6) [e0, gs_W0, List.set_set, hp_over_some, hp_over_none]
    exact hK _ _ ⟨M4, (by omega), rfl, rfl⟩
   rintro a σ ⟨M4, fM4_0, rfl, rfl⟩
   obtain ⟨r9, hr9, H⟩ := bindE H
   obtain ⟨r10, hr10, H⟩ := bindE H
   obtain ⟨l11, hl11, H⟩ := bindE H
   have q2 : ∀ σ i, buildSliceA T 29 true i 1 [(0, .agg [.int .i64 (iadd .i64 1 r8.1), .fsl (encL rI r10.1)])] σ = some (.fsl (encL rBox ([(⟨iadd .i64 1 r8.1, r10.1⟩ : gBox)] : List gBox)), σ) := fun _ _ => rfl
   refine AWP_rt tok [9] [0, 3, 4, 5] (fun a σ => ∃ M5 : Nat, ∃ M6 : Nat, M4 + 12 ≤ M5 ∧ M5 ≤ M6 ∧ a = [(0, .ptr w0 r0_ 0), (3, .sl (M4 + 10) 0 l11.length), (4, .int .i64 v2), (5, .int .i64 s3)] ∧ σ = hp E0 [(w0, some ⟨118, 2, W0.set r0_ [.fsl (encL rI_u8 r10.2.b), .int .i64 r10.2.p]⟩), (M4 + 10, some ⟨64, 2, encL rBox l11⟩)] M6) (fun K hK => ?_) ?_
   ·
    skip
    have e0 := nq (a := w0) (b := o1) (by omega)
    have e1 := nq (a := w0) (b := M4 + 10) (by omega)
    have e2 := nq (a := o1) (b := M4 + 10) (by omega)
    simp -dsimp -implicitDefEqProofs (maxDischargeDepth := 6) [e0, e1, e2, gs_W0, List.set_set, q2, app29 hl11]
    refine (c74 (W0 := W0.set r0_ [.fsl (encL rI_u8 r8.2.b), .int .i64 r8.2.p]) (r0_ := r0_) (H := hr9) (by simp [e0, e1, e2, gs_W0, List.set_set, q2, app29 hl11]) (by simp [e0, e1, e2, gs_W0, List.set_set, q2, app29 hl11])).mono ?_; rintro _ _ ⟨M5, fM5_0, rfl, rfl⟩; simp only [hp_next] at fM5_0
    try simp -dsimp -implicitDefEqProofs (maxDischargeDepth := 6) [e0, e1, e2, gs_W0, List.set_set, q2, app29 hl11, hp_over_some, hp_over_none]
    refine (c96 (W0 := W0.set r0_ [.fsl (encL rI_u8 r9.2.b), .int .i64 r9.2.p]) (r0_ := r0_) (H := hr10) (by simp [e0, e1, e2, gs_W0, List.set_set, q2, app29 hl11, hp_over_some, hp_over_none]) (by simp [e0, e1, e2, gs_W0, List.set_set, q2, app29 hl11, hp_over_some, hp_over_none])).mono ?_; rintro _ _ ⟨M6, fM6_0, rfl, rfl⟩; simp only [hp_next] at fM6_0
    try simp -dsimp -implicitDefEqProofs (maxDischargeDepth := 6) [e0, e1, e2, gs_W0, List.set_set, q2, app29 hl11, hp_over_some, hp_over_none, hp_over_some, hp_over_none]
    exact hK _ _ ⟨M5, M6, (by omega), (by omega), rfl, rfl⟩
   rintro a σ ⟨M5, M6, fM5_0, fM6_0, ha, rfl⟩
   refine hK4 _ _ ?_; rw [ha]
   refine Rc.mk ?_
   refine AWP_rt tok [] [0, 3, 4, 5] (fun a σ => a = [(0, .ptr w0 r0_ 0), (3, .sl (M4 + 10) 0 l11.length), (4, .int .i64 v2), (5, .int .i64 (iadd .i64 s3 1))] ∧ σ = hp E0 [(w0, some ⟨118, 2, W0.set r0_ [.fsl (encL rI_u8 r10.2.b), .int .i64 r10.2.p]⟩), (M4 + 10, some ⟨64, 2, encL rBox l11⟩)] (M6 + 3)) (fun K hK => ?_) ?_
   ·
    skip
    have e0 := nq (a := w0) (b := M4 + 10) (by omega)
    simp -dsimp -implicitDefEqProofs (maxDischargeDepth := 6) [e0, gs_W0, List.set_set]
    exact hK _ _ ⟨rfl, rfl⟩
   rintro a σ ⟨ha, rfl⟩
   replace H := Option.some.inj H; subst H
   refine hK2 _ _ _ rfl ?_; rw [ha]
   exact Rc.fin (AHeap.Sub.refl _) ⟨M6 + 3, (M4 + 10), (by omega), (by omega), (by omega), rfl, rfl⟩
  ·
   replace H := ifF C1 H
   replace H := Option.some.inj H; subst H
   refine AWP_exit (hO2 _ _ _ _ rfl ⟨rfl, ?_⟩)
   refine Rc.rw (l := [0, 3]) (X := [(0, .ptr w0 r0_ 0), (3, .sl o1 0 s5.length)]) rfl ?_
   exact Rc.fin (AHeap.Sub.refl _) ⟨M2 + 3, o1, (by omega), (by omega), (by omega), rfl, rfl⟩
 ·
  intro x a σ hx
  obtain ⟨y6, y7⟩ := e1
  obtain ⟨rfl, b, τ, hr, M3, o2, fM3_0, fM3_1, fM3_2, rfl, rfl⟩ := hx
  dsimp only at H
  show K1 _ _
  refine hK1 _ _ (Rc_ref hr ?_)
  refine Rc.mk ?_
  refine AWP_sq [3] fun K5 hK5 => ?_
  obtain ⟨r12, hr12, H⟩ := bindE H
  refine AWP_sr tok [] [3, 33] (fun a σ => ∃ M7 : Nat, M3 + 2 ≤ M7 ∧ a = [(3, .sl o2 0 y7.length), (33, .int .i64 r12.1)] ∧ σ = hp E0 [(w0, some ⟨118, 2, W0.set r0_ [.fsl (encL rI_u8 r12.2.b), .int .i64 r12.2.p]⟩), (o2, some ⟨64, 2, encL rBox y7⟩)] M7) (fun K hK => ?_) ?_
  ·
   skip
   have e0 := nq (a := w0) (b := o2) (by omega)
   simp -dsimp -implicitDefEqProofs (maxDischargeDepth := 6) [e0, gs_W0, List.set_set]
   refine (c74 (W0 := W0.set r0_ [.fsl (encL rI_u8 y6.b), .int .i64 y6.p]) (r0_ := r0_) (H := hr12) (by simp [e0, gs_W0, List.set_set]) (by simp [e0, gs_W0, List.set_set])).mono ?_; rintro _ _ ⟨M7, fM7_0, rfl, rfl⟩; simp only [hp_next] at fM7_0
   try simp -dsimp -implicitDefEqProofs (maxDischargeDepth := 6) [e0, gs_W0, List.set_set, hp_over_some, hp_over_none]
   exact hK _ _ ⟨M7, (by omega), rfl, rfl⟩
  rintro a σ ⟨M7, fM7_0, rfl, rfl⟩
  refine AWP_block (AWP_thenB ?_)
  refine AWP_sr tok [] [3, 33, 34] (fun a σ => a = [(3, .sl o2 0 y7.length), (33, .int .i64 r12.1), (34, .bool (ieq r12.1 0))] ∧ σ = hp E0 [(w0, some ⟨118, 2, W0.set r0_ [.fsl (encL rI_u8 r12.2.b), .int .i64 r12.2.p]⟩), (o2, some ⟨64, 2, encL rBox y7⟩)] (M7 + 2)) (fun K hK => ?_) ?_
  ·
   skip
   have e0 := nq (a := w0) (b := o2) (by omega)
   simp -dsimp -implicitDefEqProofs (maxDischargeDepth := 6) [e0, gs_W0, List.set_set]
   exact hK _ _ ⟨rfl, rfl⟩
  rintro a σ ⟨rfl, rfl⟩
  refine AWP_cond (ieq r12.1 0) rfl (fun C2 => ?_) (fun C2 => ?_)
  ·
   replace H := ifT C2 H
   obtain ⟨v13, hv13, H⟩ := bindE H
   obtain ⟨l14, hl14, H⟩ := bindE H
   refine AWP_rt tok [] [3] (fun a σ => a = [(3, .sl o2 0 y7.length)] ∧ σ = hp E0 [(w0, some ⟨118, 2, W0.set r0_ [.fsl (encL rI_u8 r12.2.b), .int .i64 r12.2.p]⟩), (o2, some ⟨64, 2, encL rBox l14⟩)] (M7 + 6)) (fun K hK => ?_) ?_
   ·
    skip
    have e0 := nq (a := w0) (b := o2) (by omega)
    simp -dsimp -implicitDefEqProofs (maxDischargeDepth := 6) [e0, gs_W0, List.set_set, ixo29 hv13, (show _[0]? = some v13 from (idx_lt3 hv13).2.2), (show List.set _ 0 _ = l14 from (setx_iff.1 hl14).2.symm)]
    exact hK _ _ ⟨rfl, rfl⟩
   rintro a σ ⟨ha, rfl⟩
   (try rw [← setx_len hl14] at ha); (try rw [← setx_len hl14])
   refine hK5 _ _ ?_; rw [ha]
   refine Rc.mk ?_
   refine AWP_sr tok [] [2] (fun a σ => a = [(2, .sl o2 0 l14.length)] ∧ σ = hp E0 [(w0, some ⟨118, 2, W0.set r0_ [.fsl (encL rI_u8 r12.2.b), .int .i64 r12.2.p]⟩), (o2, some ⟨64, 2, encL rBox l14⟩)] (M7 + 8)) (fun K hK => ?_) ?_
   ·
    skip
    have e0 := nq (a := w0) (b := o2) (by omega)
    simp -dsimp -implicitDefEqProofs (maxDischargeDepth := 6) [e0, gs_W0, List.set_set]
    exact hK _ _ ⟨rfl, rfl⟩
   rintro a σ ⟨rfl, rfl⟩
   replace H := Option.some.inj H; subst H
   refine AWP_kp [2] [(2, .sl o2 0 l14.length)] rfl ?_
   have z0 := nq (a := w0) (b := o2) (by omega)
   refine gFrz AWP_ref 4 [o2] [(w0, some ⟨118, 2, W0.set r0_ [.fsl (encL rI_u8 r12.2.b), .int .i64 r12.2.p]⟩)] [(2, .fsl (encL rBox l14))] (by simp [z0]) (cutD (by simp [z0])) ?_
   refine AWP_ret ?_
   refine ⟨[.fsl (encL rBox l14)], by simp [gs_W0], M7 + 8, by omega, ?_, ?_⟩
   ·
    simp [encL_nil]
   ·
    first | rfl | simp [List.set_set]
  ·
   replace H := ifF C2 H
   refine AWP_sr tok [] [3, 39] (fun a σ => a = [(3, .sl o2 0 y7.length), (39, .bool (ieq r12.1 1))] ∧ σ = hp E0 [(w0, some ⟨118, 2, W0.set r0_ [.fsl (encL rI_u8 r12.2.b), .int .i64 r12.2.p]⟩), (o2, some ⟨64, 2, encL rBox y7⟩)] (M7 + 4)) (fun K hK => ?_) ?_
   ·
    skip
    have e0 := nq (a := w0) (b := o2) (by omega)
    simp -dsimp -implicitDefEqProofs (maxDischargeDepth := 6) [e0, gs_W0, List.set_set]
    exact hK _ _ ⟨rfl, rfl⟩
   rintro a σ ⟨rfl, rfl⟩
   refine AWP_cond (ieq r12.1 1) rfl (fun C3 => ?_) (fun C3 => ?_)
   ·
    replace H := ifT C3 H
    obtain ⟨v15, hv15, H⟩ := bindE H
    obtain ⟨l16, hl16, H⟩ := bindE H
    have q3 : ∀ σ i, buildSliceA T 29 true i 3 [(0, .agg [.int .i64 v15.Room, .fsl (encL rI v15.Items)]), (1, .agg [.int .i64 v15.Room, .fsl (encL rI v15.Items)]), (2, .agg [.int .i64 v15.Room, .fsl (encL rI v15.Items)])] σ = some (.fsl (encL rBox ([v15, v15, v15] : List gBox)), σ) := fun _ _ => rfl
    refine AWP_rd tok tokM [10] [2, 3, 5, 6, 8, 9, 11] [0, 1, 4, 7, 2, 3, 5, 6, 8, 9, 10, 11, 12] [3] (fun a σ => a = [(3, .sl (M7 + 15) 0 l16.length)] ∧ σ = hp E0 [(w0, some ⟨118, 2, W0.set r0_ [.fsl (encL rI_u8 r12.2.b), .int .i64 r12.2.p]⟩), (M7 + 15, some ⟨64, 2, encL rBox l16⟩)] (M7 + 17)) (by decide) (fun K hK => ?_) ?_
    ·
     simp only [pickL, nthO_succ, nthO_zero]
     have e0 := nq (a := w0) (b := o2) (by omega)
     have e1 := nq (a := w0) (b := M7 + 15) (by omega)
     have e2 := nq (a := o2) (b := M7 + 15) (by omega)
     simp -dsimp -implicitDefEqProofs (maxDischargeDepth := 6) [e0, e1, e2, gs_W0, List.set_set, ixo29 hv15, (show _[0]? = some v15 from (idx_lt3 hv15).2.2), ixo29 hv15, (show _[0]? = some v15 from (idx_lt3 hv15).2.2), ixo29 hv15, (show _[0]? = some v15 from (idx_lt3 hv15).2.2), q3, app29 hl16]
     exact hK _ _ ⟨rfl, rfl⟩
    rintro a σ ⟨ha, rfl⟩
    refine hK5 _ _ ?_; rw [ha]
    have z1 := nq (a := w0) (b := M7 + 15) (by omega)
    refine gFrz Rc_ref 4 [M7 + 15] [(w0, some ⟨118, 2, W0.set r0_ [.fsl (encL rI_u8 r12.2.b), .int .i64 r12.2.p]⟩)] [(3, .fsl (encL rBox l16))] (by simp [z1]) (cutD (by simp [z1])) ?_
    refine Rc.mk ?_
    refine AWP_sr tok [] [2] (fun a σ => a = [(2, .fsl (encL rBox l16))] ∧ σ = hp E0 [(w0, some ⟨118, 2, W0.set r0_ [.fsl (encL rI_u8 r12.2.b), .int .i64 r12.2.p]⟩)] (M7 + 19)) (fun K hK => ?_) ?_
    ·
     skip
     simp -dsimp -implicitDefEqProofs (maxDischargeDepth := 6) [gs_W0, List.set_set]
     exact hK _ _ ⟨rfl, rfl⟩
    rintro a σ ⟨rfl, rfl⟩
    replace H := Option.some.inj H; subst H
    refine AWP_kp [2] [(2, .fsl (encL rBox l16))] rfl ?_
    refine AWP_ret ?_
    refine ⟨[.fsl (encL rBox l16)], by simp [gs_W0], M7 + 19, by omega, ?_, ?_⟩
    ·
     simp [encL_nil]
    ·
     first | rfl | simp [List.set_set]
   ·
    replace H := ifF C3 H
    refine AWP_skip ?_
    show K5 _ _
    refine keepE (l := [3]) (x := [(3, .sl o2 0 y7.length)]) rfl fun a' ha => ?_
    refine hK5 _ _ ?_; rw [ha]
    refine Rc.mk ?_
    refine AWP_sr tok [] [2] (fun a σ => a = [(2, .sl o2 0 y7.length)] ∧ σ = hp E0 [(w0, some ⟨118, 2, W0.set r0_ [.fsl (encL rI_u8 r12.2.b), .int .i64 r12.2.p]⟩), (o2, some ⟨64, 2, encL rBox y7⟩)] (M7 + 6)) (fun K hK => ?_) ?_
    ·
     skip
     have e0 := nq (a := w0) (b := o2) (by omega)
     simp -dsimp -implicitDefEqProofs (maxDischargeDepth := 6) [e0, gs_W0, List.set_set]
     exact hK _ _ ⟨rfl, rfl⟩
    rintro a σ ⟨rfl, rfl⟩
    replace H := Option.some.inj H; subst H
    refine AWP_kp [2] [(2, .sl o2 0 y7.length)] rfl ?_
    have z2 := nq (a := w0) (b := o2) (by omega)
    refine gFrz AWP_ref 4 [o2] [(w0, some ⟨118, 2, W0.set r0_ [.fsl (encL rI_u8 r12.2.b), .int .i64 r12.2.p]⟩)] [(2, .fsl (encL rBox y7))] (by simp [z2]) (cutD (by simp [z2])) ?_
    refine AWP_ret ?_
    refine ⟨[.fsl (encL rBox y7)], by simp [gs_W0], M7 + 6, by omega, ?_, ?_⟩
    ·
     simp [encL_nil]
    ·
     first | rfl | simp [List.set_set]
theorem c32 {p0 : (List Int)} {r : gMachine × (List gBox)} (H : s_DrawHartCall p0 = some r) : APure Try.prog G 32 [.fsl (encL rI_u8 p0)] (.tup [.agg [.fsl (encL rI r.1.Regs), .int .i64 r.1.Pc, .fsl (encL rI r.1.Mem)], .fsl (encL rBox r.2)]) := by
 refine APure_fn (fun N0 => ?_) (by simp)
 refine ACalls_fn tok Try.func32 (by kernel_rfl) rfl Try.ntmps32 Try.results32 rfl ?_
 simp only [argsA, Nat.reduceAdd, hp_next]
 unfold s_DrawHartCall at H
 refine AWP_sr tok [] [0, 2] (fun a σ => a = [(0, .fsl (encL rI_u8 p0)), (2, .ptr N0 0 0)] ∧ σ = hp E0 [(N0, some ⟨28, 3, [[.nilsl, .int .i64 0, .nilsl]]⟩)] (N0 + 2)) (fun K hK => ?_) ?_
 ·
  skip
  simp -dsimp -implicitDefEqProofs (maxDischargeDepth := 6)
  exact hK _ _ ⟨rfl, rfl⟩
 rintro a σ ⟨rfl, rfl⟩
 refine gWkC AWP_ref (o := N0) (ob := ⟨28, 3, [[.nilsl, .int .i64 0, .nilsl]]⟩) (row := [.nilsl, .int .i64 0, .nilsl]) (r := 0) (i := 0) [(N0, some ⟨28, 3, [[.fsl [], .int .i64 0, .nilsl]]⟩)] (by simp (disch := omega)) rfl rfl (by simp (disch := omega)) (by simp (disch := omega) [encL_nil, List.set_set, app_set]) ?_
 refine gWkC AWP_ref (o := N0) (ob := ⟨28, 3, [[.fsl [], .int .i64 0, .nilsl]]⟩) (row := [.fsl [], .int .i64 0, .nilsl]) (r := 0) (i := 2) [(N0, some ⟨28, 3, [[.fsl [], .int .i64 0, .fsl []]]⟩)] (by simp (disch := omega)) rfl rfl (by simp (disch := omega)) (by simp (disch := omega) [encL_nil, List.set_set, app_set]) ?_
 obtain ⟨r1, hr1, H⟩ := bindE H
 refine AWP_sr tok [] [2, 4] (fun a σ => ∃ M1 o1 : Nat, N0 + 5 ≤ M1 ∧ N0 + 5 ≤ o1 ∧ o1 < M1 ∧ a = [(2, .ptr N0 0 0), (4, .ptr o1 0 0)] ∧ σ = hp E0 [(N0, some ⟨28, 3, [[.fsl [], .int .i64 0, .fsl []]]⟩), (o1, some ⟨118, 2, [[.fsl (encL rI_u8 r1.b), .int .i64 r1.p]]⟩)] M1) (fun K hK => ?_) ?_
 ·
  skip
  simp -dsimp -implicitDefEqProofs (maxDischargeDepth := 6)
  refine (c70_o (H := hr1) ).mono ?_; rintro _ _ ⟨M1, o1, fM1_0, fM1_1, fM1_2, rfl, rfl⟩; simp only [hp_next] at fM1_0 fM1_1 fM1_2
  have eM1_0 := nq (a := o1) (b := N0) (by omega)
  try simp -dsimp -implicitDefEqProofs (maxDischargeDepth := 6) [eM1_0, hp_over_some, hp_over_none]
  exact hK _ _ ⟨M1, o1, (by omega), (by omega), (by omega), rfl, rfl⟩
 rintro a σ ⟨M1, o1, fM1_0, fM1_1, fM1_2, rfl, rfl⟩
 obtain ⟨r2, hr2, H⟩ := bindE H
 obtain ⟨r3, hr3, H⟩ := bindE H
 obtain ⟨r4, hr4, H⟩ := bindE H
 refine AWP_sr tok [] [2, 4, 5] (fun a σ => ∃ M2 : Nat, ∃ M3 o2 : Nat, M1 + 10 ≤ M2 ∧ M2 ≤ M3 ∧ M2 ≤ o2 ∧ o2 < M3 ∧ a = [(2, .ptr N0 0 0), (4, .ptr o1 0 0), (5, .ptr (M1 + 7) 0 0)] ∧ σ = hp E0 [(N0, some ⟨28, 3, [[.fsl [], .int .i64 0, .fsl []]]⟩), (o1, some ⟨118, 2, [[.fsl (encL rI_u8 r2.2.b), .int .i64 r2.2.p]]⟩), (o2, some ⟨3, 1, encL rI r4.1.Regs⟩), (M1 + 7, some ⟨28, 3, [[.sl o2 0 r4.1.Regs.length, .int .i64 r4.1.Pc, .fsl (encL rI r4.1.Mem)]]⟩)] M3) (fun K hK => ?_) ?_
 ·
  skip
  have e0 := nq (a := N0) (b := o1) (by omega)
  have e1 := nq (a := N0) (b := M1 + 7) (by omega)
  have e2 := nq (a := o1) (b := M1 + 7) (by omega)
  simp -dsimp -implicitDefEqProofs (maxDischargeDepth := 6) [e0, e1, e2]
  refine (c73 (W0 := [[.fsl (encL rI_u8 r1.b), .int .i64 r1.p]]) (r0_ := 0) (H := hr2) (by simp [e0, e1, e2]) (by simp [e0, e1, e2])).mono ?_; rintro _ _ ⟨M2, fM2_0, rfl, rfl⟩; simp only [hp_next] at fM2_0
  try simp -dsimp -implicitDefEqProofs (maxDischargeDepth := 6) [e0, e1, e2, hp_over_some, hp_over_none]
  refine (c72 hr3).app ?_; try simp -dsimp -implicitDefEqProofs (maxDischargeDepth := 6) [e0, e1, e2, hp_over_some, hp_over_none]
  refine (c71_o (H := hr4) ).mono ?_; rintro _ _ ⟨M3, o2, fM3_0, fM3_1, fM3_2, rfl, rfl⟩; simp only [hp_next] at fM3_0 fM3_1 fM3_2
  have eM3_0 := nq (a := o2) (b := N0) (by omega)
  have eM3_1 := nq (a := o2) (b := o1) (by omega)
  have eM3_2 := nq (a := o2) (b := M1 + 7) (by omega)
  try simp -dsimp -implicitDefEqProofs (maxDischargeDepth := 6) [e0, e1, e2, hp_over_some, hp_over_none, eM3_0, eM3_1, eM3_2, hp_over_some, hp_over_none]
  exact hK _ _ ⟨M2, M3, o2, (by omega), (by omega), (by omega), (by omega), rfl, rfl⟩
 rintro a σ ⟨M2, M3, o2, fM2_0, fM3_0, fM3_1, fM3_2, rfl, rfl⟩
 refine AWP_sr tok [] [2, 4, 5] (fun a σ => a = [(2, .ptr N0 0 0), (4, .ptr o1 0 0), (5, .ptr (M1 + 7) 0 0)] ∧ σ = hp E0 [(N0, some ⟨28, 3, [[.fsl [], .int .i64 0, .fsl []]]⟩), (o1, some ⟨118, 2, [[.fsl (encL rI_u8 r2.2.b), .int .i64 r2.2.p]]⟩), (o2, some ⟨3, 1, encL rI r4.1.Regs⟩), (M1 + 7, some ⟨28, 3, [[.sl o2 0 r4.1.Regs.length, .int .i64 0, .fsl (encL rI r4.1.Mem)]]⟩)] (M3 + 2)) (fun K hK => ?_) ?_
 ·
  skip
  have e0 := nq (a := N0) (b := o1) (by omega)
  have e1 := nq (a := N0) (b := o2) (by omega)
  have e2 := nq (a := N0) (b := M1 + 7) (by omega)
  have e3 := nq (a := o1) (b := o2) (by omega)
  have e4 := nq (a := o1) (b := M1 + 7) (by omega)
  have e5 := nq (a := o2) (b := M1 + 7) (by omega)
  simp -dsimp -implicitDefEqProofs (maxDischargeDepth := 6) [e0, e1, e2, e3, e4, e5]
  exact hK _ _ ⟨rfl, rfl⟩
 rintro a σ ⟨rfl, rfl⟩
 refine gPk AWP_ref (k := r4.1.Regs.length) (o := (M1 + 7)) (ob := ⟨28, 3, [[.sl o2 0 r4.1.Regs.length, .int .i64 0, .fsl (encL rI r4.1.Mem)]]⟩) (row := [.sl o2 0 r4.1.Regs.length, .int .i64 0, .fsl (encL rI r4.1.Mem)]) (d := o2) (obd := ⟨3, 1, encL rI r4.1.Regs⟩) (r := 0) (i := 0) [(N0, some ⟨28, 3, [[.fsl [], .int .i64 0, .fsl []]]⟩), (o1, some ⟨118, 2, [[.fsl (encL rI_u8 r2.2.b), .int .i64 r2.2.p]]⟩), (M1 + 7, some ⟨28, 3, [[.osl 3 1 (encL rI r4.1.Regs), .int .i64 0, .fsl (encL rI r4.1.Mem)]]⟩)] (by simp (disch := omega)) rfl rfl (by simp (disch := omega)) (by simp (disch := omega)) (by first | omega | simp) (by simp (disch := omega) [List.set_set, app_set] <;> omega) (by simp (disch := omega) [List.set_set, app_set]) ?_
 refine gUnp AWP_ref (ty := 3) (sz := 1) (es := encL rI r4.1.Regs) (o := (M1 + 7)) (ob := ⟨28, 3, [[.osl 3 1 (encL rI r4.1.Regs), .int .i64 0, .fsl (encL rI r4.1.Mem)]]⟩) (row := [.osl 3 1 (encL rI r4.1.Regs), .int .i64 0, .fsl (encL rI r4.1.Mem)]) (r := 0) (i := 0) [(N0, some ⟨28, 3, [[.fsl [], .int .i64 0, .fsl []]]⟩), (o1, some ⟨118, 2, [[.fsl (encL rI_u8 r2.2.b), .int .i64 r2.2.p]]⟩), (M1 + 7, some ⟨28, 3, [[.sl (M3 + 2) 0 r4.1.Regs.length, .int .i64 0, .fsl (encL rI r4.1.Mem)]]⟩), (M3 + 2, some ⟨3, 1, encL rI r4.1.Regs⟩)] (by simp (disch := omega)) rfl rfl (by simp (disch := omega) [List.set_set]) ?_
 obtain ⟨r5, hr5, H⟩ := bindE H
 obtain ⟨v6, hv6, H⟩ := bindE H
 obtain ⟨l7, hl7, H⟩ := bindE H
 refine AWP_sy tok tokM [] [1, 3, 4, 5, 6] [0, 2, 1, 3, 4, 5, 6] [(3, [1])] [2, 4, 5] (fun a σ => ∃ M4 : Nat, M3 + 10 ≤ M4 ∧ a = [(2, .ptr N0 0 0), (4, .ptr o1 0 0), (5, .ptr (M1 + 7) 0 0)] ∧ σ = hp E0 [(N0, some ⟨28, 3, [[.fsl [], .int .i64 0, .fsl []]]⟩), (o1, some ⟨118, 2, [[.fsl (encL rI_u8 r5.2.b), .int .i64 r5.2.p]]⟩), (M1 + 7, some ⟨28, 3, [[.sl (M3 + 2) 0 r4.1.Regs.length, .int .i64 0, .fsl (encL rI r4.1.Mem)]]⟩), (M3 + 2, some ⟨3, 1, encL rI l7⟩)] M4) (by decide) (fun K hK => ?_) ?_
 ·
  simp only [pickL, nthO_succ, nthO_zero]
  have e0 := nq (a := N0) (b := o1) (by omega)
  have e1 := nq (a := N0) (b := M1 + 7) (by omega)
  have e2 := nq (a := N0) (b := M3 + 2) (by omega)
  have e3 := nq (a := o1) (b := M1 + 7) (by omega)
  have e4 := nq (a := o1) (b := M3 + 2) (by omega)
  have e5 := nq (a := M1 + 7) (b := M3 + 2) (by omega)
  have e6 := nq (a := M1 + 5) (b := M3) (by omega)
  simp -dsimp -implicitDefEqProofs (maxDischargeDepth := 6) [e0, e1, e2, e3, e4, e5, e6, ixo22 hv6, (show _[1]? = some v6 from (idx_lt3 hv6).2.2), (show List.set _ 1 _ = l7 from (setx_iff.1 hl7).2.symm)]
  refine (c74 (W0 := [[.fsl (encL rI_u8 r2.2.b), .int .i64 r2.2.p]]) (r0_ := 0) (H := hr5) (by simp [e0, e1, e2, e3, e4, e5, e6, ixo22 hv6, (show _[1]? = some v6 from (idx_lt3 hv6).2.2), (show List.set _ 1 _ = l7 from (setx_iff.1 hl7).2.symm)]) (by simp [e0, e1, e2, e3, e4, e5, e6, ixo22 hv6, (show _[1]? = some v6 from (idx_lt3 hv6).2.2), (show List.set _ 1 _ = l7 from (setx_iff.1 hl7).2.symm)])).mono ?_; rintro _ _ ⟨M4, fM4_0, rfl, rfl⟩; simp only [hp_next] at fM4_0
  try simp -dsimp -implicitDefEqProofs (maxDischargeDepth := 6) [e0, e1, e2, e3, e4, e5, e6, ixo22 hv6, (show _[1]? = some v6 from (idx_lt3 hv6).2.2), (show List.set _ 1 _ = l7 from (setx_iff.1 hl7).2.symm), hp_over_some, hp_over_none]
  exact hK _ _ ⟨M4, (by omega), rfl, rfl⟩
 rintro a σ ⟨M4, fM4_0, rfl, rfl⟩
 try rw [← setx_len hl7]
 refine gPk AWP_ref (k := l7.length) (o := (M1 + 7)) (ob := ⟨28, 3, [[.sl (M3 + 2) 0 l7.length, .int .i64 0, .fsl (encL rI r4.1.Mem)]]⟩) (row := [.sl (M3 + 2) 0 l7.length, .int .i64 0, .fsl (encL rI r4.1.Mem)]) (d := (M3 + 2)) (obd := ⟨3, 1, encL rI l7⟩) (r := 0) (i := 0) [(N0, some ⟨28, 3, [[.fsl [], .int .i64 0, .fsl []]]⟩), (o1, some ⟨118, 2, [[.fsl (encL rI_u8 r5.2.b), .int .i64 r5.2.p]]⟩), (M1 + 7, some ⟨28, 3, [[.osl 3 1 (encL rI l7), .int .i64 0, .fsl (encL rI r4.1.Mem)]]⟩)] (by simp (disch := omega)) rfl rfl (by simp (disch := omega)) (by simp (disch := omega)) (by first | omega | simp) (by simp (disch := omega) [List.set_set, app_set] <;> omega) (by simp (disch := omega) [List.set_set, app_set]) ?_
 refine gUnp AWP_ref (ty := 3) (sz := 1) (es := encL rI l7) (o := (M1 + 7)) (ob := ⟨28, 3, [[.osl 3 1 (encL rI l7), .int .i64 0, .fsl (encL rI r4.1.Mem)]]⟩) (row := [.osl 3 1 (encL rI l7), .int .i64 0, .fsl (encL rI r4.1.Mem)]) (r := 0) (i := 0) [(N0, some ⟨28, 3, [[.fsl [], .int .i64 0, .fsl []]]⟩), (o1, some ⟨118, 2, [[.fsl (encL rI_u8 r5.2.b), .int .i64 r5.2.p]]⟩), (M1 + 7, some ⟨28, 3, [[.sl M4 0 l7.length, .int .i64 0, .fsl (encL rI r4.1.Mem)]]⟩), (M4, some ⟨3, 1, encL rI l7⟩)] (by simp (disch := omega)) rfl rfl (by simp (disch := omega) [List.set_set]) ?_
 obtain ⟨r8, hr8, H⟩ := bindE H
 obtain ⟨v9, hv9, H⟩ := bindE H
 obtain ⟨l10, hl10, H⟩ := bindE H
 refine AWP_sy tok tokM [] [1, 3, 4, 5] [0, 2, 1, 3, 4, 5] [(3, [1])] [2, 4, 5] (fun a σ => ∃ M5 : Nat, M4 + 7 ≤ M5 ∧ a = [(2, .ptr N0 0 0), (4, .ptr o1 0 0), (5, .ptr (M1 + 7) 0 0)] ∧ σ = hp E0 [(N0, some ⟨28, 3, [[.fsl [], .int .i64 0, .fsl []]]⟩), (o1, some ⟨118, 2, [[.fsl (encL rI_u8 r8.2.b), .int .i64 r8.2.p]]⟩), (M1 + 7, some ⟨28, 3, [[.sl M4 0 l7.length, .int .i64 0, .fsl (encL rI r4.1.Mem)]]⟩), (M4, some ⟨3, 1, encL rI l10⟩)] M5) (by decide) (fun K hK => ?_) ?_
 ·
  simp only [pickL, nthO_succ, nthO_zero]
  have e0 := nq (a := N0) (b := o1) (by omega)
  have e1 := nq (a := N0) (b := M1 + 7) (by omega)
  have e2 := nq (a := N0) (b := M4) (by omega)
  have e3 := nq (a := o1) (b := M1 + 7) (by omega)
  have e4 := nq (a := o1) (b := M4) (by omega)
  have e5 := nq (a := M1 + 7) (b := M4) (by omega)
  simp -dsimp -implicitDefEqProofs (maxDischargeDepth := 6) [e0, e1, e2, e3, e4, e5, ixo22 hv9, (show _[10]? = some v9 from (idx_lt3 hv9).2.2), (show List.set _ 10 _ = l10 from (setx_iff.1 hl10).2.symm)]
  refine (c75 (W0 := [[.fsl (encL rI_u8 r5.2.b), .int .i64 r5.2.p]]) (r0_ := 0) (H := hr8) (by simp [e0, e1, e2, e3, e4, e5, ixo22 hv9, (show _[10]? = some v9 from (idx_lt3 hv9).2.2), (show List.set _ 10 _ = l10 from (setx_iff.1 hl10).2.symm)]) (by simp [e0, e1, e2, e3, e4, e5, ixo22 hv9, (show _[10]? = some v9 from (idx_lt3 hv9).2.2), (show List.set _ 10 _ = l10 from (setx_iff.1 hl10).2.symm)])).mono ?_; rintro _ _ ⟨M5, fM5_0, rfl, rfl⟩; simp only [hp_next] at fM5_0
  try simp -dsimp -implicitDefEqProofs (maxDischargeDepth := 6) [e0, e1, e2, e3, e4, e5, ixo22 hv9, (show _[10]? = some v9 from (idx_lt3 hv9).2.2), (show List.set _ 10 _ = l10 from (setx_iff.1 hl10).2.symm), hp_over_some, hp_over_none]
  exact hK _ _ ⟨M5, (by omega), rfl, rfl⟩
 rintro a σ ⟨M5, fM5_0, rfl, rfl⟩
 try rw [← setx_len hl10]
 refine gPk AWP_ref (k := l10.length) (o := (M1 + 7)) (ob := ⟨28, 3, [[.sl M4 0 l10.length, .int .i64 0, .fsl (encL rI r4.1.Mem)]]⟩) (row := [.sl M4 0 l10.length, .int .i64 0, .fsl (encL rI r4.1.Mem)]) (d := M4) (obd := ⟨3, 1, encL rI l10⟩) (r := 0) (i := 0) [(N0, some ⟨28, 3, [[.fsl [], .int .i64 0, .fsl []]]⟩), (o1, some ⟨118, 2, [[.fsl (encL rI_u8 r8.2.b), .int .i64 r8.2.p]]⟩), (M1 + 7, some ⟨28, 3, [[.osl 3 1 (encL rI l10), .int .i64 0, .fsl (encL rI r4.1.Mem)]]⟩)] (by simp (disch := omega)) rfl rfl (by simp (disch := omega)) (by simp (disch := omega)) (by first | omega | simp) (by simp (disch := omega) [List.set_set, app_set] <;> omega) (by simp (disch := omega) [List.set_set, app_set]) ?_
 refine gUnp AWP_ref (ty := 3) (sz := 1) (es := encL rI l10) (o := (M1 + 7)) (ob := ⟨28, 3, [[.osl 3 1 (encL rI l10), .int .i64 0, .fsl (encL rI r4.1.Mem)]]⟩) (row := [.osl 3 1 (encL rI l10), .int .i64 0, .fsl (encL rI r4.1.Mem)]) (r := 0) (i := 0) [(N0, some ⟨28, 3, [[.fsl [], .int .i64 0, .fsl []]]⟩), (o1, some ⟨118, 2, [[.fsl (encL rI_u8 r8.2.b), .int .i64 r8.2.p]]⟩), (M1 + 7, some ⟨28, 3, [[.sl M5 0 l10.length, .int .i64 0, .fsl (encL rI r4.1.Mem)]]⟩), (M5, some ⟨3, 1, encL rI l10⟩)] (by simp (disch := omega)) rfl rfl (by simp (disch := omega) [List.set_set]) ?_
 obtain ⟨r11, hr11, H⟩ := bindE H
 obtain ⟨v12, hv12, H⟩ := bindE H
 obtain ⟨l13, hl13, H⟩ := bindE H
 refine AWP_sy tok tokM [] [1, 3, 4, 5, 6] [0, 2, 1, 3, 4, 5, 6] [(3, [1])] [2, 4, 5] (fun a σ => ∃ M6 : Nat, M5 + 8 ≤ M6 ∧ a = [(2, .ptr N0 0 0), (4, .ptr o1 0 0), (5, .ptr (M1 + 7) 0 0)] ∧ σ = hp E0 [(N0, some ⟨28, 3, [[.fsl [], .int .i64 0, .fsl []]]⟩), (o1, some ⟨118, 2, [[.fsl (encL rI_u8 r11.2.b), .int .i64 r11.2.p]]⟩), (M1 + 7, some ⟨28, 3, [[.sl M5 0 l10.length, .int .i64 0, .fsl (encL rI r4.1.Mem)]]⟩), (M5, some ⟨3, 1, encL rI l13⟩)] M6) (by decide) (fun K hK => ?_) ?_
 ·
  simp only [pickL, nthO_succ, nthO_zero]
  have e0 := nq (a := N0) (b := o1) (by omega)
  have e1 := nq (a := N0) (b := M1 + 7) (by omega)
  have e2 := nq (a := N0) (b := M5) (by omega)
  have e3 := nq (a := o1) (b := M1 + 7) (by omega)
  have e4 := nq (a := o1) (b := M5) (by omega)
  have e5 := nq (a := M1 + 7) (b := M5) (by omega)
  simp -dsimp -implicitDefEqProofs (maxDischargeDepth := 6) [e0, e1, e2, e3, e4, e5, ixo22 hv12, (show _[17]? = some v12 from (idx_lt3 hv12).2.2), (show List.set _ 17 _ = l13 from (setx_iff.1 hl13).2.symm)]
  refine (c74 (W0 := [[.fsl (encL rI_u8 r8.2.b), .int .i64 r8.2.p]]) (r0_ := 0) (H := hr11) (by simp [e0, e1, e2, e3, e4, e5, ixo22 hv12, (show _[17]? = some v12 from (idx_lt3 hv12).2.2), (show List.set _ 17 _ = l13 from (setx_iff.1 hl13).2.symm)]) (by simp [e0, e1, e2, e3, e4, e5, ixo22 hv12, (show _[17]? = some v12 from (idx_lt3 hv12).2.2), (show List.set _ 17 _ = l13 from (setx_iff.1 hl13).2.symm)])).mono ?_; rintro _ _ ⟨M6, fM6_0, rfl, rfl⟩; simp only [hp_next] at fM6_0
  try simp -dsimp -implicitDefEqProofs (maxDischargeDepth := 6) [e0, e1, e2, e3, e4, e5, ixo22 hv12, (show _[17]? = some v12 from (idx_lt3 hv12).2.2), (show List.set _ 17 _ = l13 from (setx_iff.1 hl13).2.symm), hp_over_some, hp_over_none]
  exact hK _ _ ⟨M6, (by omega), rfl, rfl⟩
 rintro a σ ⟨M6, fM6_0, rfl, rfl⟩
 try rw [← setx_len hl13]
 refine gPk AWP_ref (k := l13.length) (o := (M1 + 7)) (ob := ⟨28, 3, [[.sl M5 0 l13.length, .int .i64 0, .fsl (encL rI r4.1.Mem)]]⟩) (row := [.sl M5 0 l13.length, .int .i64 0, .fsl (encL rI r4.1.Mem)]) (d := M5) (obd := ⟨3, 1, encL rI l13⟩) (r := 0) (i := 0) [(N0, some ⟨28, 3, [[.fsl [], .int .i64 0, .fsl []]]⟩), (o1, some ⟨118, 2, [[.fsl (encL rI_u8 r11.2.b), .int .i64 r11.2.p]]⟩), (M1 + 7, some ⟨28, 3, [[.osl 3 1 (encL rI l13), .int .i64 0, .fsl (encL rI r4.1.Mem)]]⟩)] (by simp (disch := omega)) rfl rfl (by simp (disch := omega)) (by simp (disch := omega)) (by first | omega | simp) (by simp (disch := omega) [List.set_set, app_set] <;> omega) (by simp (disch := omega) [List.set_set, app_set]) ?_
 refine gUnp AWP_ref (ty := 3) (sz := 1) (es := encL rI l13) (o := (M1 + 7)) (ob := ⟨28, 3, [[.osl 3 1 (encL rI l13), .int .i64 0, .fsl (encL rI r4.1.Mem)]]⟩) (row := [.osl 3 1 (encL rI l13), .int .i64 0, .fsl (encL rI r4.1.Mem)]) (r := 0) (i := 0) [(N0, some ⟨28, 3, [[.fsl [], .int .i64 0, .fsl []]]⟩), (o1, some ⟨118, 2, [[.fsl (encL rI_u8 r11.2.b), .int .i64 r11.2.p]]⟩), (M1 + 7, some ⟨28, 3, [[.sl M6 0 l13.length, .int .i64 0, .fsl (encL rI r4.1.Mem)]]⟩), (M6, some ⟨3, 1, encL rI l13⟩)] (by simp (disch := omega)) rfl rfl (by simp (disch := omega) [List.set_set]) ?_
 obtain ⟨r14, hr14, H⟩ := bindE H
 obtain ⟨v15, hv15, H⟩ := bindE H
 obtain ⟨l16, hl16, H⟩ := bindE H
 refine AWP_sy tok tokM [] [1, 3, 4, 5] [0, 2, 1, 3, 4, 5] [(3, [1])] [2, 4, 5] (fun a σ => ∃ M7 : Nat, M6 + 7 ≤ M7 ∧ a = [(2, .ptr N0 0 0), (4, .ptr o1 0 0), (5, .ptr (M1 + 7) 0 0)] ∧ σ = hp E0 [(N0, some ⟨28, 3, [[.fsl [], .int .i64 0, .fsl []]]⟩), (o1, some ⟨118, 2, [[.fsl (encL rI_u8 r14.2.b), .int .i64 r14.2.p]]⟩), (M1 + 7, some ⟨28, 3, [[.sl M6 0 l13.length, .int .i64 0, .fsl (encL rI r4.1.Mem)]]⟩), (M6, some ⟨3, 1, encL rI l16⟩)] M7) (by decide) (fun K hK => ?_) ?_
 ·
  simp only [pickL, nthO_succ, nthO_zero]
  have e0 := nq (a := N0) (b := o1) (by omega)
  have e1 := nq (a := N0) (b := M1 + 7) (by omega)
  have e2 := nq (a := N0) (b := M6) (by omega)
  have e3 := nq (a := o1) (b := M1 + 7) (by omega)
  have e4 := nq (a := o1) (b := M6) (by omega)
  have e5 := nq (a := M1 + 7) (b := M6) (by omega)
  simp -dsimp -implicitDefEqProofs (maxDischargeDepth := 6) [e0, e1, e2, e3, e4, e5, ixo22 hv15, (show _[11]? = some v15 from (idx_lt3 hv15).2.2), (show List.set _ 11 _ = l16 from (setx_iff.1 hl16).2.symm)]
  refine (c74 (W0 := [[.fsl (encL rI_u8 r11.2.b), .int .i64 r11.2.p]]) (r0_ := 0) (H := hr14) (by simp [e0, e1, e2, e3, e4, e5, ixo22 hv15, (show _[11]? = some v15 from (idx_lt3 hv15).2.2), (show List.set _ 11 _ = l16 from (setx_iff.1 hl16).2.symm)]) (by simp [e0, e1, e2, e3, e4, e5, ixo22 hv15, (show _[11]? = some v15 from (idx_lt3 hv15).2.2), (show List.set _ 11 _ = l16 from (setx_iff.1 hl16).2.symm)])).mono ?_; rintro _ _ ⟨M7, fM7_0, rfl, rfl⟩; simp only [hp_next] at fM7_0
  try simp -dsimp -implicitDefEqProofs (maxDischargeDepth := 6) [e0, e1, e2, e3, e4, e5, ixo22 hv15, (show _[11]? = some v15 from (idx_lt3 hv15).2.2), (show List.set _ 11 _ = l16 from (setx_iff.1 hl16).2.symm), hp_over_some, hp_over_none]
  exact hK _ _ ⟨M7, (by omega), rfl, rfl⟩
 rintro a σ ⟨M7, fM7_0, rfl, rfl⟩
 try rw [← setx_len hl16]
 obtain ⟨j1, hj1, H⟩ := bindE H
 refine AWP_seq (AWP_named fun K1 hK1 => ?_)
 have hJ1 : ∀ a σ, Rc G 67 N0 (fun a σ => ∃ M8 : Nat, N0 ≤ M8 ∧ N0 < M8 ∧ o1 < M8 ∧ M1 + 7 < M8 ∧ a = [(2, .ptr N0 0 0), (4, .ptr o1 0 0), (5, .ptr (M1 + 7) 0 0)] ∧ σ = hp E0 [(N0, some ⟨28, 3, [[.fsl [], .int .i64 0, .fsl []]]⟩), (o1, some ⟨118, 2, [[.fsl (encL rI_u8 j1.1.b), .int .i64 j1.1.p]]⟩), (M1 + 7, some ⟨28, 3, [[.osl 3 1 (encL rI j1.2.Regs), .int .i64 j1.2.Pc, .fsl (encL rI j1.2.Mem)]]⟩)] M8) (a.keep [2, 4, 5]) σ → K1 a σ := by
  rintro a σ ⟨b, τ, hr, M8, fM8_0, fM8_1, fM8_2, fM8_3, rfl, rfl⟩
  refine hK1 _ _ (AWP_keep [2, 4, 5] (AWP_ref hr ?_))
  refine gUnp AWP_ref (ty := 3) (sz := 1) (es := encL rI j1.2.Regs) (o := (M1 + 7)) (ob := ⟨28, 3, [[.osl 3 1 (encL rI j1.2.Regs), .int .i64 j1.2.Pc, .fsl (encL rI j1.2.Mem)]]⟩) (row := [.osl 3 1 (encL rI j1.2.Regs), .int .i64 j1.2.Pc, .fsl (encL rI j1.2.Mem)]) (r := 0) (i := 0) [(N0, some ⟨28, 3, [[.fsl [], .int .i64 0, .fsl []]]⟩), (o1, some ⟨118, 2, [[.fsl (encL rI_u8 j1.1.b), .int .i64 j1.1.p]]⟩), (M1 + 7, some ⟨28, 3, [[.sl M8 0 j1.2.Regs.length, .int .i64 j1.2.Pc, .fsl (encL rI j1.2.Mem)]]⟩), (M8, some ⟨3, 1, encL rI j1.2.Regs⟩)] (by simp (disch := omega)) rfl rfl (by simp (disch := omega) [List.set_set]) ?_
  obtain ⟨r19, hr19, H⟩ := bindE H
  refine AWP_sy tok tokM [] [0, 2, 3] [1, 0, 2, 3, 4] [(2, [0])] [2, 3] (fun a σ => ∃ M9 : Nat, M8 + 6 ≤ M9 ∧ a = [(2, .ptr N0 0 0), (3, .fsl (encL rBox r19.1))] ∧ σ = hp E0 [(N0, some ⟨28, 3, [[.sl M8 0 j1.2.Regs.length, .int .i64 j1.2.Pc, .fsl (encL rI j1.2.Mem)]]⟩), (o1, some ⟨118, 2, [[.fsl (encL rI_u8 r19.2.b), .int .i64 r19.2.p]]⟩), (M1 + 7, some ⟨28, 3, [[.sl M8 0 j1.2.Regs.length, .int .i64 j1.2.Pc, .fsl (encL rI j1.2.Mem)]]⟩), (M8, some ⟨3, 1, encL rI j1.2.Regs⟩)] M9) (by decide) (fun K hK => ?_) ?_
  ·
   simp only [pickL, nthO_succ, nthO_zero]
   have e0 := nq (a := N0) (b := o1) (by omega)
   have e1 := nq (a := N0) (b := M1 + 7) (by omega)
   have e2 := nq (a := N0) (b := M8) (by omega)
   have e3 := nq (a := o1) (b := M1 + 7) (by omega)
   have e4 := nq (a := o1) (b := M8) (by omega)
   have e5 := nq (a := M1 + 7) (b := M8) (by omega)
   simp -dsimp -implicitDefEqProofs (maxDischargeDepth := 6) [e0, e1, e2, e3, e4, e5]
   refine (c76 (W0 := [[.fsl (encL rI_u8 j1.1.b), .int .i64 j1.1.p]]) (r0_ := 0) (H := hr19) (by simp [e0, e1, e2, e3, e4, e5]) (by simp [e0, e1, e2, e3, e4, e5])).mono ?_; rintro _ _ ⟨M9, fM9_0, rfl, rfl⟩; simp only [hp_next] at fM9_0
   try simp -dsimp -implicitDefEqProofs (maxDischargeDepth := 6) [e0, e1, e2, e3, e4, e5, hp_over_some, hp_over_none]
   exact hK _ _ ⟨M9, (by omega), rfl, rfl⟩
  rintro a σ ⟨M9, fM9_0, rfl, rfl⟩
  replace H := Option.some.inj H; subst H
  refine AWP_kp [2, 3] [(2, .ptr N0 0 0), (3, .fsl (encL rBox r19.1))] rfl ?_
  have z0 := nq (a := N0) (b := o1) (by omega)
  have z1 := nq (a := N0) (b := M1 + 7) (by omega)
  have z2 := nq (a := N0) (b := M8) (by omega)
  have z3 := nq (a := o1) (b := M1 + 7) (by omega)
  have z4 := nq (a := o1) (b := M8) (by omega)
  have z5 := nq (a := M1 + 7) (b := M8) (by omega)
  refine AWP_ret ?_
  exact ⟨[.agg [.sl M8 0 j1.2.Regs.length, .int .i64 j1.2.Pc, .fsl (encL rI j1.2.Mem)], .fsl (encL rBox r19.1)], by simp [z0, z1, z2, z3, z4, z5], 4, by simp [encL_nil, z0, z1, z2, z3, z4, z5]⟩
 replace H := hj1
 refine gPk AWP_ref (k := l16.length) (o := (M1 + 7)) (ob := ⟨28, 3, [[.sl M6 0 l16.length, .int .i64 0, .fsl (encL rI r4.1.Mem)]]⟩) (row := [.sl M6 0 l16.length, .int .i64 0, .fsl (encL rI r4.1.Mem)]) (d := M6) (obd := ⟨3, 1, encL rI l16⟩) (r := 0) (i := 0) [(N0, some ⟨28, 3, [[.fsl [], .int .i64 0, .fsl []]]⟩), (o1, some ⟨118, 2, [[.fsl (encL rI_u8 r14.2.b), .int .i64 r14.2.p]]⟩), (M1 + 7, some ⟨28, 3, [[.osl 3 1 (encL rI l16), .int .i64 0, .fsl (encL rI r4.1.Mem)]]⟩)] (by simp (disch := omega)) rfl rfl (by simp (disch := omega)) (by simp (disch := omega)) (by first | omega | simp) (by simp (disch := omega) [List.set_set, app_set] <;> omega) (by simp (disch := omega) [List.set_set, app_set]) ?_
 obtain ⟨r20, hr20, H⟩ := bindE H
 refine AWP_sr tok [] [2, 4, 5, 40] (fun a σ => ∃ M10 : Nat, M7 + 2 ≤ M10 ∧ a = [(2, .ptr N0 0 0), (4, .ptr o1 0 0), (5, .ptr (M1 + 7) 0 0), (40, .int .i64 r20.1)] ∧ σ = hp E0 [(N0, some ⟨28, 3, [[.fsl [], .int .i64 0, .fsl []]]⟩), (o1, some ⟨118, 2, [[.fsl (encL rI_u8 r20.2.b), .int .i64 r20.2.p]]⟩), (M1 + 7, some ⟨28, 3, [[.osl 3 1 (encL rI l16), .int .i64 0, .fsl (encL rI r4.1.Mem)]]⟩)] M10) (fun K hK => ?_) ?_
 ·
  skip
  have e0 := nq (a := N0) (b := o1) (by omega)
  have e1 := nq (a := N0) (b := M1 + 7) (by omega)
  have e2 := nq (a := o1) (b := M1 + 7) (by omega)
  simp -dsimp -implicitDefEqProofs (maxDischargeDepth := 6) [e0, e1, e2]
  refine (c74 (W0 := [[.fsl (encL rI_u8 r14.2.b), .int .i64 r14.2.p]]) (r0_ := 0) (H := hr20) (by simp [e0, e1, e2]) (by simp [e0, e1, e2])).mono ?_; rintro _ _ ⟨M10, fM10_0, rfl, rfl⟩; simp only [hp_next] at fM10_0
  try simp -dsimp -implicitDefEqProofs (maxDischargeDepth := 6) [e0, e1, e2, hp_over_some, hp_over_none]
  exact hK _ _ ⟨M10, (by omega), rfl, rfl⟩
 rintro a σ ⟨M10, fM10_0, rfl, rfl⟩
 refine AWP_block (AWP_thenB ?_)
 refine AWP_sr tok [] [2, 4, 5, 40, 41] (fun a σ => a = [(2, .ptr N0 0 0), (4, .ptr o1 0 0), (5, .ptr (M1 + 7) 0 0), (40, .int .i64 r20.1), (41, .bool (ieq r20.1 0))] ∧ σ = hp E0 [(N0, some ⟨28, 3, [[.fsl [], .int .i64 0, .fsl []]]⟩), (o1, some ⟨118, 2, [[.fsl (encL rI_u8 r20.2.b), .int .i64 r20.2.p]]⟩), (M1 + 7, some ⟨28, 3, [[.osl 3 1 (encL rI l16), .int .i64 0, .fsl (encL rI r4.1.Mem)]]⟩)] (M10 + 2)) (fun K hK => ?_) ?_
 ·
  skip
  have e0 := nq (a := N0) (b := o1) (by omega)
  have e1 := nq (a := N0) (b := M1 + 7) (by omega)
  have e2 := nq (a := o1) (b := M1 + 7) (by omega)
  simp -dsimp -implicitDefEqProofs (maxDischargeDepth := 6) [e0, e1, e2]
  exact hK _ _ ⟨rfl, rfl⟩
 rintro a σ ⟨rfl, rfl⟩
 refine AWP_cond (ieq r20.1 0) rfl (fun C1 => ?_) (fun C1 => ?_)
 ·
  replace H := ifT C1 H
  refine AWP_rt tok [] [2, 4, 5] (fun a σ => a = [(2, .ptr N0 0 0), (4, .ptr o1 0 0), (5, .ptr (M1 + 7) 0 0)] ∧ σ = hp E0 [(N0, some ⟨28, 3, [[.fsl [], .int .i64 0, .fsl []]]⟩), (o1, some ⟨118, 2, [[.fsl (encL rI_u8 r20.2.b), .int .i64 r20.2.p]]⟩), (M1 + 7, some ⟨28, 3, [[.osl 3 1 (encL rI l16), .int .i64 4, .fsl (encL rI r4.1.Mem)]]⟩)] (M10 + 4)) (fun K hK => ?_) ?_
  ·
   skip
   have e0 := nq (a := N0) (b := o1) (by omega)
   have e1 := nq (a := N0) (b := M1 + 7) (by omega)
   have e2 := nq (a := o1) (b := M1 + 7) (by omega)
   simp -dsimp -implicitDefEqProofs (maxDischargeDepth := 6) [e0, e1, e2]
   exact hK _ _ ⟨rfl, rfl⟩
  rintro a σ ⟨ha, rfl⟩
  replace H := Option.some.inj H; subst H
  refine hJ1 _ _ ?_; rw [ha]
  exact Rc.fin (AHeap.Sub.refl _) ⟨M10 + 4, (by omega), (by omega), (by omega), (by omega), rfl, rfl⟩
 ·
  replace H := ifF C1 H
  refine AWP_sr tok [] [2, 4, 5, 40, 44] (fun a σ => a = [(2, .ptr N0 0 0), (4, .ptr o1 0 0), (5, .ptr (M1 + 7) 0 0), (40, .int .i64 r20.1), (44, .bool (ieq r20.1 1))] ∧ σ = hp E0 [(N0, some ⟨28, 3, [[.fsl [], .int .i64 0, .fsl []]]⟩), (o1, some ⟨118, 2, [[.fsl (encL rI_u8 r20.2.b), .int .i64 r20.2.p]]⟩), (M1 + 7, some ⟨28, 3, [[.osl 3 1 (encL rI l16), .int .i64 0, .fsl (encL rI r4.1.Mem)]]⟩)] (M10 + 4)) (fun K hK => ?_) ?_
  ·
   skip
   have e0 := nq (a := N0) (b := o1) (by omega)
   have e1 := nq (a := N0) (b := M1 + 7) (by omega)
   have e2 := nq (a := o1) (b := M1 + 7) (by omega)
   simp -dsimp -implicitDefEqProofs (maxDischargeDepth := 6) [e0, e1, e2]
   exact hK _ _ ⟨rfl, rfl⟩
  rintro a σ ⟨rfl, rfl⟩
  refine AWP_cond (ieq r20.1 1) rfl (fun C2 => ?_) (fun C2 => ?_)
  ·
   replace H := ifT C2 H
   refine gUnp AWP_ref (ty := 3) (sz := 1) (es := encL rI l16) (o := (M1 + 7)) (ob := ⟨28, 3, [[.osl 3 1 (encL rI l16), .int .i64 0, .fsl (encL rI r4.1.Mem)]]⟩) (row := [.osl 3 1 (encL rI l16), .int .i64 0, .fsl (encL rI r4.1.Mem)]) (r := 0) (i := 0) [(N0, some ⟨28, 3, [[.fsl [], .int .i64 0, .fsl []]]⟩), (o1, some ⟨118, 2, [[.fsl (encL rI_u8 r20.2.b), .int .i64 r20.2.p]]⟩), (M1 + 7, some ⟨28, 3, [[.sl (M10 + 4) 0 l16.length, .int .i64 0, .fsl (encL rI r4.1.Mem)]]⟩), (M10 + 4, some ⟨3, 1, encL rI l16⟩)] (by simp (disch := omega)) rfl rfl (by simp (disch := omega) [List.set_set]) ?_
   obtain ⟨r21, hr21, H⟩ := bindE H
   obtain ⟨v22, hv22, H⟩ := bindE H
   obtain ⟨v23, hv23, H⟩ := bindE H
   obtain ⟨l24, hl24, H⟩ := bindE H
   have q0 : ∀ σ i, buildSliceA T 22 true i 2 [(0, .int .i64 0), (1, .int .i64 6)] σ = some (.fsl (encL rI ([0, 6] : List Int)), σ) := fun _ _ => rfl
   refine AWP_ry tok tokM [2] [1, 4, 5, 6, 7, 8] [0, 2, 3, 1, 4, 5, 6, 7, 8] [(4, [1])] [2, 4, 5] (fun a σ => ∃ M11 : Nat, M10 + 14 ≤ M11 ∧ a = [(2, .ptr N0 0 0), (4, .ptr o1 0 0), (5, .ptr (M1 + 7) 0 0)] ∧ σ = hp E0 [(N0, some ⟨28, 3, [[.fsl [], .int .i64 0, .fsl []]]⟩), (o1, some ⟨118, 2, [[.fsl (encL rI_u8 r21.2.b), .int .i64 r21.2.p]]⟩), (M1 + 7, some ⟨28, 3, [[.sl (M10 + 4) 0 l16.length, .int .i64 0, .fsl (encL rI r4.1.Mem)]]⟩), (M10 + 4, some ⟨3, 1, encL rI l24⟩)] M11) (by decide) (fun K hK => ?_) ?_
   ·
    simp only [pickL, nthO_succ, nthO_zero]
    have e0 := nq (a := N0) (b := o1) (by omega)
    have e1 := nq (a := N0) (b := M1 + 7) (by omega)
    have e2 := nq (a := N0) (b := M10 + 4) (by omega)
    have e3 := nq (a := o1) (b := M1 + 7) (by omega)
    have e4 := nq (a := o1) (b := M10 + 4) (by omega)
    have e5 := nq (a := M1 + 7) (b := M10 + 4) (by omega)
    have e6 := nq (a := M1 + 3) (b := M10) (by omega)
    simp -dsimp -implicitDefEqProofs (maxDischargeDepth := 6) [e0, e1, e2, e3, e4, e5, e6, q0, ix22 hv22, ixo22 hv23, (show _[17]? = some v23 from (idx_lt3 hv23).2.2), (show List.set _ 17 _ = l24 from (setx_iff.1 hl24).2.symm)]
    refine (c74 (W0 := [[.fsl (encL rI_u8 r20.2.b), .int .i64 r20.2.p]]) (r0_ := 0) (H := hr21) (by simp [e0, e1, e2, e3, e4, e5, e6, q0, ix22 hv22, ixo22 hv23, (show _[17]? = some v23 from (idx_lt3 hv23).2.2), (show List.set _ 17 _ = l24 from (setx_iff.1 hl24).2.symm)]) (by simp [e0, e1, e2, e3, e4, e5, e6, q0, ix22 hv22, ixo22 hv23, (show _[17]? = some v23 from (idx_lt3 hv23).2.2), (show List.set _ 17 _ = l24 from (setx_iff.1 hl24).2.symm)])).mono ?_; rintro _ _ ⟨M11, fM11_0, rfl, rfl⟩; simp only [hp_next] at fM11_0
    try simp -dsimp -implicitDefEqProofs (maxDischargeDepth := 6) [e0, e1, e2, e3, e4, e5, e6, q0, ix22 hv22, ixo22 hv23, (show _[17]? = some v23 from (idx_lt3 hv23).2.2), (show List.set _ 17 _ = l24 from (setx_iff.1 hl24).2.symm), hp_over_some, hp_over_none]
    exact hK _ _ ⟨M11, (by omega), rfl, rfl⟩
   rintro a σ ⟨M11, fM11_0, ha, rfl⟩
   (try rw [← setx_len hl24] at ha); (try rw [← setx_len hl24])
   replace H := Option.some.inj H; subst H
   refine hJ1 _ _ ?_; rw [ha]
   refine gPk Rc_ref (k := l24.length) (o := (M1 + 7)) (ob := ⟨28, 3, [[.sl (M10 + 4) 0 l24.length, .int .i64 0, .fsl (encL rI r4.1.Mem)]]⟩) (row := [.sl (M10 + 4) 0 l24.length, .int .i64 0, .fsl (encL rI r4.1.Mem)]) (d := (M10 + 4)) (obd := ⟨3, 1, encL rI l24⟩) (r := 0) (i := 0) [(N0, some ⟨28, 3, [[.fsl [], .int .i64 0, .fsl []]]⟩), (o1, some ⟨118, 2, [[.fsl (encL rI_u8 r21.2.b), .int .i64 r21.2.p]]⟩), (M1 + 7, some ⟨28, 3, [[.osl 3 1 (encL rI l24), .int .i64 0, .fsl (encL rI r4.1.Mem)]]⟩)] (by simp (disch := omega)) rfl rfl (by simp (disch := omega)) (by simp (disch := omega)) (by first | omega | simp) (by simp (disch := omega) [List.set_set, app_set] <;> omega) (by simp (disch := omega) [List.set_set, app_set]) ?_
   exact Rc.fin (AHeap.Sub.refl _) ⟨M11, (by omega), (by omega), (by omega), (by omega), rfl, rfl⟩
  ·
   replace H := ifF C2 H
   refine AWP_sr tok [] [2, 4, 5, 54] (fun a σ => a = [(2, .ptr N0 0 0), (4, .ptr o1 0 0), (5, .ptr (M1 + 7) 0 0), (54, .bool (ieq r20.1 2))] ∧ σ = hp E0 [(N0, some ⟨28, 3, [[.fsl [], .int .i64 0, .fsl []]]⟩), (o1, some ⟨118, 2, [[.fsl (encL rI_u8 r20.2.b), .int .i64 r20.2.p]]⟩), (M1 + 7, some ⟨28, 3, [[.osl 3 1 (encL rI l16), .int .i64 0, .fsl (encL rI r4.1.Mem)]]⟩)] (M10 + 6)) (fun K hK => ?_) ?_
   ·
    skip
    have e0 := nq (a := N0) (b := o1) (by omega)
    have e1 := nq (a := N0) (b := M1 + 7) (by omega)
    have e2 := nq (a := o1) (b := M1 + 7) (by omega)
    simp -dsimp -implicitDefEqProofs (maxDischargeDepth := 6) [e0, e1, e2]
    exact hK _ _ ⟨rfl, rfl⟩
   rintro a σ ⟨rfl, rfl⟩
   refine AWP_cond (ieq r20.1 2) rfl (fun C3 => ?_) (fun C3 => ?_)
   ·
    replace H := ifT C3 H
    refine gUnp AWP_ref (ty := 3) (sz := 1) (es := encL rI l16) (o := (M1 + 7)) (ob := ⟨28, 3, [[.osl 3 1 (encL rI l16), .int .i64 0, .fsl (encL rI r4.1.Mem)]]⟩) (row := [.osl 3 1 (encL rI l16), .int .i64 0, .fsl (encL rI r4.1.Mem)]) (r := 0) (i := 0) [(N0, some ⟨28, 3, [[.fsl [], .int .i64 0, .fsl []]]⟩), (o1, some ⟨118, 2, [[.fsl (encL rI_u8 r20.2.b), .int .i64 r20.2.p]]⟩), (M1 + 7, some ⟨28, 3, [[.sl (M10 + 6) 0 l16.length, .int .i64 0, .fsl (encL rI r4.1.Mem)]]⟩), (M10 + 6, some ⟨3, 1, encL rI l16⟩)] (by simp (disch := omega)) rfl rfl (by simp (disch := omega) [List.set_set]) ?_
    obtain ⟨r25, hr25, H⟩ := bindE H
    obtain ⟨v26, hv26, H⟩ := bindE H
    obtain ⟨v27, hv27, H⟩ := bindE H
    obtain ⟨l28, hl28, H⟩ := bindE H
    have q1 : ∀ σ i, buildSliceA T 22 true i 2 [(0, .int .i64 (-1)), (1, .int .i64 3)] σ = some (.fsl (encL rI ([-1, 3] : List Int)), σ) := fun _ _ => rfl
    refine AWP_ry tok tokM [2] [1, 4, 5, 6, 7, 8] [0, 2, 3, 1, 4, 5, 6, 7, 8] [(4, [1])] [2, 4, 5] (fun a σ => ∃ M12 : Nat, M10 + 16 ≤ M12 ∧ a = [(2, .ptr N0 0 0), (4, .ptr o1 0 0), (5, .ptr (M1 + 7) 0 0)] ∧ σ = hp E0 [(N0, some ⟨28, 3, [[.fsl [], .int .i64 0, .fsl []]]⟩), (o1, some ⟨118, 2, [[.fsl (encL rI_u8 r25.2.b), .int .i64 r25.2.p]]⟩), (M1 + 7, some ⟨28, 3, [[.sl (M10 + 6) 0 l16.length, .int .i64 0, .fsl (encL rI r4.1.Mem)]]⟩), (M10 + 6, some ⟨3, 1, encL rI l28⟩)] M12) (by decide) (fun K hK => ?_) ?_
    ·
     simp only [pickL, nthO_succ, nthO_zero]
     have e0 := nq (a := N0) (b := o1) (by omega)
     have e1 := nq (a := N0) (b := M1 + 7) (by omega)
     have e2 := nq (a := N0) (b := M10 + 6) (by omega)
     have e3 := nq (a := o1) (b := M1 + 7) (by omega)
     have e4 := nq (a := o1) (b := M10 + 6) (by omega)
     have e5 := nq (a := M1 + 7) (b := M10 + 6) (by omega)
     have e6 := nq (a := M1 + 1) (b := M10) (by omega)
     simp -dsimp -implicitDefEqProofs (maxDischargeDepth := 6) [e0, e1, e2, e3, e4, e5, e6, q1, ix22 hv26, ixo22 hv27, (show _[11]? = some v27 from (idx_lt3 hv27).2.2), (show List.set _ 11 _ = l28 from (setx_iff.1 hl28).2.symm)]
     refine (c74 (W0 := [[.fsl (encL rI_u8 r20.2.b), .int .i64 r20.2.p]]) (r0_ := 0) (H := hr25) (by simp [e0, e1, e2, e3, e4, e5, e6, q1, ix22 hv26, ixo22 hv27, (show _[11]? = some v27 from (idx_lt3 hv27).2.2), (show List.set _ 11 _ = l28 from (setx_iff.1 hl28).2.symm)]) (by simp [e0, e1, e2, e3, e4, e5, e6, q1, ix22 hv26, ixo22 hv27, (show _[11]? = some v27 from (idx_lt3 hv27).2.2), (show List.set _ 11 _ = l28 from (setx_iff.1 hl28).2.symm)])).mono ?_; rintro _ _ ⟨M12, fM12_0, rfl, rfl⟩; simp only [hp_next] at fM12_0
     try simp -dsimp -implicitDefEqProofs (maxDischargeDepth := 6) [e0, e1, e2, e3, e4, e5, e6, q1, ix22 hv26, ixo22 hv27, (show _[11]? = some v27 from (idx_lt3 hv27).2.2), (show List.set _ 11 _ = l28 from (setx_iff.1 hl28).2.symm), hp_over_some, hp_over_none]
     exact hK _ _ ⟨M12, (by omega), rfl, rfl⟩
    rintro a σ ⟨M12, fM12_0, ha, rfl⟩
    (try rw [← setx_len hl28] at ha); (try rw [← setx_len hl28])
    replace H := Option.some.inj H; subst H
    refine hJ1 _ _ ?_; rw [ha]
    refine gPk Rc_ref (k := l28.length) (o := (M1 + 7)) (ob := ⟨28, 3, [[.sl (M10 + 6) 0 l28.length, .int .i64 0, .fsl (encL rI r4.1.Mem)]]⟩) (row := [.sl (M10 + 6) 0 l28.length, .int .i64 0, .fsl (encL rI r4.1.Mem)]) (d := (M10 + 6)) (obd := ⟨3, 1, encL rI l28⟩) (r := 0) (i := 0) [(N0, some ⟨28, 3, [[.fsl [], .int .i64 0, .fsl []]]⟩), (o1, some ⟨118, 2, [[.fsl (encL rI_u8 r25.2.b), .int .i64 r25.2.p]]⟩), (M1 + 7, some ⟨28, 3, [[.osl 3 1 (encL rI l28), .int .i64 0, .fsl (encL rI r4.1.Mem)]]⟩)] (by simp (disch := omega)) rfl rfl (by simp (disch := omega)) (by simp (disch := omega)) (by first | omega | simp) (by simp (disch := omega) [List.set_set, app_set] <;> omega) (by simp (disch := omega) [List.set_set, app_set]) ?_
    exact Rc.fin (AHeap.Sub.refl _) ⟨M12, (by omega), (by omega), (by omega), (by omega), rfl, rfl⟩
   ·
    replace H := ifF C3 H
    refine AWP_skip ?_
    show K1 _ _
    refine keepE (l := [2, 4, 5]) (x := [(2, .ptr N0 0 0), (4, .ptr o1 0 0), (5, .ptr (M1 + 7) 0 0)]) rfl fun a' ha => ?_
    replace H := Option.some.inj H; subst H
    refine hJ1 _ _ ?_; rw [ha]
    exact Rc.fin (AHeap.Sub.refl _) ⟨M10 + 6, (by omega), (by omega), (by omega), (by omega), rfl, rfl⟩
theorem c35 {p0 : (List Int)} {p1 : (List Int)} {r : Bool} (H : l_sameInts p0 p1 = some r) : APure Try.prog G 35 [.fsl (encL rI p0), .fsl (encL rI p1)] (.bool r) := by
 refine APure_fn (fun N0 => ?_) (by simp)
 refine ACalls_fn tok Try.func35 (by kernel_rfl) rfl Try.ntmps35 Try.results35 rfl ?_
 simp only [argsA, Nat.reduceAdd, hp_next]
 unfold l_sameInts at H
 refine AWP_sr tok [] [0, 1] (fun a σ => a = [(0, .fsl (encL rI p0)), (1, .fsl (encL rI p1))] ∧ σ = hp E0 [] (N0 + 1)) (fun K hK => ?_) ?_
 ·
  skip
  simp -dsimp -implicitDefEqProofs (maxDischargeDepth := 6)
  exact hK _ _ ⟨rfl, rfl⟩
 rintro a σ ⟨rfl, rfl⟩
 refine AWP_sq [0, 1] fun K1 hK1 => ?_
 refine AWP_sr tok [] [0, 1, 10] (fun a σ => a = [(0, .fsl (encL rI p0)), (1, .fsl (encL rI p1)), (10, .bool (ine (ilen p0) (ilen p1)))] ∧ σ = hp E0 [] (N0 + 6)) (fun K hK => ?_) ?_
 ·
  skip
  simp -dsimp -implicitDefEqProofs (maxDischargeDepth := 6)
  exact hK _ _ ⟨rfl, rfl⟩
 rintro a σ ⟨rfl, rfl⟩
 refine AWP_cond (ine (ilen p0) (ilen p1)) rfl (fun C1 => ?_) (fun C1 => ?_)
 ·
  replace H := ifT C1 H
  refine AWP_sr tok [] [4] (fun a σ => a = [(4, .bool false)] ∧ σ = hp E0 [] (N0 + 7)) (fun K hK => ?_) ?_
  ·
   skip
   simp -dsimp -implicitDefEqProofs (maxDischargeDepth := 6)
   exact hK _ _ ⟨rfl, rfl⟩
  rintro a σ ⟨rfl, rfl⟩
  replace H := Option.some.inj H; subst H
  refine AWP_kp [4] [(4, .bool false)] rfl ?_
  refine AWP_ret ?_
  exact ⟨[.bool false], by simp, 4, by simp [encL_nil]⟩
 ·
  replace H := ifF C1 H
  refine AWP_skip ?_
  show K1 _ _
  refine keepE (l := [0, 1]) (x := [(0, .fsl (encL rI p0)), (1, .fsl (encL rI p1))]) rfl fun a' ha => ?_
  refine hK1 _ _ ?_; rw [ha]
  refine Rc.mk ?_
  refine AWP_sq [] fun K2 hK2 => ?_
  refine AWP_sr tok [] [0, 1, 5] (fun a σ => a = [(0, .fsl (encL rI p0)), (1, .fsl (encL rI p1)), (5, .int .i64 0)] ∧ σ = hp E0 [] (N0 + 7)) (fun K hK => ?_) ?_
  ·
   skip
   simp -dsimp -implicitDefEqProofs (maxDischargeDepth := 6)
   exact hK _ _ ⟨rfl, rfl⟩
  rintro a σ ⟨rfl, rfl⟩
  refine AWP_block (AWP_thenB ?_)
  obtain ⟨e1, hse1, H⟩ := bindE H
  refine AWP_lp [0, 1, 5] (fun s a σ => ∃ M1 : Nat, N0 ≤ M1 ∧ a = [(0, .fsl (encL rI p0)), (1, .fsl (encL rI p1)), (5, .int .i64 s)] ∧ σ = hp E0 [] M1) (fun e x a σ => match e with | .inl s => x = .exit 0 ∧ Rc G 26 N0 (fun a σ => ∃ M2 : Nat, N0 ≤ M2 ∧ a = [] ∧ σ = hp E0 [] M2) (AAct.keep a []) σ | .inr s => x = .ret ∧ ∃ vs, resA T σ a [.tmp 4] = some vs ∧ ∃ d, thawA (fun _ => true) σ d (tupA vs) = .bool s) hse1 ?_ ?_ ?_
  ·
   refine Rc.kp [0, 1, 5] [(0, .fsl (encL rI p0)), (1, .fsl (encL rI p1)), (5, .int .i64 0)] rfl ?_
   exact Rc.fin (AHeap.Sub.refl _) ⟨N0 + 7, (by omega), rfl, rfl⟩
  ·
   clear H hse1
   rintro s1 fl a σ H ⟨M1, fM1_0, rfl, rfl⟩ K3 O3 hK3 hO3
   unfold l_sameInts_L1 at H; dsimp only at H
   refine AWP_sq [0, 1, 5] fun K4 hK4 => ?_
   refine AWP_sr tok [] [0, 1, 5, 14] (fun a σ => a = [(0, .fsl (encL rI p0)), (1, .fsl (encL rI p1)), (5, .int .i64 s1), (14, .bool (ilt s1 (ilen p0)))] ∧ σ = hp E0 [] (M1 + 4)) (fun K hK => ?_) ?_
   ·
    skip
    simp -dsimp -implicitDefEqProofs (maxDischargeDepth := 6)
    exact hK _ _ ⟨rfl, rfl⟩
   rintro a σ ⟨rfl, rfl⟩
   refine AWP_cond (ilt s1 (ilen p0)) rfl (fun C2 => ?_) (fun C2 => ?_)
   ·
    replace H := ifT C2 H
    refine AWP_skip ?_
    show K4 _ _
    refine keepE (l := [0, 1, 5]) (x := [(0, .fsl (encL rI p0)), (1, .fsl (encL rI p1)), (5, .int .i64 s1)]) rfl fun a' ha => ?_
    refine hK4 _ _ ?_; rw [ha]
    refine Rc.mk ?_
    refine AWP_sq [0, 1, 5] fun K5 hK5 => ?_
    refine AWP_block (AWP_thenB ?_)
    obtain ⟨v2, hv2, H⟩ := bindE H
    obtain ⟨v3, hv3, H⟩ := bindE H
    refine AWP_sd tok tokM [] [] [0, 1, 2, 3, 4, 5, 6, 7, 8] [0, 1, 5, 25] (fun a σ => a = [(0, .fsl (encL rI p0)), (1, .fsl (encL rI p1)), (5, .int .i64 s1), (25, .bool (ine v2 v3))] ∧ σ = hp E0 [] (M1 + 13)) (by decide) (fun K hK => ?_) ?_
    ·
     simp only [pickL, nthO_succ, nthO_zero]
     simp -dsimp -implicitDefEqProofs (maxDischargeDepth := 6) [ix22 hv2, ix22 hv3]
     exact hK _ _ ⟨rfl, rfl⟩
    rintro a σ ⟨rfl, rfl⟩
    refine AWP_cond (ine v2 v3) rfl (fun C3 => ?_) (fun C3 => ?_)
    ·
     replace H := ifT C3 H
     refine AWP_sr tok [] [4] (fun a σ => a = [(4, .bool false)] ∧ σ = hp E0 [] (M1 + 14)) (fun K hK => ?_) ?_
     ·
      skip
      simp -dsimp -implicitDefEqProofs (maxDischargeDepth := 6)
      exact hK _ _ ⟨rfl, rfl⟩
     rintro a σ ⟨rfl, rfl⟩
     replace H := Option.some.inj H; subst H
     refine AWP_kp [4] [(4, .bool false)] rfl ?_
     refine AWP_ret (hO3 _ _ _ _ rfl ⟨rfl, ?_⟩)
     exact ⟨[.bool false], by simp, 4, by simp [encL_nil]⟩
    ·
     replace H := ifF C3 H
     refine AWP_skip ?_
     show K5 _ _
     refine keepE (l := [0, 1, 5]) (x := [(0, .fsl (encL rI p0)), (1, .fsl (encL rI p1)), (5, .int .i64 s1)]) rfl fun a' ha => ?_
     refine hK5 _ _ ?_; rw [ha]
     refine Rc.mk ?_
     refine AWP_rt tok [] [0, 1, 5] (fun a σ => a = [(0, .fsl (encL rI p0)), (1, .fsl (encL rI p1)), (5, .int .i64 (iadd .i64 s1 1))] ∧ σ = hp E0 [] (M1 + 16)) (fun K hK => ?_) ?_
     ·
      skip
      simp -dsimp -implicitDefEqProofs (maxDischargeDepth := 6)
      exact hK _ _ ⟨rfl, rfl⟩
     rintro a σ ⟨ha, rfl⟩
     replace H := Option.some.inj H; subst H
     refine hK3 _ _ _ rfl ?_; rw [ha]
     exact Rc.fin (AHeap.Sub.refl _) ⟨M1 + 16, (by omega), rfl, rfl⟩
   ·
    replace H := ifF C2 H
    replace H := Option.some.inj H; subst H
    refine AWP_exit (hO3 _ _ _ _ rfl ⟨rfl, ?_⟩)
    refine Rc.rw (l := []) (X := []) rfl ?_
    exact Rc.fin (AHeap.Sub.refl _) ⟨M1 + 4, (by omega), rfl, rfl⟩
  ·
   intro x a σ hx
   rcases e1 with ⟨⟩ | r0
   ·
    obtain ⟨rfl, b, τ, hr, M2, fM2_0, rfl, rfl⟩ := hx
    dsimp only at H
    show K2 _ _
    refine hK2 _ _ (Rc_ref hr ?_)
    refine Rc.mk ?_
    refine AWP_sr tok [] [4] (fun a σ => a = [(4, .bool true)] ∧ σ = hp E0 [] (M2 + 1)) (fun K hK => ?_) ?_
    ·
     skip
     simp -dsimp -implicitDefEqProofs (maxDischargeDepth := 6)
     exact hK _ _ ⟨rfl, rfl⟩
    rintro a σ ⟨rfl, rfl⟩
    replace H := Option.some.inj H; subst H
    refine AWP_kp [4] [(4, .bool true)] rfl ?_
    refine AWP_ret ?_
    exact ⟨[.bool true], by simp, 4, by simp [encL_nil]⟩
   ·
    obtain ⟨rfl, hx2⟩ := hx
    dsimp only at H
    replace H := Option.some.inj H; subst H; exact hx2
theorem c33 {p0 : gMachine} {p1 : gMachine} {r : Bool} (H : l_sameMachine p0 p1 = some r) : APure Try.prog G 33 [.agg [.fsl (encL rI p0.Regs), .int .i64 p0.Pc, .fsl (encL rI p0.Mem)], .agg [.fsl (encL rI p1.Regs), .int .i64 p1.Pc, .fsl (encL rI p1.Mem)]] (.bool r) := by
 refine APure_fn (fun N0 => ?_) (by simp)
 refine ACalls_fn tok Try.func33 (by kernel_rfl) rfl Try.ntmps33 Try.results33 rfl ?_
 simp only [argsA, Nat.reduceAdd, hp_next]
 unfold l_sameMachine at H
 refine AWP_sr tok [0, 1] [2, 3] (fun a σ => a = [(2, .fptr [.fsl (encL rI p0.Regs), .int .i64 p0.Pc, .fsl (encL rI p0.Mem)] 0), (3, .fptr [.fsl (encL rI p1.Regs), .int .i64 p1.Pc, .fsl (encL rI p1.Mem)] 0)] ∧ σ = hp E0 [] (N0 + 3)) (fun K hK => ?_) ?_
 ·
  skip
  simp -dsimp -implicitDefEqProofs (maxDischargeDepth := 6)
  exact hK _ _ ⟨rfl, rfl⟩
 rintro a σ ⟨rfl, rfl⟩
 obtain ⟨g2, hg2, H⟩ := bindE H
 obtain ⟨g4, hg4, H⟩ := bindE H
 refine AWP_sr tok [] [4] (fun a σ => a = [(4, .bool g4)] ∧ σ = hp E0 [] (N0 + 23)) (fun K hK => ?_) ?_
 ·
  skip
  simp -dsimp -implicitDefEqProofs (maxDischargeDepth := 6)
  cases hbg2 : ieq p0.Pc p1.Pc
  ·
   replace hg2 := ifF hbg2 hg2
   replace hg2 := Option.some.inj hg2; subst hg2
   try simp -dsimp -implicitDefEqProofs (maxDischargeDepth := 6) [hbg2]
   replace hg4 := ifF rfl hg4
   replace hg4 := Option.some.inj hg4; subst hg4
   try simp -dsimp -implicitDefEqProofs (maxDischargeDepth := 6) [hbg2]
   exact hK _ _ ⟨rfl, rfl⟩
  ·
   replace hg2 := ifT hbg2 hg2
   obtain ⟨r1, hr1, hg2⟩ := bindE hg2
   replace hg2 := Option.some.inj hg2; subst hg2
   try simp -dsimp -implicitDefEqProofs (maxDischargeDepth := 6) [hbg2]
   refine (c35 hr1).app ?_; try simp -dsimp -implicitDefEqProofs (maxDischargeDepth := 6) [hbg2]
   cases hbg4 : r1
   ·
    replace hg4 := ifF hbg4 hg4
    replace hg4 := Option.some.inj hg4; subst hg4
    try simp -dsimp -implicitDefEqProofs (maxDischargeDepth := 6) [hbg2, hbg4]
    exact hK _ _ ⟨rfl, rfl⟩
   ·
    replace hg4 := ifT hbg4 hg4
    obtain ⟨r3, hr3, hg4⟩ := bindE hg4
    replace hg4 := Option.some.inj hg4; subst hg4
    try simp -dsimp -implicitDefEqProofs (maxDischargeDepth := 6) [hbg2, hbg4]
    refine (c35 hr3).app ?_; try simp -dsimp -implicitDefEqProofs (maxDischargeDepth := 6) [hbg2, hbg4]
    exact hK _ _ ⟨rfl, rfl⟩
 rintro a σ ⟨rfl, rfl⟩
 replace H := Option.some.inj H; subst H
 refine AWP_kp [4] [(4, .bool g4)] rfl ?_
 refine AWP_ret ?_
 exact ⟨[.bool g4], by simp, 4, by simp [encL_nil]⟩
theorem c38 {p0 : gBox} {p1 : gBox} {r : Bool} (H : l_sameBox p0 p1 = some r) : APure Try.prog G 38 [.agg [.int .i64 p0.Room, .fsl (encL rI p0.Items)], .agg [.int .i64 p1.Room, .fsl (encL rI p1.Items)]] (.bool r) := by
 refine APure_fn (fun N0 => ?_) (by simp)
 refine ACalls_fn tok Try.func38 (by kernel_rfl) rfl Try.ntmps38 Try.results38 rfl ?_
 simp only [argsA, Nat.reduceAdd, hp_next]
 unfold l_sameBox at H
 refine AWP_sr tok [0, 1] [2, 3] (fun a σ => a = [(2, .fptr [.int .i64 p0.Room, .fsl (encL rI p0.Items)] 0), (3, .fptr [.int .i64 p1.Room, .fsl (encL rI p1.Items)] 0)] ∧ σ = hp E0 [] (N0 + 3)) (fun K hK => ?_) ?_
 ·
  skip
  simp -dsimp -implicitDefEqProofs (maxDischargeDepth := 6)
  exact hK _ _ ⟨rfl, rfl⟩
 rintro a σ ⟨rfl, rfl⟩
 obtain ⟨g2, hg2, H⟩ := bindE H
 refine AWP_sr tok [] [4] (fun a σ => a = [(4, .bool g2)] ∧ σ = hp E0 [] (N0 + 16)) (fun K hK => ?_) ?_
 ·
  skip
  simp -dsimp -implicitDefEqProofs (maxDischargeDepth := 6)
  cases hbg2 : ieq p0.Room p1.Room
  ·
   replace hg2 := ifF hbg2 hg2
   replace hg2 := Option.some.inj hg2; subst hg2
   try simp -dsimp -implicitDefEqProofs (maxDischargeDepth := 6) [hbg2]
   exact hK _ _ ⟨rfl, rfl⟩
  ·
   replace hg2 := ifT hbg2 hg2
   obtain ⟨r1, hr1, hg2⟩ := bindE hg2
   replace hg2 := Option.some.inj hg2; subst hg2
   try simp -dsimp -implicitDefEqProofs (maxDischargeDepth := 6) [hbg2]
   refine (c35 hr1).app ?_; try simp -dsimp -implicitDefEqProofs (maxDischargeDepth := 6) [hbg2]
   exact hK _ _ ⟨rfl, rfl⟩
 rintro a σ ⟨rfl, rfl⟩
 replace H := Option.some.inj H; subst H
 refine AWP_kp [4] [(4, .bool g2)] rfl ?_
 refine AWP_ret ?_
 exact ⟨[.bool g2], by simp, 4, by simp [encL_nil]⟩
theorem c34 {p0 : (List gBox)} {p1 : (List gBox)} {r : Bool} (H : l_sameBoxes p0 p1 = some r) : APure Try.prog G 34 [.fsl (encL rBox p0), .fsl (encL rBox p1)] (.bool r) := by
 refine APure_fn (fun N0 => ?_) (by simp)
 refine ACalls_fn tok Try.func34 (by kernel_rfl) rfl Try.ntmps34 Try.results34 rfl ?_
 simp only [argsA, Nat.reduceAdd, hp_next]
 unfold l_sameBoxes at H
 refine AWP_sr tok [] [0, 1] (fun a σ => a = [(0, .fsl (encL rBox p0)), (1, .fsl (encL rBox p1))] ∧ σ = hp E0 [] (N0 + 1)) (fun K hK => ?_) ?_
 ·
  skip
  simp -dsimp -implicitDefEqProofs (maxDischargeDepth := 6)
  exact hK _ _ ⟨rfl, rfl⟩
 rintro a σ ⟨rfl, rfl⟩
 refine AWP_sq [0, 1] fun K1 hK1 => ?_
 refine AWP_sr tok [] [0, 1, 10] (fun a σ => a = [(0, .fsl (encL rBox p0)), (1, .fsl (encL rBox p1)), (10, .bool (ine (ilen p0) (ilen p1)))] ∧ σ = hp E0 [] (N0 + 6)) (fun K hK => ?_) ?_
 ·
  skip
  simp -dsimp -implicitDefEqProofs (maxDischargeDepth := 6)
  exact hK _ _ ⟨rfl, rfl⟩
 rintro a σ ⟨rfl, rfl⟩
 refine AWP_cond (ine (ilen p0) (ilen p1)) rfl (fun C1 => ?_) (fun C1 => ?_)
 ·
  replace H := ifT C1 H
  refine AWP_sr tok [] [4] (fun a σ => a = [(4, .bool false)] ∧ σ = hp E0 [] (N0 + 7)) (fun K hK => ?_) ?_
  ·
   skip
   simp -dsimp -implicitDefEqProofs (maxDischargeDepth := 6)
   exact hK _ _ ⟨rfl, rfl⟩
  rintro a σ ⟨rfl, rfl⟩
  replace H := Option.some.inj H; subst H
  refine AWP_kp [4] [(4, .bool false)] rfl ?_
  refine AWP_ret ?_
  exact ⟨[.bool false], by simp, 4, by simp [encL_nil]⟩
 ·
  replace H := ifF C1 H
  refine AWP_skip ?_
  show K1 _ _
  refine keepE (l := [0, 1]) (x := [(0, .fsl (encL rBox p0)), (1, .fsl (encL rBox p1))]) rfl fun a' ha => ?_
  refine hK1 _ _ ?_; rw [ha]
  refine Rc.mk ?_
  refine AWP_sq [] fun K2 hK2 => ?_
  refine AWP_sr tok [] [0, 1, 5] (fun a σ => a = [(0, .fsl (encL rBox p0)), (1, .fsl (encL rBox p1)), (5, .int .i64 0)] ∧ σ = hp E0 [] (N0 + 7)) (fun K hK => ?_) ?_
  ·
   skip
   simp -dsimp -implicitDefEqProofs (maxDischargeDepth := 6)
   exact hK _ _ ⟨rfl, rfl⟩
  rintro a σ ⟨rfl, rfl⟩
  refine AWP_block (AWP_thenB ?_)
  obtain ⟨e1, hse1, H⟩ := bindE H
  refine AWP_lp [0, 1, 5] (fun s a σ => ∃ M1 : Nat, N0 ≤ M1 ∧ a = [(0, .fsl (encL rBox p0)), (1, .fsl (encL rBox p1)), (5, .int .i64 s)] ∧ σ = hp E0 [] M1) (fun e x a σ => match e with | .inl s => x = .exit 0 ∧ Rc G 27 N0 (fun a σ => ∃ M2 : Nat, N0 ≤ M2 ∧ a = [] ∧ σ = hp E0 [] M2) (AAct.keep a []) σ | .inr s => x = .ret ∧ ∃ vs, resA T σ a [.tmp 4] = some vs ∧ ∃ d, thawA (fun _ => true) σ d (tupA vs) = .bool s) hse1 ?_ ?_ ?_
  ·
   refine Rc.kp [0, 1, 5] [(0, .fsl (encL rBox p0)), (1, .fsl (encL rBox p1)), (5, .int .i64 0)] rfl ?_
   exact Rc.fin (AHeap.Sub.refl _) ⟨N0 + 7, (by omega), rfl, rfl⟩
  ·
   clear H hse1
   rintro s1 fl a σ H ⟨M1, fM1_0, rfl, rfl⟩ K3 O3 hK3 hO3
   unfold l_sameBoxes_L1 at H; dsimp only at H
   refine AWP_sq [0, 1, 5] fun K4 hK4 => ?_
   refine AWP_sr tok [] [0, 1, 5, 14] (fun a σ => a = [(0, .fsl (encL rBox p0)), (1, .fsl (encL rBox p1)), (5, .int .i64 s1), (14, .bool (ilt s1 (ilen p0)))] ∧ σ = hp E0 [] (M1 + 4)) (fun K hK => ?_) ?_
   ·
    skip
    simp -dsimp -implicitDefEqProofs (maxDischargeDepth := 6)
    exact hK _ _ ⟨rfl, rfl⟩
   rintro a σ ⟨rfl, rfl⟩
   refine AWP_cond (ilt s1 (ilen p0)) rfl (fun C2 => ?_) (fun C2 => ?_)
   ·
    replace H := ifT C2 H
    refine AWP_skip ?_
    show K4 _ _
    refine keepE (l := [0, 1, 5]) (x := [(0, .fsl (encL rBox p0)), (1, .fsl (encL rBox p1)), (5, .int .i64 s1)]) rfl fun a' ha => ?_
    refine hK4 _ _ ?_; rw [ha]
    refine Rc.mk ?_
    refine AWP_sq [0, 1, 5] fun K5 hK5 => ?_
    refine AWP_block (AWP_thenB ?_)
    obtain ⟨v2, hv2, H⟩ := bindE H
    obtain ⟨v3, hv3, H⟩ := bindE H
    obtain ⟨r4, hr4, H⟩ := bindE H
    refine AWP_sd tok tokM [] [] [0, 1, 2, 3, 4, 5, 6, 7, 8, 9] [0, 1, 5, 26] (fun a σ => a = [(0, .fsl (encL rBox p0)), (1, .fsl (encL rBox p1)), (5, .int .i64 s1), (26, .bool (bnot r4))] ∧ σ = hp E0 [] (M1 + 14)) (by decide) (fun K hK => ?_) ?_
    ·
     simp only [pickL, nthO_succ, nthO_zero]
     simp -dsimp -implicitDefEqProofs (maxDischargeDepth := 6) [ix29 hv2, ix29 hv3]
     refine Pc.mk (c38 hr4) ?_; try simp -dsimp -implicitDefEqProofs (maxDischargeDepth := 6) [ix29 hv2, ix29 hv3]
     exact hK _ _ ⟨rfl, rfl⟩
    rintro a σ ⟨rfl, rfl⟩
    refine AWP_cond (bnot r4) rfl (fun C3 => ?_) (fun C3 => ?_)
    ·
     replace H := ifT C3 H
     refine AWP_sr tok [] [4] (fun a σ => a = [(4, .bool false)] ∧ σ = hp E0 [] (M1 + 15)) (fun K hK => ?_) ?_
     ·
      skip
      simp -dsimp -implicitDefEqProofs (maxDischargeDepth := 6)
      exact hK _ _ ⟨rfl, rfl⟩
     rintro a σ ⟨rfl, rfl⟩
     replace H := Option.some.inj H; subst H
     refine AWP_kp [4] [(4, .bool false)] rfl ?_
     refine AWP_ret (hO3 _ _ _ _ rfl ⟨rfl, ?_⟩)
     exact ⟨[.bool false], by simp, 4, by simp [encL_nil]⟩
    ·
     replace H := ifF C3 H
     refine AWP_skip ?_
     show K5 _ _
     refine keepE (l := [0, 1, 5]) (x := [(0, .fsl (encL rBox p0)), (1, .fsl (encL rBox p1)), (5, .int .i64 s1)]) rfl fun a' ha => ?_
     refine hK5 _ _ ?_; rw [ha]
     refine Rc.mk ?_
     refine AWP_rt tok [] [0, 1, 5] (fun a σ => a = [(0, .fsl (encL rBox p0)), (1, .fsl (encL rBox p1)), (5, .int .i64 (iadd .i64 s1 1))] ∧ σ = hp E0 [] (M1 + 17)) (fun K hK => ?_) ?_
     ·
      skip
      simp -dsimp -implicitDefEqProofs (maxDischargeDepth := 6)
      exact hK _ _ ⟨rfl, rfl⟩
     rintro a σ ⟨ha, rfl⟩
     replace H := Option.some.inj H; subst H
     refine hK3 _ _ _ rfl ?_; rw [ha]
     exact Rc.fin (AHeap.Sub.refl _) ⟨M1 + 17, (by omega), rfl, rfl⟩
   ·
    replace H := ifF C2 H
    replace H := Option.some.inj H; subst H
    refine AWP_exit (hO3 _ _ _ _ rfl ⟨rfl, ?_⟩)
    refine Rc.rw (l := []) (X := []) rfl ?_
    exact Rc.fin (AHeap.Sub.refl _) ⟨M1 + 4, (by omega), rfl, rfl⟩
  ·
   intro x a σ hx
   rcases e1 with ⟨⟩ | r0
   ·
    obtain ⟨rfl, b, τ, hr, M2, fM2_0, rfl, rfl⟩ := hx
    dsimp only at H
    show K2 _ _
    refine hK2 _ _ (Rc_ref hr ?_)
    refine Rc.mk ?_
    refine AWP_sr tok [] [4] (fun a σ => a = [(4, .bool true)] ∧ σ = hp E0 [] (M2 + 1)) (fun K hK => ?_) ?_
    ·
     skip
     simp -dsimp -implicitDefEqProofs (maxDischargeDepth := 6)
     exact hK _ _ ⟨rfl, rfl⟩
    rintro a σ ⟨rfl, rfl⟩
    replace H := Option.some.inj H; subst H
    refine AWP_kp [4] [(4, .bool true)] rfl ?_
    refine AWP_ret ?_
    exact ⟨[.bool true], by simp, 4, by simp [encL_nil]⟩
   ·
    obtain ⟨rfl, hx2⟩ := hx
    dsimp only at H
    replace H := Option.some.inj H; subst H; exact hx2
theorem c36 {p0 : gBox} {p1 : Int} {r : gBox × Bool} (H : i_BoxPut p0 p1 = some r) : APure Try.prog G 36 [.agg [.int .i64 p0.Room, .fsl (encL rI p0.Items)], .int .i64 p1] (.tup [.agg [.int .i64 r.1.Room, .fsl (encL rI r.1.Items)], .bool r.2]) := by
 refine APure_fn (fun N0 => ?_) (by simp)
 refine ACalls_fn tok Try.func36 (by kernel_rfl) rfl Try.ntmps36 Try.results36 rfl ?_
 simp only [argsA, Nat.reduceAdd, hp_next]
 unfold i_BoxPut at H
 refine AWP_sr tok [0] [1, 2, 4] (fun a σ => a = [(1, .int .i64 p1), (2, .fptr [.int .i64 p0.Room, .fsl (encL rI p0.Items)] 0), (4, .ptr (N0 + 1) 0 0)] ∧ σ = hp E0 [(N0 + 1, some ⟨64, 2, [[.int .i64 0, .nilsl]]⟩)] (N0 + 3)) (fun K hK => ?_) ?_
 ·
  skip
  simp -dsimp -implicitDefEqProofs (maxDischargeDepth := 6)
  exact hK _ _ ⟨rfl, rfl⟩
 rintro a σ ⟨rfl, rfl⟩
 refine AWP_sq [1, 2, 4] fun K1 hK1 => ?_
 refine gWkC AWP_ref (o := (N0 + 1)) (ob := ⟨64, 2, [[.int .i64 0, .nilsl]]⟩) (row := [.int .i64 0, .nilsl]) (r := 0) (i := 1) [(N0 + 1, some ⟨64, 2, [[.int .i64 0, .fsl []]]⟩)] (by simp (disch := omega)) rfl rfl (by simp (disch := omega)) (by simp (disch := omega) [encL_nil, List.set_set, app_set]) ?_
 obtain ⟨r1, hr1, H⟩ := bindE H
 obtain ⟨g3, hg3, H⟩ := bindE H
 obtain ⟨g4, hg4, H⟩ := bindE H
 refine AWP_sr tok [] [1, 2, 4, 21] (fun a σ => a = [(1, .int .i64 p1), (2, .fptr [.int .i64 p0.Room, .fsl (encL rI p0.Items)] 0), (4, .ptr (N0 + 1) 0 0), (21, .bool g4)] ∧ σ = hp E0 [(N0 + 1, some ⟨64, 2, [[.int .i64 0, .fsl []]]⟩)] (N0 + 19)) (fun K hK => ?_) ?_
 ·
  skip
  simp -dsimp -implicitDefEqProofs (maxDischargeDepth := 6)
  refine (c77 hr1).app ?_; try simp -dsimp -implicitDefEqProofs (maxDischargeDepth := 6)
  cases hbg3 : bnot r1
  ·
   replace hg3 := ifF hbg3 hg3
   obtain ⟨r2, hr2, hg3⟩ := bindE hg3
   replace hg3 := Option.some.inj hg3; subst hg3
   try simp -dsimp -implicitDefEqProofs (maxDischargeDepth := 6) [hbg3]
   refine (c78 hr2).app ?_; try simp -dsimp -implicitDefEqProofs (maxDischargeDepth := 6) [hbg3]
   cases hbg4 : (bnot r2)
   ·
    replace hg4 := ifF hbg4 hg4
    replace hg4 := Option.some.inj hg4; subst hg4
    try simp -dsimp -implicitDefEqProofs (maxDischargeDepth := 6) [hbg3, hbg4]
    exact hK _ _ ⟨rfl, rfl⟩
   ·
    replace hg4 := ifT hbg4 hg4
    replace hg4 := Option.some.inj hg4; subst hg4
    try simp -dsimp -implicitDefEqProofs (maxDischargeDepth := 6) [hbg3, hbg4]
    exact hK _ _ ⟨rfl, rfl⟩
  ·
   replace hg3 := ifT hbg3 hg3
   replace hg3 := Option.some.inj hg3; subst hg3
   try simp -dsimp -implicitDefEqProofs (maxDischargeDepth := 6) [hbg3]
   replace hg4 := ifT rfl hg4
   replace hg4 := Option.some.inj hg4; subst hg4
   try simp -dsimp -implicitDefEqProofs (maxDischargeDepth := 6) [hbg3]
   exact hK _ _ ⟨rfl, rfl⟩
 rintro a σ ⟨rfl, rfl⟩
 refine AWP_cond g4 rfl (fun C1 => ?_) (fun C1 => ?_)
 ·
  replace H := ifT C1 H
  refine AWP_sr tok [] [4, 5] (fun a σ => a = [(4, .ptr (N0 + 1) 0 0), (5, .bool false)] ∧ σ = hp E0 [(N0 + 1, some ⟨64, 2, [[.int .i64 0, .fsl []]]⟩)] (N0 + 22)) (fun K hK => ?_) ?_
  ·
   skip
   simp -dsimp -implicitDefEqProofs (maxDischargeDepth := 6)
   exact hK _ _ ⟨rfl, rfl⟩
  rintro a σ ⟨rfl, rfl⟩
  replace H := Option.some.inj H; subst H
  refine AWP_kp [4, 5] [(4, .ptr (N0 + 1) 0 0), (5, .bool false)] rfl ?_
  refine AWP_ret ?_
  exact ⟨[.agg [.int .i64 0, .fsl []], .bool false], by simp, 4, by simp [encL_nil]⟩
 ·
  replace H := ifF C1 H
  refine AWP_skip ?_
  show K1 _ _
  refine keepE (l := [1, 2, 4]) (x := [(1, .int .i64 p1), (2, .fptr [.int .i64 p0.Room, .fsl (encL rI p0.Items)] 0), (4, .ptr (N0 + 1) 0 0)]) rfl fun a' ha => ?_
  refine hK1 _ _ ?_; rw [ha]
  refine Rc.mk ?_
  obtain ⟨r5, hr5, H⟩ := bindE H
  obtain ⟨l6, hl6, H⟩ := bindE H
  have q0 : ∀ σ i, buildSliceA T 22 true i 1 [(0, .int .i64 p1)] σ = some (.fsl (encL rI ([p1] : List Int)), σ) := fun _ _ => rfl
  refine AWP_sd tok tokM [6] [4, 7, 9] [0, 1, 2, 3, 5, 6, 4, 7, 8, 9, 10] [4, 5] (fun a σ => ∃ M1 o1 : Nat, N0 + 30 ≤ M1 ∧ N0 + 30 ≤ o1 ∧ o1 < M1 ∧ a = [(4, .ptr (N0 + 1) 0 0), (5, .bool true)] ∧ σ = hp E0 [(N0 + 1, some ⟨64, 2, [[.int .i64 p0.Room, .sl (N0 + 26) 0 l6.length]]⟩), (N0 + 26, some ⟨3, 1, encL rI l6⟩)] M1) (by decide) (fun K hK => ?_) ?_
  ·
   simp only [pickL, nthO_succ, nthO_zero]
   simp -dsimp -implicitDefEqProofs (maxDischargeDepth := 6) [q0, app22 hl6]
   refine (c79_o (H := hr5) ).mono ?_; rintro _ _ ⟨M1, o1, fM1_0, fM1_1, fM1_2, rfl, rfl⟩; simp only [hp_next] at fM1_0 fM1_1 fM1_2
   have eM1_0 := nq (a := o1) (b := N0 + 1) (by omega)
   have eM1_1 := nq (a := o1) (b := N0 + 26) (by omega)
   try simp -dsimp -implicitDefEqProofs (maxDischargeDepth := 6) [q0, app22 hl6, eM1_0, eM1_1, hp_over_some, hp_over_none]
   exact hK _ _ ⟨M1, o1, (by omega), (by omega), (by omega), rfl, rfl⟩
  rintro a σ ⟨M1, o1, fM1_0, fM1_1, fM1_2, rfl, rfl⟩
  replace H := Option.some.inj H; subst H
  refine AWP_kp [4, 5] [(4, .ptr (N0 + 1) 0 0), (5, .bool true)] rfl ?_
  refine AWP_ret ?_
  exact ⟨[.agg [.int .i64 p0.Room, .sl (N0 + 26) 0 l6.length], .bool true], by simp, 4, by simp [encL_nil]⟩
theorem c37 {p0 : (List gBox)} {p1 : (List gBox)} {p2 : Int} {r : Bool} (H : l_sameElse p0 p1 p2 = some r) : APure Try.prog G 37 [.fsl (encL rBox p0), .fsl (encL rBox p1), .int .i64 p2] (.bool r) := by
 refine APure_fn (fun N0 => ?_) (by simp)
 refine ACalls_fn tok Try.func37 (by kernel_rfl) rfl Try.ntmps37 Try.results37 rfl ?_
 simp only [argsA, Nat.reduceAdd, hp_next]
 unfold l_sameElse at H
 refine AWP_sr tok [] [0, 1, 2] (fun a σ => a = [(0, .fsl (encL rBox p0)), (1, .fsl (encL rBox p1)), (2, .int .i64 p2)] ∧ σ = hp E0 [] (N0 + 1)) (fun K hK => ?_) ?_
 ·
  skip
  simp -dsimp -implicitDefEqProofs (maxDischargeDepth := 6)
  exact hK _ _ ⟨rfl, rfl⟩
 rintro a σ ⟨rfl, rfl⟩
 refine AWP_sq [0, 1, 2] fun K1 hK1 => ?_
 refine AWP_sr tok [] [0, 1, 2, 12] (fun a σ => a = [(0, .fsl (encL rBox p0)), (1, .fsl (encL rBox p1)), (2, .int .i64 p2), (12, .bool (ine (ilen p0) (ilen p1)))] ∧ σ = hp E0 [] (N0 + 6)) (fun K hK => ?_) ?_
 ·
  skip
  simp -dsimp -implicitDefEqProofs (maxDischargeDepth := 6)
  exact hK _ _ ⟨rfl, rfl⟩
 rintro a σ ⟨rfl, rfl⟩
 refine AWP_cond (ine (ilen p0) (ilen p1)) rfl (fun C1 => ?_) (fun C1 => ?_)
 ·
  replace H := ifT C1 H
  refine AWP_sr tok [] [6] (fun a σ => a = [(6, .bool false)] ∧ σ = hp E0 [] (N0 + 7)) (fun K hK => ?_) ?_
  ·
   skip
   simp -dsimp -implicitDefEqProofs (maxDischargeDepth := 6)
   exact hK _ _ ⟨rfl, rfl⟩
  rintro a σ ⟨rfl, rfl⟩
  replace H := Option.some.inj H; subst H
  refine AWP_kp [6] [(6, .bool false)] rfl ?_
  refine AWP_ret ?_
  exact ⟨[.bool false], by simp, 4, by simp [encL_nil]⟩
 ·
  replace H := ifF C1 H
  refine AWP_skip ?_
  show K1 _ _
  refine keepE (l := [0, 1, 2]) (x := [(0, .fsl (encL rBox p0)), (1, .fsl (encL rBox p1)), (2, .int .i64 p2)]) rfl fun a' ha => ?_
  refine hK1 _ _ ?_; rw [ha]
  refine Rc.mk ?_
  refine AWP_sq [] fun K2 hK2 => ?_
  refine AWP_sr tok [] [0, 1, 2, 7] (fun a σ => a = [(0, .fsl (encL rBox p0)), (1, .fsl (encL rBox p1)), (2, .int .i64 p2), (7, .int .i64 0)] ∧ σ = hp E0 [] (N0 + 7)) (fun K hK => ?_) ?_
  ·
   skip
   simp -dsimp -implicitDefEqProofs (maxDischargeDepth := 6)
   exact hK _ _ ⟨rfl, rfl⟩
  rintro a σ ⟨rfl, rfl⟩
  refine AWP_block (AWP_thenB ?_)
  obtain ⟨e1, hse1, H⟩ := bindE H
  refine AWP_lp [0, 1, 2, 7] (fun s a σ => ∃ M1 : Nat, N0 ≤ M1 ∧ a = [(0, .fsl (encL rBox p0)), (1, .fsl (encL rBox p1)), (2, .int .i64 p2), (7, .int .i64 s)] ∧ σ = hp E0 [] M1) (fun e x a σ => match e with | .inl s => x = .exit 0 ∧ Rc G 34 N0 (fun a σ => ∃ M2 : Nat, N0 ≤ M2 ∧ a = [] ∧ σ = hp E0 [] M2) (AAct.keep a []) σ | .inr s => x = .ret ∧ ∃ vs, resA T σ a [.tmp 6] = some vs ∧ ∃ d, thawA (fun _ => true) σ d (tupA vs) = .bool s) hse1 ?_ ?_ ?_
  ·
   refine Rc.kp [0, 1, 2, 7] [(0, .fsl (encL rBox p0)), (1, .fsl (encL rBox p1)), (2, .int .i64 p2), (7, .int .i64 0)] rfl ?_
   exact Rc.fin (AHeap.Sub.refl _) ⟨N0 + 7, (by omega), rfl, rfl⟩
  ·
   clear H hse1
   rintro s1 fl a σ H ⟨M1, fM1_0, rfl, rfl⟩ K3 O3 hK3 hO3
   unfold l_sameElse_L1 at H; dsimp only at H
   refine AWP_sq [0, 1, 2, 7] fun K4 hK4 => ?_
   refine AWP_sr tok [] [0, 1, 2, 7, 16] (fun a σ => a = [(0, .fsl (encL rBox p0)), (1, .fsl (encL rBox p1)), (2, .int .i64 p2), (7, .int .i64 s1), (16, .bool (ilt s1 (ilen p0)))] ∧ σ = hp E0 [] (M1 + 4)) (fun K hK => ?_) ?_
   ·
    skip
    simp -dsimp -implicitDefEqProofs (maxDischargeDepth := 6)
    exact hK _ _ ⟨rfl, rfl⟩
   rintro a σ ⟨rfl, rfl⟩
   refine AWP_cond (ilt s1 (ilen p0)) rfl (fun C2 => ?_) (fun C2 => ?_)
   ·
    replace H := ifT C2 H
    refine AWP_skip ?_
    show K4 _ _
    refine keepE (l := [0, 1, 2, 7]) (x := [(0, .fsl (encL rBox p0)), (1, .fsl (encL rBox p1)), (2, .int .i64 p2), (7, .int .i64 s1)]) rfl fun a' ha => ?_
    refine hK4 _ _ ?_; rw [ha]
    refine Rc.mk ?_
    refine AWP_sq [0, 1, 2, 7] fun K5 hK5 => ?_
    refine AWP_block (AWP_thenB ?_)
    obtain ⟨g5, hg5, H⟩ := bindE H
    refine AWP_sd tok tokM [] [] [0, 1, 2, 3, 4, 5, 6, 7, 8, 9, 10, 11, 12, 13, 14] [0, 1, 2, 7, 33] (fun a σ => a = [(0, .fsl (encL rBox p0)), (1, .fsl (encL rBox p1)), (2, .int .i64 p2), (7, .int .i64 s1), (33, .bool g5)] ∧ σ = hp E0 [] (M1 + 19)) (by decide) (fun K hK => ?_) ?_
    ·
     simp only [pickL, nthO_succ, nthO_zero]
     simp -dsimp -implicitDefEqProofs (maxDischargeDepth := 6)
     cases hbg5 : ine s1 p2
     ·
      replace hg5 := ifF hbg5 hg5
      replace hg5 := Option.some.inj hg5; subst hg5
      try simp -dsimp -implicitDefEqProofs (maxDischargeDepth := 6) [hbg5]
      exact hK _ _ ⟨rfl, rfl⟩
     ·
      replace hg5 := ifT hbg5 hg5
      obtain ⟨v2, hv2, hg5⟩ := bindE hg5
      obtain ⟨v3, hv3, hg5⟩ := bindE hg5
      obtain ⟨r4, hr4, hg5⟩ := bindE hg5
      replace hg5 := Option.some.inj hg5; subst hg5
      try simp -dsimp -implicitDefEqProofs (maxDischargeDepth := 6) [hbg5, ix29 hv2, ix29 hv3]
      refine Pc.mk (c38 hr4) ?_; try simp -dsimp -implicitDefEqProofs (maxDischargeDepth := 6) [hbg5, ix29 hv2, ix29 hv3]
      exact hK _ _ ⟨rfl, rfl⟩
    rintro a σ ⟨rfl, rfl⟩
    refine AWP_cond g5 rfl (fun C3 => ?_) (fun C3 => ?_)
    ·
     replace H := ifT C3 H
     refine AWP_sr tok [] [6] (fun a σ => a = [(6, .bool false)] ∧ σ = hp E0 [] (M1 + 20)) (fun K hK => ?_) ?_
     ·
      skip
      simp -dsimp -implicitDefEqProofs (maxDischargeDepth := 6)
      exact hK _ _ ⟨rfl, rfl⟩
     rintro a σ ⟨rfl, rfl⟩
     replace H := Option.some.inj H; subst H
     refine AWP_kp [6] [(6, .bool false)] rfl ?_
     refine AWP_ret (hO3 _ _ _ _ rfl ⟨rfl, ?_⟩)
     exact ⟨[.bool false], by simp, 4, by simp [encL_nil]⟩
    ·
     replace H := ifF C3 H
     refine AWP_skip ?_
     show K5 _ _
     refine keepE (l := [0, 1, 2, 7]) (x := [(0, .fsl (encL rBox p0)), (1, .fsl (encL rBox p1)), (2, .int .i64 p2), (7, .int .i64 s1)]) rfl fun a' ha => ?_
     refine hK5 _ _ ?_; rw [ha]
     refine Rc.mk ?_
     refine AWP_rt tok [] [0, 1, 2, 7] (fun a σ => a = [(0, .fsl (encL rBox p0)), (1, .fsl (encL rBox p1)), (2, .int .i64 p2), (7, .int .i64 (iadd .i64 s1 1))] ∧ σ = hp E0 [] (M1 + 22)) (fun K hK => ?_) ?_
     ·
      skip
      simp -dsimp -implicitDefEqProofs (maxDischargeDepth := 6)
      exact hK _ _ ⟨rfl, rfl⟩
     rintro a σ ⟨ha, rfl⟩
     replace H := Option.some.inj H; subst H
     refine hK3 _ _ _ rfl ?_; rw [ha]
     exact Rc.fin (AHeap.Sub.refl _) ⟨M1 + 22, (by omega), rfl, rfl⟩
   ·
    replace H := ifF C2 H
    replace H := Option.some.inj H; subst H
    refine AWP_exit (hO3 _ _ _ _ rfl ⟨rfl, ?_⟩)
    refine Rc.rw (l := []) (X := []) rfl ?_
    exact Rc.fin (AHeap.Sub.refl _) ⟨M1 + 4, (by omega), rfl, rfl⟩
  ·
   intro x a σ hx
   rcases e1 with ⟨⟩ | r0
   ·
    obtain ⟨rfl, b, τ, hr, M2, fM2_0, rfl, rfl⟩ := hx
    dsimp only at H
    show K2 _ _
    refine hK2 _ _ (Rc_ref hr ?_)
    refine Rc.mk ?_
    refine AWP_sr tok [] [6] (fun a σ => a = [(6, .bool true)] ∧ σ = hp E0 [] (M2 + 1)) (fun K hK => ?_) ?_
    ·
     skip
     simp -dsimp -implicitDefEqProofs (maxDischargeDepth := 6)
     exact hK _ _ ⟨rfl, rfl⟩
    rintro a σ ⟨rfl, rfl⟩
    replace H := Option.some.inj H; subst H
    refine AWP_kp [6] [(6, .bool true)] rfl ?_
    refine AWP_ret ?_
    exact ⟨[.bool true], by simp, 4, by simp [encL_nil]⟩
   ·
    obtain ⟨rfl, hx2⟩ := hx
    dsimp only at H
    replace H := Option.some.inj H; subst H; exact hx2
theorem c39 {p0 : gBox} {r : gBox × Int × Bool} (H : i_BoxTake p0 = some r) : APure Try.prog G 39 [.agg [.int .i64 p0.Room, .fsl (encL rI p0.Items)]] (.tup [.agg [.int .i64 r.1.Room, .fsl (encL rI r.1.Items)], .int .i64 r.2.1, .bool r.2.2]) := by
 refine APure_fn (fun N0 => ?_) (by simp)
 refine ACalls_fn tok Try.func39 (by kernel_rfl) rfl Try.ntmps39 Try.results39 rfl ?_
 simp only [argsA, Nat.reduceAdd, hp_next]
 unfold i_BoxTake at H
 refine AWP_sr tok [0] [1, 2] (fun a σ => a = [(1, .fptr [.int .i64 p0.Room, .fsl (encL rI p0.Items)] 0), (2, .ptr (N0 + 1) 0 0)] ∧ σ = hp E0 [(N0 + 1, some ⟨64, 2, [[.int .i64 0, .nilsl]]⟩)] (N0 + 4)) (fun K hK => ?_) ?_
 ·
  skip
  simp -dsimp -implicitDefEqProofs (maxDischargeDepth := 6)
  exact hK _ _ ⟨rfl, rfl⟩
 rintro a σ ⟨rfl, rfl⟩
 refine AWP_sq [1, 2] fun K1 hK1 => ?_
 refine gWkC AWP_ref (o := (N0 + 1)) (ob := ⟨64, 2, [[.int .i64 0, .nilsl]]⟩) (row := [.int .i64 0, .nilsl]) (r := 0) (i := 1) [(N0 + 1, some ⟨64, 2, [[.int .i64 0, .fsl []]]⟩)] (by simp (disch := omega)) rfl rfl (by simp (disch := omega)) (by simp (disch := omega) [encL_nil, List.set_set, app_set]) ?_
 obtain ⟨r1, hr1, H⟩ := bindE H
 obtain ⟨g2, hg2, H⟩ := bindE H
 refine AWP_sr tok [] [1, 2, 13] (fun a σ => a = [(1, .fptr [.int .i64 p0.Room, .fsl (encL rI p0.Items)] 0), (2, .ptr (N0 + 1) 0 0), (13, .bool g2)] ∧ σ = hp E0 [(N0 + 1, some ⟨64, 2, [[.int .i64 0, .fsl []]]⟩)] (N0 + 13)) (fun K hK => ?_) ?_
 ·
  skip
  simp -dsimp -implicitDefEqProofs (maxDischargeDepth := 6)
  refine (c77 hr1).app ?_; try simp -dsimp -implicitDefEqProofs (maxDischargeDepth := 6)
  cases hbg2 : bnot r1
  ·
   replace hg2 := ifF hbg2 hg2
   replace hg2 := Option.some.inj hg2; subst hg2
   try simp -dsimp -implicitDefEqProofs (maxDischargeDepth := 6) [hbg2]
   exact hK _ _ ⟨rfl, rfl⟩
  ·
   replace hg2 := ifT hbg2 hg2
   replace hg2 := Option.some.inj hg2; subst hg2
   try simp -dsimp -implicitDefEqProofs (maxDischargeDepth := 6) [hbg2]
   exact hK _ _ ⟨rfl, rfl⟩
 rintro a σ ⟨rfl, rfl⟩
 refine AWP_cond g2 rfl (fun C1 => ?_) (fun C1 => ?_)
 ·
  replace H := ifT C1 H
  refine AWP_sr tok [] [2, 3, 4] (fun a σ => a = [(2, .ptr (N0 + 1) 0 0), (3, .int .i64 0), (4, .bool false)] ∧ σ = hp E0 [(N0 + 1, some ⟨64, 2, [[.int .i64 0, .fsl []]]⟩)] (N0 + 17)) (fun K hK => ?_) ?_
  ·
   skip
   simp -dsimp -implicitDefEqProofs (maxDischargeDepth := 6)
   exact hK _ _ ⟨rfl, rfl⟩
  rintro a σ ⟨rfl, rfl⟩
  replace H := Option.some.inj H; subst H
  refine AWP_kp [2, 3, 4] [(2, .ptr (N0 + 1) 0 0), (3, .int .i64 0), (4, .bool false)] rfl ?_
  refine AWP_ret ?_
  exact ⟨[.agg [.int .i64 0, .fsl []], .int .i64 0, .bool false], by simp, 4, by simp [encL_nil]⟩
 ·
  replace H := ifF C1 H
  refine AWP_skip ?_
  show K1 _ _
  refine keepE (l := [1, 2]) (x := [(1, .fptr [.int .i64 p0.Room, .fsl (encL rI p0.Items)] 0), (2, .ptr (N0 + 1) 0 0)]) rfl fun a' ha => ?_
  refine hK1 _ _ ?_; rw [ha]
  refine Rc.mk ?_
  obtain ⟨l3, hl3, H⟩ := bindE H
  obtain ⟨r4, hr4, H⟩ := bindE H
  obtain ⟨v5, hv5, H⟩ := bindE H
  refine AWP_sd tok tokM [] [11] [0, 1, 2, 3, 4, 5, 6, 7, 8, 9, 10, 11, 12, 13] [2, 3, 4] (fun a σ => a = [(2, .ptr (N0 + 1) 0 0), (3, .int .i64 v5), (4, .bool true)] ∧ σ = hp E0 [(N0 + 1, some ⟨64, 2, [[.int .i64 p0.Room, .fsl (encL rI r4)]]⟩)] (N0 + 27)) (by decide) (fun K hK => ?_) ?_
  ·
   simp only [pickL, nthO_succ, nthO_zero]
   simp -dsimp -implicitDefEqProofs (maxDischargeDepth := 6) [cutl_22 hl3, ix22 hv5]
   refine Pc.mk (c79 hr4) ?_; try simp -dsimp -implicitDefEqProofs (maxDischargeDepth := 6) [cutl_22 hl3, ix22 hv5]
   exact hK _ _ ⟨rfl, rfl⟩
  rintro a σ ⟨rfl, rfl⟩
  replace H := Option.some.inj H; subst H
  refine AWP_kp [2, 3, 4] [(2, .ptr (N0 + 1) 0 0), (3, .int .i64 v5), (4, .bool true)] rfl ?_
  refine AWP_ret ?_
  exact ⟨[.agg [.int .i64 p0.Room, .fsl (encL rI r4)], .int .i64 v5, .bool true], by simp, 4, by simp [encL_nil]⟩
theorem c7 {p0 : (List Int)} {r : Bool} (H : l_FnHartCallTalk p0 = some r) : APure Try.prog G 7 [.fsl (encL rI_u8 p0)] (.bool r) := by
 refine APure_fn (fun N0 => ?_) (by simp)
 refine ACalls_fn tok Try.func7 (by kernel_rfl) rfl Try.ntmps7 Try.results7 rfl ?_
 simp only [argsA, Nat.reduceAdd, hp_next]
 unfold l_FnHartCallTalk at H
 refine AWP_sr tok [] [0] (fun a σ => a = [(0, .fsl (encL rI_u8 p0))] ∧ σ = hp E0 [] (N0 + 1)) (fun K hK => ?_) ?_
 ·
  skip
  simp -dsimp -implicitDefEqProofs (maxDischargeDepth := 6)
  exact hK _ _ ⟨rfl, rfl⟩
 rintro a σ ⟨rfl, rfl⟩
 refine AWP_sq [0] fun K1 hK1 => ?_
 refine AWP_sr tok [] [0, 21] (fun a σ => a = [(0, .fsl (encL rI_u8 p0)), (21, .bool (igt (ilen p0) 1048576))] ∧ σ = hp E0 [] (N0 + 4)) (fun K hK => ?_) ?_
 ·
  skip
  simp -dsimp -implicitDefEqProofs (maxDischargeDepth := 6)
  exact hK _ _ ⟨rfl, rfl⟩
 rintro a σ ⟨rfl, rfl⟩
 refine AWP_cond (igt (ilen p0) 1048576) rfl (fun C1 => ?_) (fun C1 => ?_)
 ·
  replace H := ifT C1 H
  refine AWP_sr tok [] [2] (fun a σ => a = [(2, .bool true)] ∧ σ = hp E0 [] (N0 + 5)) (fun K hK => ?_) ?_
  ·
   skip
   simp -dsimp -implicitDefEqProofs (maxDischargeDepth := 6)
   exact hK _ _ ⟨rfl, rfl⟩
  rintro a σ ⟨rfl, rfl⟩
  replace H := Option.some.inj H; subst H
  refine AWP_kp [2] [(2, .bool true)] rfl ?_
  refine AWP_ret ?_
  exact ⟨[.bool true], by simp, 4, by simp [encL_nil]⟩
 ·
  replace H := ifF C1 H
  refine AWP_skip ?_
  show K1 _ _
  refine keepE (l := [0]) (x := [(0, .fsl (encL rI_u8 p0))]) rfl fun a' ha => ?_
  refine hK1 _ _ ?_; rw [ha]
  refine Rc.mk ?_
  obtain ⟨r1, hr1, H⟩ := bindE H
  refine AWP_sr tok [] [3, 4] (fun a σ => a = [(3, .ptr (N0 + 9) 0 0), (4, .fsl (encL rBox r1.2))] ∧ σ = hp E0 [(N0 + 9, some ⟨28, 3, [[.fsl (encL rI r1.1.Regs), .int .i64 r1.1.Pc, .fsl (encL rI r1.1.Mem)]]⟩)] (N0 + 12)) (fun K hK => ?_) ?_
  ·
   skip
   simp -dsimp -implicitDefEqProofs (maxDischargeDepth := 6)
   refine (c32 hr1).app ?_; try simp -dsimp -implicitDefEqProofs (maxDischargeDepth := 6)
   exact hK _ _ ⟨rfl, rfl⟩
  rintro a σ ⟨rfl, rfl⟩
  obtain ⟨r2, hr2, H⟩ := bindE H
  refine AWP_sr tok [] [3, 4, 5, 6, 7, 8] (fun a σ => a = [(3, .ptr (N0 + 9) 0 0), (4, .fsl (encL rBox r1.2)), (5, .ptr (N0 + 20) 0 0), (6, .fsl (encL rBox r2.2.1)), (7, .fsl (encL rI r2.2.2.1)), (8, .int .i64 r2.2.2.2)] ∧ σ = hp E0 [(N0 + 9, some ⟨28, 3, [[.fsl (encL rI r1.1.Regs), .int .i64 r1.1.Pc, .fsl (encL rI r1.1.Mem)]]⟩), (N0 + 20, some ⟨28, 3, [[.fsl (encL rI r2.1.Regs), .int .i64 r2.1.Pc, .fsl (encL rI r2.1.Mem)]]⟩)] (N0 + 25)) (fun K hK => ?_) ?_
  ·
   skip
   simp -dsimp -implicitDefEqProofs (maxDischargeDepth := 6)
   refine (c13 hr2).app ?_; try simp -dsimp -implicitDefEqProofs (maxDischargeDepth := 6)
   exact hK _ _ ⟨rfl, rfl⟩
  rintro a σ ⟨rfl, rfl⟩
  obtain ⟨r3, hr3, H⟩ := bindE H
  refine AWP_sr tok [] [3, 4, 5, 6, 7, 8, 9, 10, 11, 12] (fun a σ => a = [(3, .ptr (N0 + 9) 0 0), (4, .fsl (encL rBox r1.2)), (5, .ptr (N0 + 20) 0 0), (6, .fsl (encL rBox r2.2.1)), (7, .fsl (encL rI r2.2.2.1)), (8, .int .i64 r2.2.2.2), (9, .ptr (N0 + 33) 0 0), (10, .fsl (encL rBox r3.2.1)), (11, .fsl (encL rI r3.2.2.1)), (12, .int .i64 r3.2.2.2)] ∧ σ = hp E0 [(N0 + 9, some ⟨28, 3, [[.fsl (encL rI r1.1.Regs), .int .i64 r1.1.Pc, .fsl (encL rI r1.1.Mem)]]⟩), (N0 + 20, some ⟨28, 3, [[.fsl (encL rI r2.1.Regs), .int .i64 r2.1.Pc, .fsl (encL rI r2.1.Mem)]]⟩), (N0 + 33, some ⟨28, 3, [[.fsl (encL rI r3.1.Regs), .int .i64 r3.1.Pc, .fsl (encL rI r3.1.Mem)]]⟩)] (N0 + 38)) (fun K hK => ?_) ?_
  ·
   skip
   simp -dsimp -implicitDefEqProofs (maxDischargeDepth := 6)
   refine (c10 hr3).app ?_; try simp -dsimp -implicitDefEqProofs (maxDischargeDepth := 6)
   exact hK _ _ ⟨rfl, rfl⟩
  rintro a σ ⟨rfl, rfl⟩
  refine AWP_sq [3, 4, 5, 6, 8] fun K2 hK2 => ?_
  obtain ⟨g5, hg5, H⟩ := bindE H
  obtain ⟨g7, hg7, H⟩ := bindE H
  obtain ⟨g9, hg9, H⟩ := bindE H
  refine AWP_sr tok [] [3, 4, 5, 6, 8, 63] (fun a σ => a = [(3, .ptr (N0 + 9) 0 0), (4, .fsl (encL rBox r1.2)), (5, .ptr (N0 + 20) 0 0), (6, .fsl (encL rBox r2.2.1)), (8, .int .i64 r2.2.2.2), (63, .bool g9)] ∧ σ = hp E0 [(N0 + 9, some ⟨28, 3, [[.fsl (encL rI r1.1.Regs), .int .i64 r1.1.Pc, .fsl (encL rI r1.1.Mem)]]⟩), (N0 + 20, some ⟨28, 3, [[.fsl (encL rI r2.1.Regs), .int .i64 r2.1.Pc, .fsl (encL rI r2.1.Mem)]]⟩), (N0 + 33, some ⟨28, 3, [[.fsl (encL rI r3.1.Regs), .int .i64 r3.1.Pc, .fsl (encL rI r3.1.Mem)]]⟩)] (N0 + 59)) (fun K hK => ?_) ?_
  ·
   skip
   simp -dsimp -implicitDefEqProofs (maxDischargeDepth := 6)
   cases hbg5 : ine r2.2.2.2 r3.2.2.2
   ·
    replace hg5 := ifF hbg5 hg5
    obtain ⟨r4, hr4, hg5⟩ := bindE hg5
    replace hg5 := Option.some.inj hg5; subst hg5
    try simp -dsimp -implicitDefEqProofs (maxDischargeDepth := 6) [hbg5]
    refine (c33 hr4).app ?_; try simp -dsimp -implicitDefEqProofs (maxDischargeDepth := 6) [hbg5]
    cases hbg7 : (bnot r4)
    ·
     replace hg7 := ifF hbg7 hg7
     obtain ⟨r6, hr6, hg7⟩ := bindE hg7
     replace hg7 := Option.some.inj hg7; subst hg7
     try simp -dsimp -implicitDefEqProofs (maxDischargeDepth := 6) [hbg5, hbg7]
     refine (c34 hr6).app ?_; try simp -dsimp -implicitDefEqProofs (maxDischargeDepth := 6) [hbg5, hbg7]
     cases hbg9 : (bnot r6)
     ·
      replace hg9 := ifF hbg9 hg9
      obtain ⟨r8, hr8, hg9⟩ := bindE hg9
      replace hg9 := Option.some.inj hg9; subst hg9
      try simp -dsimp -implicitDefEqProofs (maxDischargeDepth := 6) [hbg5, hbg7, hbg9]
      refine (c35 hr8).app ?_; try simp -dsimp -implicitDefEqProofs (maxDischargeDepth := 6) [hbg5, hbg7, hbg9]
      exact hK _ _ ⟨rfl, rfl⟩
     ·
      replace hg9 := ifT hbg9 hg9
      replace hg9 := Option.some.inj hg9; subst hg9
      try simp -dsimp -implicitDefEqProofs (maxDischargeDepth := 6) [hbg5, hbg7, hbg9]
      exact hK _ _ ⟨rfl, rfl⟩
    ·
     replace hg7 := ifT hbg7 hg7
     replace hg7 := Option.some.inj hg7; subst hg7
     try simp -dsimp -implicitDefEqProofs (maxDischargeDepth := 6) [hbg5, hbg7]
     replace hg9 := ifT rfl hg9
     replace hg9 := Option.some.inj hg9; subst hg9
     try simp -dsimp -implicitDefEqProofs (maxDischargeDepth := 6) [hbg5, hbg7]
     exact hK _ _ ⟨rfl, rfl⟩
   ·
    replace hg5 := ifT hbg5 hg5
    replace hg5 := Option.some.inj hg5; subst hg5
    try simp -dsimp -implicitDefEqProofs (maxDischargeDepth := 6) [hbg5]
    replace hg7 := ifT rfl hg7
    replace hg7 := Option.some.inj hg7; subst hg7
    try simp -dsimp -implicitDefEqProofs (maxDischargeDepth := 6) [hbg5]
    replace hg9 := ifT rfl hg9
    replace hg9 := Option.some.inj hg9; subst hg9
    try simp -dsimp -implicitDefEqProofs (maxDischargeDepth := 6) [hbg5]
    exact hK _ _ ⟨rfl, rfl⟩
  rintro a σ ⟨rfl, rfl⟩
  refine AWP_cond g9 rfl (fun C2 => ?_) (fun C2 => ?_)
  ·
   replace H := ifT C2 H
   refine AWP_sr tok [] [2] (fun a σ => a = [(2, .bool false)] ∧ σ = hp E0 [(N0 + 9, some ⟨28, 3, [[.fsl (encL rI r1.1.Regs), .int .i64 r1.1.Pc, .fsl (encL rI r1.1.Mem)]]⟩), (N0 + 20, some ⟨28, 3, [[.fsl (encL rI r2.1.Regs), .int .i64 r2.1.Pc, .fsl (encL rI r2.1.Mem)]]⟩), (N0 + 33, some ⟨28, 3, [[.fsl (encL rI r3.1.Regs), .int .i64 r3.1.Pc, .fsl (encL rI r3.1.Mem)]]⟩)] (N0 + 60)) (fun K hK => ?_) ?_
   ·
    skip
    simp -dsimp -implicitDefEqProofs (maxDischargeDepth := 6)
    exact hK _ _ ⟨rfl, rfl⟩
   rintro a σ ⟨rfl, rfl⟩
   replace H := Option.some.inj H; subst H
   refine AWP_kp [2] [(2, .bool false)] rfl ?_
   refine AWP_ret ?_
   exact ⟨[.bool false], by simp, 4, by simp [encL_nil]⟩
  ·
   replace H := ifF C2 H
   refine AWP_skip ?_
   show K2 _ _
   refine keepE (l := [3, 4, 5, 6, 8]) (x := [(3, .ptr (N0 + 9) 0 0), (4, .fsl (encL rBox r1.2)), (5, .ptr (N0 + 20) 0 0), (6, .fsl (encL rBox r2.2.1)), (8, .int .i64 r2.2.2.2)]) rfl fun a' ha => ?_
   refine hK2 _ _ ?_; rw [ha]
   refine Rc.mk ?_
   refine AWP_sq [3, 4, 5, 6, 8] fun K3 hK3 => ?_
   obtain ⟨g11, hg11, H⟩ := bindE H
   refine AWP_sr tok [] [3, 4, 5, 6, 8, 72] (fun a σ => a = [(3, .ptr (N0 + 9) 0 0), (4, .fsl (encL rBox r1.2)), (5, .ptr (N0 + 20) 0 0), (6, .fsl (encL rBox r2.2.1)), (8, .int .i64 r2.2.2.2), (72, .bool g11)] ∧ σ = hp E0 [(N0 + 9, some ⟨28, 3, [[.fsl (encL rI r1.1.Regs), .int .i64 r1.1.Pc, .fsl (encL rI r1.1.Mem)]]⟩), (N0 + 20, some ⟨28, 3, [[.fsl (encL rI r2.1.Regs), .int .i64 r2.1.Pc, .fsl (encL rI r2.1.Mem)]]⟩), (N0 + 33, some ⟨28, 3, [[.fsl (encL rI r3.1.Regs), .int .i64 r3.1.Pc, .fsl (encL rI r3.1.Mem)]]⟩)] (N0 + 68)) (fun K hK => ?_) ?_
   ·
    skip
    simp -dsimp -implicitDefEqProofs (maxDischargeDepth := 6)
    cases hbg11 : ieq r2.2.2.2 0
    ·
     replace hg11 := ifF hbg11 hg11
     obtain ⟨v10, hv10, hg11⟩ := bindE hg11
     replace hg11 := Option.some.inj hg11; subst hg11
     try simp -dsimp -implicitDefEqProofs (maxDischargeDepth := 6) [hbg11, ix22 hv10]
     exact hK _ _ ⟨rfl, rfl⟩
    ·
     replace hg11 := ifT hbg11 hg11
     replace hg11 := Option.some.inj hg11; subst hg11
     try simp -dsimp -implicitDefEqProofs (maxDischargeDepth := 6) [hbg11]
     exact hK _ _ ⟨rfl, rfl⟩
   rintro a σ ⟨rfl, rfl⟩
   refine AWP_cond g11 rfl (fun C3 => ?_) (fun C3 => ?_)
   ·
    replace H := ifT C3 H
    refine AWP_sr tok [] [2] (fun a σ => a = [(2, .bool true)] ∧ σ = hp E0 [(N0 + 9, some ⟨28, 3, [[.fsl (encL rI r1.1.Regs), .int .i64 r1.1.Pc, .fsl (encL rI r1.1.Mem)]]⟩), (N0 + 20, some ⟨28, 3, [[.fsl (encL rI r2.1.Regs), .int .i64 r2.1.Pc, .fsl (encL rI r2.1.Mem)]]⟩), (N0 + 33, some ⟨28, 3, [[.fsl (encL rI r3.1.Regs), .int .i64 r3.1.Pc, .fsl (encL rI r3.1.Mem)]]⟩)] (N0 + 69)) (fun K hK => ?_) ?_
    ·
     skip
     simp -dsimp -implicitDefEqProofs (maxDischargeDepth := 6)
     exact hK _ _ ⟨rfl, rfl⟩
    rintro a σ ⟨rfl, rfl⟩
    replace H := Option.some.inj H; subst H
    refine AWP_kp [2] [(2, .bool true)] rfl ?_
    refine AWP_ret ?_
    exact ⟨[.bool true], by simp, 4, by simp [encL_nil]⟩
   ·
    replace H := ifF C3 H
    refine AWP_skip ?_
    show K3 _ _
    refine keepE (l := [3, 4, 5, 6, 8]) (x := [(3, .ptr (N0 + 9) 0 0), (4, .fsl (encL rBox r1.2)), (5, .ptr (N0 + 20) 0 0), (6, .fsl (encL rBox r2.2.1)), (8, .int .i64 r2.2.2.2)]) rfl fun a' ha => ?_
    refine hK3 _ _ ?_; rw [ha]
    refine Rc.mk ?_
    obtain ⟨v12, hv12, H⟩ := bindE H
    refine AWP_sr tok [] [3, 4, 5, 6, 8, 13] (fun a σ => a = [(3, .ptr (N0 + 9) 0 0), (4, .fsl (encL rBox r1.2)), (5, .ptr (N0 + 20) 0 0), (6, .fsl (encL rBox r2.2.1)), (8, .int .i64 r2.2.2.2), (13, .int .i64 v12)] ∧ σ = hp E0 [(N0 + 9, some ⟨28, 3, [[.fsl (encL rI r1.1.Regs), .int .i64 r1.1.Pc, .fsl (encL rI r1.1.Mem)]]⟩), (N0 + 20, some ⟨28, 3, [[.fsl (encL rI r2.1.Regs), .int .i64 r2.1.Pc, .fsl (encL rI r2.1.Mem)]]⟩), (N0 + 33, some ⟨28, 3, [[.fsl (encL rI r3.1.Regs), .int .i64 r3.1.Pc, .fsl (encL rI r3.1.Mem)]]⟩)] (N0 + 73)) (fun K hK => ?_) ?_
    ·
     skip
     simp -dsimp -implicitDefEqProofs (maxDischargeDepth := 6) [ix22 hv12]
     exact hK _ _ ⟨rfl, rfl⟩
    rintro a σ ⟨rfl, rfl⟩
    refine AWP_sq [4, 5, 6, 8, 13] fun K4 hK4 => ?_
    obtain ⟨v13, hv13, H⟩ := bindE H
    refine AWP_sr tok [] [3, 4, 5, 6, 8, 13, 81] (fun a σ => a = [(3, .ptr (N0 + 9) 0 0), (4, .fsl (encL rBox r1.2)), (5, .ptr (N0 + 20) 0 0), (6, .fsl (encL rBox r2.2.1)), (8, .int .i64 r2.2.2.2), (13, .int .i64 v12), (81, .bool (ieq v13 1))] ∧ σ = hp E0 [(N0 + 9, some ⟨28, 3, [[.fsl (encL rI r1.1.Regs), .int .i64 r1.1.Pc, .fsl (encL rI r1.1.Mem)]]⟩), (N0 + 20, some ⟨28, 3, [[.fsl (encL rI r2.1.Regs), .int .i64 r2.1.Pc, .fsl (encL rI r2.1.Mem)]]⟩), (N0 + 33, some ⟨28, 3, [[.fsl (encL rI r3.1.Regs), .int .i64 r3.1.Pc, .fsl (encL rI r3.1.Mem)]]⟩)] (N0 + 78)) (fun K hK => ?_) ?_
    ·
     skip
     simp -dsimp -implicitDefEqProofs (maxDischargeDepth := 6) [ix22 hv13]
     exact hK _ _ ⟨rfl, rfl⟩
    rintro a σ ⟨rfl, rfl⟩
    refine AWP_cond (ieq v13 1) rfl (fun C4 => ?_) (fun C4 => ?_)
    ·
     replace H := ifT C4 H
     obtain ⟨v14, hv14, H⟩ := bindE H
     obtain ⟨v15, hv15, H⟩ := bindE H
     obtain ⟨r16, hr16, H⟩ := bindE H
     refine AWP_sy tok tokM [] [5, 12, 13] [0, 1, 2, 3, 4, 5, 6, 7, 8, 9, 10, 11, 12, 13, 14] [(12, [5])] [4, 6, 8, 13, 14, 15] (fun a σ => a = [(4, .fsl (encL rBox r1.2)), (6, .fsl (encL rBox r2.2.1)), (8, .int .i64 r2.2.2.2), (13, .int .i64 v12), (14, .ptr (N0 + 90) 0 0), (15, .bool r16.2)] ∧ σ = hp E0 [(N0 + 9, some ⟨28, 3, [[.fsl (encL rI r1.1.Regs), .int .i64 r1.1.Pc, .fsl (encL rI r1.1.Mem)]]⟩), (N0 + 20, some ⟨28, 3, [[.fsl (encL rI r2.1.Regs), .int .i64 r2.1.Pc, .fsl (encL rI r2.1.Mem)]]⟩), (N0 + 33, some ⟨28, 3, [[.fsl (encL rI r3.1.Regs), .int .i64 r3.1.Pc, .fsl (encL rI r3.1.Mem)]]⟩), (N0 + 90, some ⟨64, 2, [[.int .i64 r16.1.Room, .fsl (encL rI r16.1.Items)]]⟩)] (N0 + 93)) (by decide) (fun K hK => ?_) ?_
     ·
      simp only [pickL, nthO_succ, nthO_zero]
      simp -dsimp -implicitDefEqProofs (maxDischargeDepth := 6) [ix29 hv14, ix22 hv15]
      refine Pc.mk (c36 hr16) ?_; try simp -dsimp -implicitDefEqProofs (maxDischargeDepth := 6) [ix29 hv14, ix22 hv15]
      exact hK _ _ ⟨rfl, rfl⟩
     rintro a σ ⟨rfl, rfl⟩
     obtain ⟨g18, hg18, H⟩ := bindE H
     obtain ⟨g22, hg22, H⟩ := bindE H
     refine AWP_sd tok tokM [] [18] [0, 1, 2, 3, 4, 5, 6, 7, 8, 9, 10, 11, 12, 13, 14, 15, 16, 17, 18, 19, 20, 21, 22] [2] (fun a σ => a = [(2, .bool g22)] ∧ σ = hp E0 [(N0 + 9, some ⟨28, 3, [[.fsl (encL rI r1.1.Regs), .int .i64 r1.1.Pc, .fsl (encL rI r1.1.Mem)]]⟩), (N0 + 20, some ⟨28, 3, [[.fsl (encL rI r2.1.Regs), .int .i64 r2.1.Pc, .fsl (encL rI r2.1.Mem)]]⟩), (N0 + 33, some ⟨28, 3, [[.fsl (encL rI r3.1.Regs), .int .i64 r3.1.Pc, .fsl (encL rI r3.1.Mem)]]⟩), (N0 + 90, some ⟨64, 2, [[.int .i64 r16.1.Room, .fsl (encL rI r16.1.Items)]]⟩)] (N0 + 116)) (by decide) (fun K hK => ?_) ?_
     ·
      simp only [pickL, nthO_succ, nthO_zero]
      simp -dsimp -implicitDefEqProofs (maxDischargeDepth := 6)
      cases hbg18 : beqb r16.2 (ieq r2.2.2.2 1)
      ·
       replace hg18 := ifF hbg18 hg18
       replace hg18 := Option.some.inj hg18; subst hg18
       try simp -dsimp -implicitDefEqProofs (maxDischargeDepth := 6) [hbg18]
       replace hg22 := ifF rfl hg22
       replace hg22 := Option.some.inj hg22; subst hg22
       try simp -dsimp -implicitDefEqProofs (maxDischargeDepth := 6) [hbg18]
       exact hK _ _ ⟨rfl, rfl⟩
      ·
       replace hg18 := ifT hbg18 hg18
       obtain ⟨r17, hr17, hg18⟩ := bindE hg18
       replace hg18 := Option.some.inj hg18; subst hg18
       try simp -dsimp -implicitDefEqProofs (maxDischargeDepth := 6) [hbg18]
       refine Pc.mk (c37 hr17) ?_; try simp -dsimp -implicitDefEqProofs (maxDischargeDepth := 6) [hbg18]
       cases hbg22 : r17
       ·
        replace hg22 := ifF hbg22 hg22
        replace hg22 := Option.some.inj hg22; subst hg22
        try simp -dsimp -implicitDefEqProofs (maxDischargeDepth := 6) [hbg18, hbg22]
        exact hK _ _ ⟨rfl, rfl⟩
       ·
        replace hg22 := ifT hbg22 hg22
        obtain ⟨g21, hg21, hg22⟩ := bindE hg22
        replace hg22 := Option.some.inj hg22; subst hg22
        try simp -dsimp -implicitDefEqProofs (maxDischargeDepth := 6) [hbg18, hbg22]
        cases hbg21 : bnot r16.2
        ·
         replace hg21 := ifF hbg21 hg21
         obtain ⟨v19, hv19, hg21⟩ := bindE hg21
         obtain ⟨r20, hr20, hg21⟩ := bindE hg21
         replace hg21 := Option.some.inj hg21; subst hg21
         try simp -dsimp -implicitDefEqProofs (maxDischargeDepth := 6) [hbg18, hbg22, hbg21, ix29 hv19]
         refine Pc.mk (c38 hr20) ?_; try simp -dsimp -implicitDefEqProofs (maxDischargeDepth := 6) [hbg18, hbg22, hbg21, ix29 hv19]
         exact hK _ _ ⟨rfl, rfl⟩
        ·
         replace hg21 := ifT hbg21 hg21
         replace hg21 := Option.some.inj hg21; subst hg21
         try simp -dsimp -implicitDefEqProofs (maxDischargeDepth := 6) [hbg18, hbg22, hbg21]
         exact hK _ _ ⟨rfl, rfl⟩
     rintro a σ ⟨rfl, rfl⟩
     replace H := Option.some.inj H; subst H
     refine AWP_kp [2] [(2, .bool g22)] rfl ?_
     refine AWP_ret ?_
     exact ⟨[.bool g22], by simp, 4, by simp [encL_nil]⟩
    ·
     replace H := ifF C4 H
     refine AWP_skip ?_
     show K4 _ _
     refine keepE (l := [4, 5, 6, 8, 13]) (x := [(4, .fsl (encL rBox r1.2)), (5, .ptr (N0 + 20) 0 0), (6, .fsl (encL rBox r2.2.1)), (8, .int .i64 r2.2.2.2), (13, .int .i64 v12)]) rfl fun a' ha => ?_
     refine hK4 _ _ ?_; rw [ha]
     refine Rc.mk ?_
     obtain ⟨v23, hv23, H⟩ := bindE H
     obtain ⟨r24, hr24, H⟩ := bindE H
     refine AWP_sr tok [] [4, 5, 6, 8, 13, 16, 17, 18] (fun a σ => a = [(4, .fsl (encL rBox r1.2)), (5, .ptr (N0 + 20) 0 0), (6, .fsl (encL rBox r2.2.1)), (8, .int .i64 r2.2.2.2), (13, .int .i64 v12), (16, .ptr (N0 + 87) 0 0), (17, .int .i64 r24.2.1), (18, .bool r24.2.2)] ∧ σ = hp E0 [(N0 + 9, some ⟨28, 3, [[.fsl (encL rI r1.1.Regs), .int .i64 r1.1.Pc, .fsl (encL rI r1.1.Mem)]]⟩), (N0 + 20, some ⟨28, 3, [[.fsl (encL rI r2.1.Regs), .int .i64 r2.1.Pc, .fsl (encL rI r2.1.Mem)]]⟩), (N0 + 33, some ⟨28, 3, [[.fsl (encL rI r3.1.Regs), .int .i64 r3.1.Pc, .fsl (encL rI r3.1.Mem)]]⟩), (N0 + 87, some ⟨64, 2, [[.int .i64 r24.1.Room, .fsl (encL rI r24.1.Items)]]⟩)] (N0 + 91)) (fun K hK => ?_) ?_
     ·
      skip
      simp -dsimp -implicitDefEqProofs (maxDischargeDepth := 6) [ix29 hv23]
      refine (c39 hr24).app ?_; try simp -dsimp -implicitDefEqProofs (maxDischargeDepth := 6) [ix29 hv23]
      exact hK _ _ ⟨rfl, rfl⟩
     rintro a σ ⟨rfl, rfl⟩
     obtain ⟨g26, hg26, H⟩ := bindE H
     obtain ⟨g32, hg32, H⟩ := bindE H
     refine AWP_sd tok tokM [] [18, 22] [0, 1, 2, 3, 4, 5, 6, 7, 8, 9, 10, 11, 12, 13, 14, 15, 16, 17, 18, 19, 20, 21, 25, 22, 23, 24, 26, 27, 28, 29, 30] [2] (fun a σ => a = [(2, .bool g32)] ∧ σ = hp E0 [(N0 + 9, some ⟨28, 3, [[.fsl (encL rI r1.1.Regs), .int .i64 r1.1.Pc, .fsl (encL rI r1.1.Mem)]]⟩), (N0 + 20, some ⟨28, 3, [[.fsl (encL rI r2.1.Regs), .int .i64 r2.1.Pc, .fsl (encL rI r2.1.Mem)]]⟩), (N0 + 33, some ⟨28, 3, [[.fsl (encL rI r3.1.Regs), .int .i64 r3.1.Pc, .fsl (encL rI r3.1.Mem)]]⟩), (N0 + 87, some ⟨64, 2, [[.int .i64 r24.1.Room, .fsl (encL rI r24.1.Items)]]⟩)] (N0 + 122)) (by decide) (fun K hK => ?_) ?_
     ·
      simp only [pickL, nthO_succ, nthO_zero]
      simp -dsimp -implicitDefEqProofs (maxDischargeDepth := 6)
      cases hbg26 : beqb r24.2.2 (ieq r2.2.2.2 1)
      ·
       replace hg26 := ifF hbg26 hg26
       replace hg26 := Option.some.inj hg26; subst hg26
       try simp -dsimp -implicitDefEqProofs (maxDischargeDepth := 6) [hbg26]
       replace hg32 := ifF rfl hg32
       replace hg32 := Option.some.inj hg32; subst hg32
       try simp -dsimp -implicitDefEqProofs (maxDischargeDepth := 6) [hbg26]
       exact hK _ _ ⟨rfl, rfl⟩
      ·
       replace hg26 := ifT hbg26 hg26
       obtain ⟨r25, hr25, hg26⟩ := bindE hg26
       replace hg26 := Option.some.inj hg26; subst hg26
       try simp -dsimp -implicitDefEqProofs (maxDischargeDepth := 6) [hbg26]
       refine Pc.mk (c37 hr25) ?_; try simp -dsimp -implicitDefEqProofs (maxDischargeDepth := 6) [hbg26]
       cases hbg32 : r25
       ·
        replace hg32 := ifF hbg32 hg32
        replace hg32 := Option.some.inj hg32; subst hg32
        try simp -dsimp -implicitDefEqProofs (maxDischargeDepth := 6) [hbg26, hbg32]
        exact hK _ _ ⟨rfl, rfl⟩
       ·
        replace hg32 := ifT hbg32 hg32
        obtain ⟨g31, hg31, hg32⟩ := bindE hg32
        replace hg32 := Option.some.inj hg32; subst hg32
        try simp -dsimp -implicitDefEqProofs (maxDischargeDepth := 6) [hbg26, hbg32]
        cases hbg31 : bnot r24.2.2
        ·
         replace hg31 := ifF hbg31 hg31
         obtain ⟨v27, hv27, hg31⟩ := bindE hg31
         obtain ⟨r28, hr28, hg31⟩ := bindE hg31
         obtain ⟨g30, hg30, hg31⟩ := bindE hg31
         replace hg31 := Option.some.inj hg31; subst hg31
         try simp -dsimp -implicitDefEqProofs (maxDischargeDepth := 6) [hbg26, hbg32, hbg31, ix29 hv27]
         refine Pc.mk (c38 hr28) ?_; try simp -dsimp -implicitDefEqProofs (maxDischargeDepth := 6) [hbg26, hbg32, hbg31, ix29 hv27]
         cases hbg30 : r28
         ·
          replace hg30 := ifF hbg30 hg30
          replace hg30 := Option.some.inj hg30; subst hg30
          try simp -dsimp -implicitDefEqProofs (maxDischargeDepth := 6) [hbg26, hbg32, hbg31, ix29 hv27, hbg30]
          exact hK _ _ ⟨rfl, rfl⟩
         ·
          replace hg30 := ifT hbg30 hg30
          obtain ⟨v29, hv29, hg30⟩ := bindE hg30
          replace hg30 := Option.some.inj hg30; subst hg30
          try simp -dsimp -implicitDefEqProofs (maxDischargeDepth := 6) [hbg26, hbg32, hbg31, ix29 hv27, hbg30, ix22 hv29]
          exact hK _ _ ⟨rfl, rfl⟩
        ·
         replace hg31 := ifT hbg31 hg31
         replace hg31 := Option.some.inj hg31; subst hg31
         try simp -dsimp -implicitDefEqProofs (maxDischargeDepth := 6) [hbg26, hbg32, hbg31]
         exact hK _ _ ⟨rfl, rfl⟩
     rintro a σ ⟨rfl, rfl⟩
     replace H := Option.some.inj H; subst H
     refine AWP_kp [2] [(2, .bool g32)] rfl ?_
     refine AWP_ret ?_
     exact ⟨[.bool g32], by simp, 4, by simp [encL_nil]⟩
end Go.Proofs.Ytoklfbdcghgmlaa
