/- The contracts of functions of the program, part 6: each computes what its mirror computes. No conditions. -/
import Derived.Test.YtoklfbdcghgmlaaDoorDT5
set_option linter.unusedSimpArgs false
set_option linter.unusedVariables false
set_option maxRecDepth 20000
set_option maxHeartbeats 4000000
namespace Go.Proofs.YtoklfbdcghgmlaaDoor
open Go Go.Abs Go.RowKit

theorem c70 {p0 : gL6Rd} {r : gQuad × gL6Rd} (H : s_l93Wrong p0 = some r) {σ : AHeap} {w0 : Nat} (hq0 : σ.objs w0 = some ⟨138, 2, [[.fsl (encL rI_u8 p0.b), .int .i64 p0.p]]⟩) : ACalls Tryd.prog G 70 [.ptr w0 0 0] σ (fun v σ' => ∃ N, σ.next ≤ N ∧ v = .agg [.int .i64 r.1.Op, .int .i64 r.1.Dst, .int .i64 r.1.A, .int .i64 r.1.B, .int .i64 r.1.N] ∧ σ' = hp σ.objs [(w0, some ⟨138, 2, [[.fsl (encL rI_u8 r.2.b), .int .i64 r.2.p]]⟩)] N) := by
 refine ACalls_thaw 4 ?_
 refine ACalls_fn tok Tryd.func70 (by kernel_rfl) rfl Tryd.ntmps70 Tryd.results70 rfl ?_
 simp only [argsA, Nat.reduceAdd]
 refine AWP_ids fun hfr => ?_
 obtain ⟨B, hB⟩ : ∃ B, B = σ.objs := ⟨_, rfl⟩
 obtain ⟨N0, hN0⟩ : ∃ N, N = σ.next := ⟨_, rfl⟩
 have hσ : σ = hp B [(w0, some ⟨138, 2, [[.fsl (encL rI_u8 p0.b), .int .i64 p0.p]]⟩)] N0 := by rw [hB, hN0]; exact hp_one hq0
 have hlt : w0 < N0 := by rw [hN0]; exact Nat.lt_of_not_le fun h => by rw [hfr _ h] at hq0; cases hq0
 rw [← hN0, ← hB] at hfr ⊢
 rw [hσ]; clear hσ
 unfold s_l93Wrong at H
 refine AWP_seqk [0, 2] fun K1 hK1 => ?_
 refine AWP_regl tok [] ?_
 have e0 : ¬ w0 = N0 := by omega
 have e1 : ¬ N0 = w0 := by omega
 simp -dsimp -implicitDefEqProofs (maxDischargeDepth := 6) [e0, e1]
 refine keepE2 (l := [0, 2]) (x := [(0, .ptr w0 0 0), (2, .ptr N0 0 0)]) (s := hp B [(w0, some ⟨138, 2, [[.fsl (encL rI_u8 p0.b), .int .i64 p0.p]]⟩), (N0, some ⟨40, 5, [[.int .i64 0, .int .i64 0, .int .i64 0, .int .i64 0, .int .i64 0]]⟩)] (N0 + 1)) rfl rfl fun a' ha => ?_
 clear e0 e1
 refine hK1 _ _ ?_; rw [ha]
 refine AWP_seqk [0, 2, 3] fun K2 hK2 => ?_
 obtain ⟨r1, hr1, H⟩ := bindE H
 refine AWP_regl tok [] ?_
 have e0 : ¬ w0 = N0 := by omega
 have e1 : ¬ N0 = w0 := by omega
 have e2 : ¬ w0 = N0 + 3 := by omega
 have e3 : ¬ N0 + 3 = w0 := by omega
 simp -dsimp -implicitDefEqProofs (maxDischargeDepth := 6) [e0, e1, e2, e3]
 refine (c125 hr1 (by simp [e0, e1, e2, e3])).mono ?_; rintro _ _ ⟨M1, hM1, rfl, rfl⟩; simp only [hp_next] at hM1; try simp -dsimp -implicitDefEqProofs (maxDischargeDepth := 6) [hp_over_one, e0, e1, e2, e3]
 refine keepE2 (l := [0, 2, 3]) (x := [(0, .ptr w0 0 0), (2, .ptr N0 0 0), (3, .ptr (N0 + 3) 0 0)]) (s := hp B [(w0, some ⟨138, 2, [[.fsl (encL rI_u8 r1.2.b), .int .i64 r1.2.p]]⟩), (N0, some ⟨40, 5, [[.int .i64 0, .int .i64 0, .int .i64 0, .int .i64 0, .int .i64 0]]⟩), (N0 + 3, some ⟨40, 5, [[.int .i64 r1.1.Op, .int .i64 r1.1.Dst, .int .i64 r1.1.A, .int .i64 r1.1.B, .int .i64 r1.1.N]]⟩)] M1) rfl rfl fun a' ha => ?_
 clear e0 e1 e2 e3
 refine hK2 _ _ ?_; rw [ha]
 refine AWP_seqk [0, 2, 3] fun K3 hK3 => ?_
 obtain ⟨j1, hj1, H⟩ := bindE H
 have J1 : ∀ a' σ' M2, M1 ≤ M2 → AAct.keep a' [0, 2, 3] = [(0, .ptr w0 0 0), (2, .ptr N0 0 0), (3, .ptr (N0 + 3) 0 0)] → AHeap.Sub (hp B [(w0, some ⟨138, 2, [[.fsl (encL rI_u8 j1.1.b), .int .i64 j1.1.p]]⟩), (N0, some ⟨40, 5, [[.int .i64 0, .int .i64 0, .int .i64 0, .int .i64 0, .int .i64 0]]⟩), (N0 + 3, some ⟨40, 5, [[.int .i64 j1.2.Op, .int .i64 j1.2.Dst, .int .i64 j1.2.A, .int .i64 j1.2.B, .int .i64 j1.2.N]]⟩)] M2) σ' → K3 a' σ' := by
  intro a' σ' M2 hM2_0 ha hsub
  refine hK3 _ _ ?_; rw [ha]; refine AWP_sub hsub ?_
  refine AWP_seqk [2, 3] fun K4 hK4 => ?_
  refine AWP_seqk [0, 2, 3, 11] fun K5 hK5 => ?_
  obtain ⟨r4, hr4, H⟩ := bindE H
  refine AWP_regl tok [] ?_
  have e0 : ¬ w0 = N0 := by omega
  have e1 : ¬ N0 = w0 := by omega
  have e2 : ¬ w0 = N0 + 3 := by omega
  have e3 : ¬ N0 + 3 = w0 := by omega
  simp -dsimp -implicitDefEqProofs (maxDischargeDepth := 6) [e0, e1, e2, e3]
  refine (c71 hr4 (by simp [e0, e1, e2, e3])).mono ?_; rintro _ _ ⟨M3, hM3, rfl, rfl⟩; simp only [hp_next] at hM3; try simp -dsimp -implicitDefEqProofs (maxDischargeDepth := 6) [hp_over_one, e0, e1, e2, e3]
  refine keepE2 (l := [0, 2, 3, 11]) (x := [(0, .ptr w0 0 0), (2, .ptr N0 0 0), (3, .ptr (N0 + 3) 0 0), (11, .int .i64 r4.1)]) (s := hp B [(w0, some ⟨138, 2, [[.fsl (encL rI_u8 r4.2.b), .int .i64 r4.2.p]]⟩), (N0, some ⟨40, 5, [[.int .i64 0, .int .i64 0, .int .i64 0, .int .i64 0, .int .i64 0]]⟩), (N0 + 3, some ⟨40, 5, [[.int .i64 j1.2.Op, .int .i64 j1.2.Dst, .int .i64 j1.2.A, .int .i64 j1.2.B, .int .i64 j1.2.N]]⟩)] M3) rfl rfl fun a' ha => ?_
  clear e0 e1 e2 e3
  refine hK5 _ _ ?_; rw [ha]
  refine AWP_block ?_
  refine AWP_seqk [0, 2, 3, 11, 12] fun K6 hK6 => ?_
  refine AWP_regl tok [] ?_
  have e0 : ¬ w0 = N0 := by omega
  have e1 : ¬ N0 = w0 := by omega
  have e2 : ¬ w0 = N0 + 3 := by omega
  have e3 : ¬ N0 + 3 = w0 := by omega
  simp -dsimp -implicitDefEqProofs (maxDischargeDepth := 6) [e0, e1, e2, e3]
  refine keepE2 (l := [0, 2, 3, 11, 12]) (x := [(0, .ptr w0 0 0), (2, .ptr N0 0 0), (3, .ptr (N0 + 3) 0 0), (11, .int .i64 r4.1), (12, .bool (ieq r4.1 0))]) (s := hp B [(w0, some ⟨138, 2, [[.fsl (encL rI_u8 r4.2.b), .int .i64 r4.2.p]]⟩), (N0, some ⟨40, 5, [[.int .i64 0, .int .i64 0, .int .i64 0, .int .i64 0, .int .i64 0]]⟩), (N0 + 3, some ⟨40, 5, [[.int .i64 j1.2.Op, .int .i64 j1.2.Dst, .int .i64 j1.2.A, .int .i64 j1.2.B, .int .i64 j1.2.N]]⟩)] (M3 + 2)) rfl rfl fun a' ha => ?_
  clear e0 e1 e2 e3
  refine hK6 _ _ ?_; rw [ha]
  refine AWP_cond (ieq r4.1 0) rfl (fun C4 => ?_) (fun C4 => ?_)
  ·
   replace H := ifT C4 H
   refine AWP_toThen ?_
   refine AWP_regl tok [] ?_
   have e0 : ¬ w0 = N0 := by omega
   have e1 : ¬ N0 = w0 := by omega
   have e2 : ¬ w0 = N0 + 3 := by omega
   have e3 : ¬ N0 + 3 = w0 := by omega
   simp -dsimp -implicitDefEqProofs (maxDischargeDepth := 6) [e0, e1, e2, e3]
   refine keepE2 (l := [2, 3]) (x := [(2, .ptr N0 0 0), (3, .ptr (N0 + 3) 0 0)]) (s := hp B [(w0, some ⟨138, 2, [[.fsl (encL rI_u8 r4.2.b), .int .i64 r4.2.p]]⟩), (N0, some ⟨40, 5, [[.int .i64 0, .int .i64 0, .int .i64 0, .int .i64 0, .int .i64 0]]⟩), (N0 + 3, some ⟨40, 5, [[.int .i64 j1.2.Op, .int .i64 j1.2.Dst, .int .i64 12, .int .i64 j1.2.B, .int .i64 j1.2.N]]⟩)] (M3 + 4)) rfl rfl fun a' ha => ?_
   clear e0 e1 e2 e3
   refine hK4 _ _ ?_; rw [ha]
   refine AWP_seqk [2] fun K7 hK7 => ?_
   refine AWP_regl tok [] ?_
   have e0 : ¬ w0 = N0 := by omega
   have e1 : ¬ N0 = w0 := by omega
   have e2 : ¬ w0 = N0 + 3 := by omega
   have e3 : ¬ N0 + 3 = w0 := by omega
   simp -dsimp -implicitDefEqProofs (maxDischargeDepth := 6) [e0, e1, e2, e3]
   refine keepE2 (l := [2]) (x := [(2, .ptr N0 0 0)]) (s := hp B [(w0, some ⟨138, 2, [[.fsl (encL rI_u8 r4.2.b), .int .i64 r4.2.p]]⟩), (N0, some ⟨40, 5, [[.int .i64 j1.2.Op, .int .i64 j1.2.Dst, .int .i64 12, .int .i64 j1.2.B, .int .i64 j1.2.N]]⟩), (N0 + 3, some ⟨40, 5, [[.int .i64 j1.2.Op, .int .i64 j1.2.Dst, .int .i64 12, .int .i64 j1.2.B, .int .i64 j1.2.N]]⟩)] (M3 + 6)) rfl rfl fun a' ha => ?_
   clear e0 e1 e2 e3
   refine hK7 _ _ ?_; rw [ha]
   refine AWP_ret ?_
   replace H := Option.some.inj H; subst H
   have e0 : ¬ w0 = N0 := by omega
   have e1 : ¬ w0 = N0 + 3 := by omega
   have e2 : N0 ≤ N0 := by omega
   have e3 : ¬ N0 = w0 := by omega
   have e4 : N0 ≤ N0 + 3 := by omega
   have e5 : ¬ N0 + 3 = w0 := by omega
   refine ⟨[.agg [.int .i64 j1.2.Op, .int .i64 j1.2.Dst, .int .i64 12, .int .i64 j1.2.B, .int .i64 j1.2.N]], by simp [e0, e1, e2, e3, e4, e5], fun o => decide (N0 ≤ o), _, ?_, ?_, cutE rfl ?_⟩
   ·
    omega
   ·
    simp [encL_nil, e0, e1, e2, e3, e4, e5]
   ·
    intro o; exact cut_one hlt hfr (by simp; try omega)
  ·
   replace H := ifF C4 H
   refine AWP_seqk [0, 2, 3, 11, 15] fun K8 hK8 => ?_
   refine AWP_regl tok [] ?_
   have e0 : ¬ w0 = N0 := by omega
   have e1 : ¬ N0 = w0 := by omega
   have e2 : ¬ w0 = N0 + 3 := by omega
   have e3 : ¬ N0 + 3 = w0 := by omega
   simp -dsimp -implicitDefEqProofs (maxDischargeDepth := 6) [e0, e1, e2, e3]
   refine keepE2 (l := [0, 2, 3, 11, 15]) (x := [(0, .ptr w0 0 0), (2, .ptr N0 0 0), (3, .ptr (N0 + 3) 0 0), (11, .int .i64 r4.1), (15, .bool (ieq r4.1 1))]) (s := hp B [(w0, some ⟨138, 2, [[.fsl (encL rI_u8 r4.2.b), .int .i64 r4.2.p]]⟩), (N0, some ⟨40, 5, [[.int .i64 0, .int .i64 0, .int .i64 0, .int .i64 0, .int .i64 0]]⟩), (N0 + 3, some ⟨40, 5, [[.int .i64 j1.2.Op, .int .i64 j1.2.Dst, .int .i64 j1.2.A, .int .i64 j1.2.B, .int .i64 j1.2.N]]⟩)] (M3 + 4)) rfl rfl fun a' ha => ?_
   clear e0 e1 e2 e3
   refine hK8 _ _ ?_; rw [ha]
   refine AWP_cond (ieq r4.1 1) rfl (fun C3 => ?_) (fun C3 => ?_)
   ·
    replace H := ifT C3 H
    refine AWP_toThen ?_
    refine AWP_regl tok [] ?_
    have e0 : ¬ w0 = N0 := by omega
    have e1 : ¬ N0 = w0 := by omega
    have e2 : ¬ w0 = N0 + 3 := by omega
    have e3 : ¬ N0 + 3 = w0 := by omega
    simp -dsimp -implicitDefEqProofs (maxDischargeDepth := 6) [e0, e1, e2, e3]
    refine keepE2 (l := [2, 3]) (x := [(2, .ptr N0 0 0), (3, .ptr (N0 + 3) 0 0)]) (s := hp B [(w0, some ⟨138, 2, [[.fsl (encL rI_u8 r4.2.b), .int .i64 r4.2.p]]⟩), (N0, some ⟨40, 5, [[.int .i64 0, .int .i64 0, .int .i64 0, .int .i64 0, .int .i64 0]]⟩), (N0 + 3, some ⟨40, 5, [[.int .i64 j1.2.Op, .int .i64 j1.2.Dst, .int .i64 j1.2.A, .int .i64 1, .int .i64 j1.2.N]]⟩)] (M3 + 6)) rfl rfl fun a' ha => ?_
    clear e0 e1 e2 e3
    refine hK4 _ _ ?_; rw [ha]
    refine AWP_seqk [2] fun K9 hK9 => ?_
    refine AWP_regl tok [] ?_
    have e0 : ¬ w0 = N0 := by omega
    have e1 : ¬ N0 = w0 := by omega
    have e2 : ¬ w0 = N0 + 3 := by omega
    have e3 : ¬ N0 + 3 = w0 := by omega
    simp -dsimp -implicitDefEqProofs (maxDischargeDepth := 6) [e0, e1, e2, e3]
    refine keepE2 (l := [2]) (x := [(2, .ptr N0 0 0)]) (s := hp B [(w0, some ⟨138, 2, [[.fsl (encL rI_u8 r4.2.b), .int .i64 r4.2.p]]⟩), (N0, some ⟨40, 5, [[.int .i64 j1.2.Op, .int .i64 j1.2.Dst, .int .i64 j1.2.A, .int .i64 1, .int .i64 j1.2.N]]⟩), (N0 + 3, some ⟨40, 5, [[.int .i64 j1.2.Op, .int .i64 j1.2.Dst, .int .i64 j1.2.A, .int .i64 1, .int .i64 j1.2.N]]⟩)] (M3 + 8)) rfl rfl fun a' ha => ?_
    clear e0 e1 e2 e3
    refine hK9 _ _ ?_; rw [ha]
    refine AWP_ret ?_
    replace H := Option.some.inj H; subst H
    have e0 : ¬ w0 = N0 := by omega
    have e1 : ¬ w0 = N0 + 3 := by omega
    have e2 : N0 ≤ N0 := by omega
    have e3 : ¬ N0 = w0 := by omega
    have e4 : N0 ≤ N0 + 3 := by omega
    have e5 : ¬ N0 + 3 = w0 := by omega
    refine ⟨[.agg [.int .i64 j1.2.Op, .int .i64 j1.2.Dst, .int .i64 j1.2.A, .int .i64 1, .int .i64 j1.2.N]], by simp [e0, e1, e2, e3, e4, e5], fun o => decide (N0 ≤ o), _, ?_, ?_, cutE rfl ?_⟩
    ·
     omega
    ·
     simp [encL_nil, e0, e1, e2, e3, e4, e5]
    ·
     intro o; exact cut_one hlt hfr (by simp; try omega)
   ·
    replace H := ifF C3 H
    refine AWP_seqk [0, 2, 3, 11, 18] fun K10 hK10 => ?_
    refine AWP_regl tok [] ?_
    have e0 : ¬ w0 = N0 := by omega
    have e1 : ¬ N0 = w0 := by omega
    have e2 : ¬ w0 = N0 + 3 := by omega
    have e3 : ¬ N0 + 3 = w0 := by omega
    simp -dsimp -implicitDefEqProofs (maxDischargeDepth := 6) [e0, e1, e2, e3]
    refine keepE2 (l := [0, 2, 3, 11, 18]) (x := [(0, .ptr w0 0 0), (2, .ptr N0 0 0), (3, .ptr (N0 + 3) 0 0), (11, .int .i64 r4.1), (18, .bool (ieq r4.1 2))]) (s := hp B [(w0, some ⟨138, 2, [[.fsl (encL rI_u8 r4.2.b), .int .i64 r4.2.p]]⟩), (N0, some ⟨40, 5, [[.int .i64 0, .int .i64 0, .int .i64 0, .int .i64 0, .int .i64 0]]⟩), (N0 + 3, some ⟨40, 5, [[.int .i64 j1.2.Op, .int .i64 j1.2.Dst, .int .i64 j1.2.A, .int .i64 j1.2.B, .int .i64 j1.2.N]]⟩)] (M3 + 6)) rfl rfl fun a' ha => ?_
    clear e0 e1 e2 e3
    refine hK10 _ _ ?_; rw [ha]
    refine AWP_cond (ieq r4.1 2) rfl (fun C2 => ?_) (fun C2 => ?_)
    ·
     replace H := ifT C2 H
     obtain ⟨r5, hr5, H⟩ := bindE H
     obtain ⟨v6, hv6, H⟩ := bindE H
     have q0 : ∀ σ i, buildSliceA T 24 true i 2 [(0, .int .i64 0), (1, .int .i64 11)] σ = some (.fsl (encL rI ([0, 11] : List Int)), σ) := fun _ _ => rfl
     refine AWP_toThen ?_
     refine AWP_regl tok [0] ?_
     have e0 : ¬ w0 = N0 := by omega
     have e1 : ¬ N0 = w0 := by omega
     have e2 : ¬ w0 = N0 + 3 := by omega
     have e3 : ¬ N0 + 3 = w0 := by omega
     simp -dsimp -implicitDefEqProofs (maxDischargeDepth := 6) [e0, e1, e2, e3, q0, ix24 hv6]
     refine (c71 hr5 (by simp [e0, e1, e2, e3, q0, ix24 hv6])).mono ?_; rintro _ _ ⟨M4, hM4, rfl, rfl⟩; simp only [hp_next] at hM4; try simp -dsimp -implicitDefEqProofs (maxDischargeDepth := 6) [hp_over_one, e0, e1, e2, e3, q0, ix24 hv6]
     refine keepE2 (l := [2, 3]) (x := [(2, .ptr N0 0 0), (3, .ptr (N0 + 3) 0 0)]) (s := hp B [(w0, some ⟨138, 2, [[.fsl (encL rI_u8 r5.2.b), .int .i64 r5.2.p]]⟩), (N0, some ⟨40, 5, [[.int .i64 0, .int .i64 0, .int .i64 0, .int .i64 0, .int .i64 0]]⟩), (N0 + 3, some ⟨40, 5, [[.int .i64 v6, .int .i64 j1.2.Dst, .int .i64 j1.2.A, .int .i64 j1.2.B, .int .i64 j1.2.N]]⟩)] M4) rfl rfl fun a' ha => ?_
     clear e0 e1 e2 e3
     refine hK4 _ _ ?_; rw [ha]
     refine AWP_seqk [2] fun K11 hK11 => ?_
     refine AWP_regl tok [] ?_
     have e0 : ¬ w0 = N0 := by omega
     have e1 : ¬ N0 = w0 := by omega
     have e2 : ¬ w0 = N0 + 3 := by omega
     have e3 : ¬ N0 + 3 = w0 := by omega
     simp -dsimp -implicitDefEqProofs (maxDischargeDepth := 6) [e0, e1, e2, e3]
     refine keepE2 (l := [2]) (x := [(2, .ptr N0 0 0)]) (s := hp B [(w0, some ⟨138, 2, [[.fsl (encL rI_u8 r5.2.b), .int .i64 r5.2.p]]⟩), (N0, some ⟨40, 5, [[.int .i64 v6, .int .i64 j1.2.Dst, .int .i64 j1.2.A, .int .i64 j1.2.B, .int .i64 j1.2.N]]⟩), (N0 + 3, some ⟨40, 5, [[.int .i64 v6, .int .i64 j1.2.Dst, .int .i64 j1.2.A, .int .i64 j1.2.B, .int .i64 j1.2.N]]⟩)] (M4 + 2)) rfl rfl fun a' ha => ?_
     clear e0 e1 e2 e3
     refine hK11 _ _ ?_; rw [ha]
     refine AWP_ret ?_
     replace H := Option.some.inj H; subst H
     have e0 : ¬ w0 = N0 := by omega
     have e1 : ¬ w0 = N0 + 3 := by omega
     have e2 : N0 ≤ N0 := by omega
     have e3 : ¬ N0 = w0 := by omega
     have e4 : N0 ≤ N0 + 3 := by omega
     have e5 : ¬ N0 + 3 = w0 := by omega
     refine ⟨[.agg [.int .i64 v6, .int .i64 j1.2.Dst, .int .i64 j1.2.A, .int .i64 j1.2.B, .int .i64 j1.2.N]], by simp [e0, e1, e2, e3, e4, e5], fun o => decide (N0 ≤ o), _, ?_, ?_, cutE rfl ?_⟩
     ·
      omega
     ·
      simp [encL_nil, e0, e1, e2, e3, e4, e5]
     ·
      intro o; exact cut_one hlt hfr (by simp; try omega)
    ·
     replace H := ifF C2 H
     refine AWP_seqk [2, 3, 26] fun K12 hK12 => ?_
     refine AWP_regl tok [] ?_
     have e0 : ¬ w0 = N0 := by omega
     have e1 : ¬ N0 = w0 := by omega
     have e2 : ¬ w0 = N0 + 3 := by omega
     have e3 : ¬ N0 + 3 = w0 := by omega
     simp -dsimp -implicitDefEqProofs (maxDischargeDepth := 6) [e0, e1, e2, e3]
     refine keepE2 (l := [2, 3, 26]) (x := [(2, .ptr N0 0 0), (3, .ptr (N0 + 3) 0 0), (26, .bool (ieq r4.1 3))]) (s := hp B [(w0, some ⟨138, 2, [[.fsl (encL rI_u8 r4.2.b), .int .i64 r4.2.p]]⟩), (N0, some ⟨40, 5, [[.int .i64 0, .int .i64 0, .int .i64 0, .int .i64 0, .int .i64 0]]⟩), (N0 + 3, some ⟨40, 5, [[.int .i64 j1.2.Op, .int .i64 j1.2.Dst, .int .i64 j1.2.A, .int .i64 j1.2.B, .int .i64 j1.2.N]]⟩)] (M3 + 8)) rfl rfl fun a' ha => ?_
     clear e0 e1 e2 e3
     refine hK12 _ _ ?_; rw [ha]
     refine AWP_cond (ieq r4.1 3) rfl (fun C1 => ?_) (fun C1 => ?_)
     ·
      replace H := ifT C1 H
      refine AWP_toThen ?_
      refine AWP_regl tok [] ?_
      have e0 : ¬ w0 = N0 := by omega
      have e1 : ¬ N0 = w0 := by omega
      have e2 : ¬ w0 = N0 + 3 := by omega
      have e3 : ¬ N0 + 3 = w0 := by omega
      simp -dsimp -implicitDefEqProofs (maxDischargeDepth := 6) [e0, e1, e2, e3]
      refine keepE2 (l := [2, 3]) (x := [(2, .ptr N0 0 0), (3, .ptr (N0 + 3) 0 0)]) (s := hp B [(w0, some ⟨138, 2, [[.fsl (encL rI_u8 r4.2.b), .int .i64 r4.2.p]]⟩), (N0, some ⟨40, 5, [[.int .i64 0, .int .i64 0, .int .i64 0, .int .i64 0, .int .i64 0]]⟩), (N0 + 3, some ⟨40, 5, [[.int .i64 j1.2.Op, .int .i64 j1.2.Dst, .int .i64 j1.2.A, .int .i64 j1.2.B, .int .i64 600]]⟩)] (M3 + 10)) rfl rfl fun a' ha => ?_
      clear e0 e1 e2 e3
      refine hK4 _ _ ?_; rw [ha]
      refine AWP_seqk [2] fun K13 hK13 => ?_
      refine AWP_regl tok [] ?_
      have e0 : ¬ w0 = N0 := by omega
      have e1 : ¬ N0 = w0 := by omega
      have e2 : ¬ w0 = N0 + 3 := by omega
      have e3 : ¬ N0 + 3 = w0 := by omega
      simp -dsimp -implicitDefEqProofs (maxDischargeDepth := 6) [e0, e1, e2, e3]
      refine keepE2 (l := [2]) (x := [(2, .ptr N0 0 0)]) (s := hp B [(w0, some ⟨138, 2, [[.fsl (encL rI_u8 r4.2.b), .int .i64 r4.2.p]]⟩), (N0, some ⟨40, 5, [[.int .i64 j1.2.Op, .int .i64 j1.2.Dst, .int .i64 j1.2.A, .int .i64 j1.2.B, .int .i64 600]]⟩), (N0 + 3, some ⟨40, 5, [[.int .i64 j1.2.Op, .int .i64 j1.2.Dst, .int .i64 j1.2.A, .int .i64 j1.2.B, .int .i64 600]]⟩)] (M3 + 12)) rfl rfl fun a' ha => ?_
      clear e0 e1 e2 e3
      refine hK13 _ _ ?_; rw [ha]
      refine AWP_ret ?_
      replace H := Option.some.inj H; subst H
      have e0 : ¬ w0 = N0 := by omega
      have e1 : ¬ w0 = N0 + 3 := by omega
      have e2 : N0 ≤ N0 := by omega
      have e3 : ¬ N0 = w0 := by omega
      have e4 : N0 ≤ N0 + 3 := by omega
      have e5 : ¬ N0 + 3 = w0 := by omega
      refine ⟨[.agg [.int .i64 j1.2.Op, .int .i64 j1.2.Dst, .int .i64 j1.2.A, .int .i64 j1.2.B, .int .i64 600]], by simp [e0, e1, e2, e3, e4, e5], fun o => decide (N0 ≤ o), _, ?_, ?_, cutE rfl ?_⟩
      ·
       omega
      ·
       simp [encL_nil, e0, e1, e2, e3, e4, e5]
      ·
       intro o; exact cut_one hlt hfr (by simp; try omega)
     ·
      replace H := ifF C1 H
      refine AWP_skip ?_
      show K4 _ _
      refine keepE (l := [2, 3]) (x := [(2, .ptr N0 0 0), (3, .ptr (N0 + 3) 0 0)]) rfl fun a' ha => ?_
      refine hK4 _ _ ?_; rw [ha]
      refine AWP_seqk [2] fun K14 hK14 => ?_
      refine AWP_regl tok [] ?_
      have e0 : ¬ w0 = N0 := by omega
      have e1 : ¬ N0 = w0 := by omega
      have e2 : ¬ w0 = N0 + 3 := by omega
      have e3 : ¬ N0 + 3 = w0 := by omega
      simp -dsimp -implicitDefEqProofs (maxDischargeDepth := 6) [e0, e1, e2, e3]
      refine keepE2 (l := [2]) (x := [(2, .ptr N0 0 0)]) (s := hp B [(w0, some ⟨138, 2, [[.fsl (encL rI_u8 r4.2.b), .int .i64 r4.2.p]]⟩), (N0, some ⟨40, 5, [[.int .i64 j1.2.Op, .int .i64 j1.2.Dst, .int .i64 j1.2.A, .int .i64 j1.2.B, .int .i64 j1.2.N]]⟩), (N0 + 3, some ⟨40, 5, [[.int .i64 j1.2.Op, .int .i64 j1.2.Dst, .int .i64 j1.2.A, .int .i64 j1.2.B, .int .i64 j1.2.N]]⟩)] (M3 + 10)) rfl rfl fun a' ha => ?_
      clear e0 e1 e2 e3
      refine hK14 _ _ ?_; rw [ha]
      refine AWP_ret ?_
      replace H := Option.some.inj H; subst H
      have e0 : ¬ w0 = N0 := by omega
      have e1 : ¬ w0 = N0 + 3 := by omega
      have e2 : N0 ≤ N0 := by omega
      have e3 : ¬ N0 = w0 := by omega
      have e4 : N0 ≤ N0 + 3 := by omega
      have e5 : ¬ N0 + 3 = w0 := by omega
      refine ⟨[.agg [.int .i64 j1.2.Op, .int .i64 j1.2.Dst, .int .i64 j1.2.A, .int .i64 j1.2.B, .int .i64 j1.2.N]], by simp [e0, e1, e2, e3, e4, e5], fun o => decide (N0 ≤ o), _, ?_, ?_, cutE rfl ?_⟩
      ·
       omega
      ·
       simp [encL_nil, e0, e1, e2, e3, e4, e5]
      ·
       intro o; exact cut_one hlt hfr (by simp; try omega)
 replace H := hj1
 refine AWP_seqk [0, 2, 3, 8] fun K15 hK15 => ?_
 obtain ⟨r7, hr7, H⟩ := bindE H
 refine AWP_regl tok [] ?_
 have e0 : ¬ w0 = N0 := by omega
 have e1 : ¬ N0 = w0 := by omega
 have e2 : ¬ w0 = N0 + 3 := by omega
 have e3 : ¬ N0 + 3 = w0 := by omega
 simp -dsimp -implicitDefEqProofs (maxDischargeDepth := 6) [e0, e1, e2, e3]
 refine (c71 hr7 (by simp [e0, e1, e2, e3])).mono ?_; rintro _ _ ⟨M5, hM5, rfl, rfl⟩; simp only [hp_next] at hM5; try simp -dsimp -implicitDefEqProofs (maxDischargeDepth := 6) [hp_over_one, e0, e1, e2, e3]
 refine keepE2 (l := [0, 2, 3, 8]) (x := [(0, .ptr w0 0 0), (2, .ptr N0 0 0), (3, .ptr (N0 + 3) 0 0), (8, .bool (ieq r7.1 0))]) (s := hp B [(w0, some ⟨138, 2, [[.fsl (encL rI_u8 r7.2.b), .int .i64 r7.2.p]]⟩), (N0, some ⟨40, 5, [[.int .i64 0, .int .i64 0, .int .i64 0, .int .i64 0, .int .i64 0]]⟩), (N0 + 3, some ⟨40, 5, [[.int .i64 r1.1.Op, .int .i64 r1.1.Dst, .int .i64 r1.1.A, .int .i64 r1.1.B, .int .i64 r1.1.N]]⟩)] M5) rfl rfl fun a' ha => ?_
 clear e0 e1 e2 e3
 refine hK15 _ _ ?_; rw [ha]
 refine AWP_cond (ieq r7.1 0) rfl (fun C5 => ?_) (fun C5 => ?_)
 ·
  replace H := ifT C5 H
  refine AWP_regl tok [] ?_
  have e0 : ¬ w0 = N0 := by omega
  have e1 : ¬ N0 = w0 := by omega
  have e2 : ¬ w0 = N0 + 3 := by omega
  have e3 : ¬ N0 + 3 = w0 := by omega
  simp -dsimp -implicitDefEqProofs (maxDischargeDepth := 6) [e0, e1, e2, e3]
  refine keepE2 (l := [0, 2, 3]) (x := [(0, .ptr w0 0 0), (2, .ptr N0 0 0), (3, .ptr (N0 + 3) 0 0)]) (s := hp B [(w0, some ⟨138, 2, [[.fsl (encL rI_u8 r7.2.b), .int .i64 r7.2.p]]⟩), (N0, some ⟨40, 5, [[.int .i64 0, .int .i64 0, .int .i64 0, .int .i64 0, .int .i64 0]]⟩), (N0 + 3, some ⟨40, 5, [[.int .i64 10, .int .i64 0, .int .i64 0, .int .i64 0, .int .i64 0]]⟩)] (M5 + 2)) rfl rfl fun a' ha => ?_
  clear e0 e1 e2 e3
  replace H := Option.some.inj H
  subst H
  exact J1 _ _ (M5 + 2) (by omega) ha (AHeap.Sub.refl _)
 ·
  replace H := ifF C5 H
  refine AWP_skip ?_
  show K3 _ _
  refine keepE (l := [0, 2, 3]) (x := [(0, .ptr w0 0 0), (2, .ptr N0 0 0), (3, .ptr (N0 + 3) 0 0)]) rfl fun a' ha => ?_
  replace H := Option.some.inj H
  subst H
  exact J1 _ _ M5 (by omega) ha (AHeap.Sub.refl _)
theorem c27 {p0 : (List Int)} {r : gQuad × Int × Int} (H : s_DrawQuadInstrs p0 = some r) : APure Tryd.prog G 27 [.fsl (encL rI_u8 p0)] (.tup [.agg [.int .i64 r.1.Op, .int .i64 r.1.Dst, .int .i64 r.1.A, .int .i64 r.1.B, .int .i64 r.1.N], .int .i64 r.2.1, .int .i64 r.2.2]) := by
 refine APure_thaw 4 (fun σ => ?_) (by simp)
 refine ACalls_fn tok Tryd.func27 (by kernel_rfl) rfl Tryd.ntmps27 Tryd.results27 rfl ?_
 simp only [argsA, Nat.reduceAdd]
 refine AWP_ids fun hfr => ?_
 obtain ⟨B, hB⟩ : ∃ B, B = σ.objs := ⟨_, rfl⟩
 obtain ⟨N0, hN0⟩ : ∃ N, N = σ.next := ⟨_, rfl⟩
 have hσ : σ = hp B [] N0 := by rw [hB, hN0]; rfl
 rw [← hN0, ← hB] at hfr ⊢
 rw [hσ]; clear hσ
 unfold s_DrawQuadInstrs at H
 refine AWP_seqk [0, 2] fun K1 hK1 => ?_
 refine AWP_regl tok [] ?_
 simp -dsimp -implicitDefEqProofs (maxDischargeDepth := 6)
 refine keepE2 (l := [0, 2]) (x := [(0, .fsl (encL rI_u8 p0)), (2, .ptr N0 0 0)]) (s := hp B [(N0, some ⟨40, 5, [[.int .i64 0, .int .i64 0, .int .i64 0, .int .i64 0, .int .i64 0]]⟩)] (N0 + 3)) rfl rfl fun a' ha => ?_
 refine hK1 _ _ ?_; rw [ha]
 refine AWP_seqk [2, 5] fun K2 hK2 => ?_
 refine AWP_regl tok [] ?_
 simp -dsimp -implicitDefEqProofs (maxDischargeDepth := 6)
 refine ACalls_fn tok Tryd.func69 (by kernel_rfl) rfl Tryd.ntmps69 Tryd.results69 rfl ?_
 simp only [argsA, Nat.reduceAdd]
 refine AWP_seqk [0] fun K4 hK4 => ?_
 refine AWP_regl tok [] ?_
 simp -dsimp -implicitDefEqProofs (maxDischargeDepth := 6)
 refine keepE2 (l := [0]) (x := [(0, .fsl (encL rI_u8 p0))]) (s := hp B [(N0, some ⟨40, 5, [[.int .i64 0, .int .i64 0, .int .i64 0, .int .i64 0, .int .i64 0]]⟩)] (N0 + 7)) rfl rfl fun a' ha => ?_
 refine hK4 _ _ ?_; rw [ha]
 refine AWP_seqk [0] fun K5 hK5 => ?_
 refine AWP_seqk [0, 5] fun K6 hK6 => ?_
 refine AWP_regl tok [] ?_
 simp -dsimp -implicitDefEqProofs (maxDischargeDepth := 6)
 refine keepE2 (l := [0, 5]) (x := [(0, .fsl (encL rI_u8 p0)), (5, .bool (igt (ilen p0) 2000))]) (s := hp B [(N0, some ⟨40, 5, [[.int .i64 0, .int .i64 0, .int .i64 0, .int .i64 0, .int .i64 0]]⟩)] (N0 + 10)) rfl rfl fun a' ha => ?_
 refine hK6 _ _ ?_; rw [ha]
 refine AWP_cond (igt (ilen p0) 2000) rfl (fun C5 => ?_) (fun C5 => ?_)
 ·
  replace H := ifT C5 H
  obtain ⟨l1, hl1, H⟩ := bindE H
  refine AWP_regl tok [] ?_
  simp -dsimp -implicitDefEqProofs (maxDischargeDepth := 6) [cuth_43 hl1]
  refine keepE2 (l := [0]) (x := [(0, .fsl (encL rI_u8 l1))]) (s := hp B [(N0, some ⟨40, 5, [[.int .i64 0, .int .i64 0, .int .i64 0, .int .i64 0, .int .i64 0]]⟩)] (N0 + 13)) rfl rfl fun a' ha => ?_
  refine hK5 _ _ ?_; rw [ha]
  refine AWP_seqk [2] fun K7 hK7 => ?_
  refine AWP_regl tok [1] ?_
  simp -dsimp -implicitDefEqProofs (maxDischargeDepth := 6)
  refine keepE2 (l := [2]) (x := [(2, .ptr (N0 + 15) 0 0)]) (s := hp B [(N0, some ⟨40, 5, [[.int .i64 0, .int .i64 0, .int .i64 0, .int .i64 0, .int .i64 0]]⟩), (N0 + 15, some ⟨138, 2, [[.fsl (encL rI_u8 l1), .int .i64 0]]⟩)] (N0 + 17)) rfl rfl fun a' ha => ?_
  refine hK7 _ _ ?_; rw [ha]
  refine AWP_ret ?_
  have e0 : N0 ≤ N0 := by omega
  have e1 : N0 ≤ N0 + 15 := by omega
  refine ⟨[.ptr (N0 + 15) 0 0], by simp [e0, e1], ?_⟩
  simp -dsimp -implicitDefEqProofs (maxDischargeDepth := 6)
  refine keepE2 (l := [2, 5]) (x := [(2, .ptr N0 0 0), (5, .ptr (N0 + 15) 0 0)]) (s := hp B [(N0, some ⟨40, 5, [[.int .i64 0, .int .i64 0, .int .i64 0, .int .i64 0, .int .i64 0]]⟩), (N0 + 15, some ⟨138, 2, [[.fsl (encL rI_u8 l1), .int .i64 0]]⟩)] (N0 + 17)) rfl rfl fun a' ha => ?_
  refine hK2 _ _ ?_; rw [ha]
  refine AWP_seqk [2, 5, 6] fun K8 hK8 => ?_
  obtain ⟨r2, hr2, H⟩ := bindE H
  refine AWP_regl tok [] ?_
  simp -dsimp -implicitDefEqProofs (maxDischargeDepth := 6)
  refine (c70 hr2 (by simp [])).mono ?_; rintro _ _ ⟨M1, hM1, rfl, rfl⟩; simp only [hp_next] at hM1; try simp -dsimp -implicitDefEqProofs (maxDischargeDepth := 6) [hp_over_one]
  refine keepE2 (l := [2, 5, 6]) (x := [(2, .ptr N0 0 0), (5, .ptr (N0 + 15) 0 0), (6, .ptr (N0 + 19) 0 0)]) (s := hp B [(N0, some ⟨40, 5, [[.int .i64 0, .int .i64 0, .int .i64 0, .int .i64 0, .int .i64 0]]⟩), (N0 + 15, some ⟨138, 2, [[.fsl (encL rI_u8 r2.2.b), .int .i64 r2.2.p]]⟩), (N0 + 19, some ⟨40, 5, [[.int .i64 r2.1.Op, .int .i64 r2.1.Dst, .int .i64 r2.1.A, .int .i64 r2.1.B, .int .i64 r2.1.N]]⟩)] M1) rfl rfl fun a' ha => ?_
  refine hK8 _ _ ?_; rw [ha]
  refine AWP_seqk [2, 5, 6, 7] fun K9 hK9 => ?_
  obtain ⟨r3, hr3, H⟩ := bindE H
  refine AWP_regl tok [] ?_
  simp -dsimp -implicitDefEqProofs (maxDischargeDepth := 6)
  refine (c71 hr3 (by simp [])).mono ?_; rintro _ _ ⟨M2, hM2, rfl, rfl⟩; simp only [hp_next] at hM2; try simp -dsimp -implicitDefEqProofs (maxDischargeDepth := 6) [hp_over_one]
  refine keepE2 (l := [2, 5, 6, 7]) (x := [(2, .ptr N0 0 0), (5, .ptr (N0 + 15) 0 0), (6, .ptr (N0 + 19) 0 0), (7, .int .i64 (iadd .i64 1 r3.1))]) (s := hp B [(N0, some ⟨40, 5, [[.int .i64 0, .int .i64 0, .int .i64 0, .int .i64 0, .int .i64 0]]⟩), (N0 + 15, some ⟨138, 2, [[.fsl (encL rI_u8 r3.2.b), .int .i64 r3.2.p]]⟩), (N0 + 19, some ⟨40, 5, [[.int .i64 r2.1.Op, .int .i64 r2.1.Dst, .int .i64 r2.1.A, .int .i64 r2.1.B, .int .i64 r2.1.N]]⟩)] M2) rfl rfl fun a' ha => ?_
  refine hK9 _ _ ?_; rw [ha]
  refine AWP_seqk [2, 5, 6, 7, 8] fun K10 hK10 => ?_
  obtain ⟨r4, hr4, H⟩ := bindE H
  refine AWP_regl tok [] ?_
  simp -dsimp -implicitDefEqProofs (maxDischargeDepth := 6)
  refine (c71 hr4 (by simp [])).mono ?_; rintro _ _ ⟨M3, hM3, rfl, rfl⟩; simp only [hp_next] at hM3; try simp -dsimp -implicitDefEqProofs (maxDischargeDepth := 6) [hp_over_one]
  refine keepE2 (l := [2, 5, 6, 7, 8]) (x := [(2, .ptr N0 0 0), (5, .ptr (N0 + 15) 0 0), (6, .ptr (N0 + 19) 0 0), (7, .int .i64 (iadd .i64 1 r3.1)), (8, .int .i64 (imul .i64 4 (isub .i64 r4.1 100)))]) (s := hp B [(N0, some ⟨40, 5, [[.int .i64 0, .int .i64 0, .int .i64 0, .int .i64 0, .int .i64 0]]⟩), (N0 + 15, some ⟨138, 2, [[.fsl (encL rI_u8 r4.2.b), .int .i64 r4.2.p]]⟩), (N0 + 19, some ⟨40, 5, [[.int .i64 r2.1.Op, .int .i64 r2.1.Dst, .int .i64 r2.1.A, .int .i64 r2.1.B, .int .i64 r2.1.N]]⟩)] M3) rfl rfl fun a' ha => ?_
  refine hK10 _ _ ?_; rw [ha]
  refine AWP_seqk [2, 6, 7, 8] fun K11 hK11 => ?_
  obtain ⟨j1, hj1, H⟩ := bindE H
  have J1 : ∀ a' σ' M4, M3 ≤ M4 → AAct.keep a' [2, 6, 7, 8] = [(2, .ptr N0 0 0), (6, .ptr (N0 + 19) 0 0), (7, .int .i64 j1.1), (8, .int .i64 j1.2)] → AHeap.Sub (hp B [(N0, some ⟨40, 5, [[.int .i64 0, .int .i64 0, .int .i64 0, .int .i64 0, .int .i64 0]]⟩), (N0 + 19, some ⟨40, 5, [[.int .i64 r2.1.Op, .int .i64 r2.1.Dst, .int .i64 r2.1.A, .int .i64 r2.1.B, .int .i64 r2.1.N]]⟩)] M4) σ' → K11 a' σ' := by
   intro a' σ' M4 hM4_0 ha hsub
   refine hK11 _ _ ?_; rw [ha]; refine AWP_sub hsub ?_
   refine AWP_seqk [2, 3, 4] fun K12 hK12 => ?_
   refine AWP_regl tok [] ?_
   simp -dsimp -implicitDefEqProofs (maxDischargeDepth := 6)
   refine keepE2 (l := [2, 3, 4]) (x := [(2, .ptr N0 0 0), (3, .int .i64 j1.1), (4, .int .i64 j1.2)]) (s := hp B [(N0, some ⟨40, 5, [[.int .i64 r2.1.Op, .int .i64 r2.1.Dst, .int .i64 r2.1.A, .int .i64 r2.1.B, .int .i64 r2.1.N]]⟩), (N0 + 19, some ⟨40, 5, [[.int .i64 r2.1.Op, .int .i64 r2.1.Dst, .int .i64 r2.1.A, .int .i64 r2.1.B, .int .i64 r2.1.N]]⟩)] (M4 + 6)) rfl rfl fun a' ha => ?_
   refine hK12 _ _ ?_; rw [ha]
   refine AWP_ret ?_
   replace H := Option.some.inj H; subst H
   have e0 : N0 ≤ N0 := by omega
   have e1 : N0 ≤ N0 + 19 := by omega
   refine ⟨[.agg [.int .i64 r2.1.Op, .int .i64 r2.1.Dst, .int .i64 r2.1.A, .int .i64 r2.1.B, .int .i64 r2.1.N], .int .i64 j1.1, .int .i64 j1.2], by simp [e0, e1], ?_, ?_⟩
   ·
    simp [encL_nil, e0, e1]
   ·
    intro o ho; exact lk_out (by simp; try omega)
  replace H := hj1
  refine AWP_seqk [2, 5, 6, 7, 8, 21] fun K13 hK13 => ?_
  obtain ⟨r7, hr7, H⟩ := bindE H
  refine AWP_regl tok [] ?_
  simp -dsimp -implicitDefEqProofs (maxDischargeDepth := 6)
  refine (c71 hr7 (by simp [])).mono ?_; rintro _ _ ⟨M5, hM5, rfl, rfl⟩; simp only [hp_next] at hM5; try simp -dsimp -implicitDefEqProofs (maxDischargeDepth := 6) [hp_over_one]
  refine keepE2 (l := [2, 5, 6, 7, 8, 21]) (x := [(2, .ptr N0 0 0), (5, .ptr (N0 + 15) 0 0), (6, .ptr (N0 + 19) 0 0), (7, .int .i64 (iadd .i64 1 r3.1)), (8, .int .i64 (imul .i64 4 (isub .i64 r4.1 100))), (21, .int .i64 r7.1)]) (s := hp B [(N0, some ⟨40, 5, [[.int .i64 0, .int .i64 0, .int .i64 0, .int .i64 0, .int .i64 0]]⟩), (N0 + 15, some ⟨138, 2, [[.fsl (encL rI_u8 r7.2.b), .int .i64 r7.2.p]]⟩), (N0 + 19, some ⟨40, 5, [[.int .i64 r2.1.Op, .int .i64 r2.1.Dst, .int .i64 r2.1.A, .int .i64 r2.1.B, .int .i64 r2.1.N]]⟩)] M5) rfl rfl fun a' ha => ?_
  refine hK13 _ _ ?_; rw [ha]
  refine AWP_block ?_
  refine AWP_seqk [2, 5, 6, 7, 8, 21, 22] fun K14 hK14 => ?_
  refine AWP_regl tok [] ?_
  simp -dsimp -implicitDefEqProofs (maxDischargeDepth := 6)
  refine keepE2 (l := [2, 5, 6, 7, 8, 21, 22]) (x := [(2, .ptr N0 0 0), (5, .ptr (N0 + 15) 0 0), (6, .ptr (N0 + 19) 0 0), (7, .int .i64 (iadd .i64 1 r3.1)), (8, .int .i64 (imul .i64 4 (isub .i64 r4.1 100))), (21, .int .i64 r7.1), (22, .bool (ieq r7.1 0))]) (s := hp B [(N0, some ⟨40, 5, [[.int .i64 0, .int .i64 0, .int .i64 0, .int .i64 0, .int .i64 0]]⟩), (N0 + 15, some ⟨138, 2, [[.fsl (encL rI_u8 r7.2.b), .int .i64 r7.2.p]]⟩), (N0 + 19, some ⟨40, 5, [[.int .i64 r2.1.Op, .int .i64 r2.1.Dst, .int .i64 r2.1.A, .int .i64 r2.1.B, .int .i64 r2.1.N]]⟩)] (M5 + 2)) rfl rfl fun a' ha => ?_
  refine hK14 _ _ ?_; rw [ha]
  refine AWP_cond (ieq r7.1 0) rfl (fun C2 => ?_) (fun C2 => ?_)
  ·
   replace H := ifT C2 H
   obtain ⟨r8, hr8, H⟩ := bindE H
   obtain ⟨v9, hv9, H⟩ := bindE H
   have q0 : ∀ σ i, buildSliceA T 24 true i 2 [(0, .int .i64 0), (1, .int .i64 9)] σ = some (.fsl (encL rI ([0, 9] : List Int)), σ) := fun _ _ => rfl
   refine AWP_toThen ?_
   refine AWP_regl tok [0] ?_
   simp -dsimp -implicitDefEqProofs (maxDischargeDepth := 6) [q0, ix24 hv9]
   refine (c71 hr8 (by simp [q0, ix24 hv9])).mono ?_; rintro _ _ ⟨M6, hM6, rfl, rfl⟩; simp only [hp_next] at hM6; try simp -dsimp -implicitDefEqProofs (maxDischargeDepth := 6) [hp_over_one, q0, ix24 hv9]
   refine keepE2 (l := [2, 6, 7, 8]) (x := [(2, .ptr N0 0 0), (6, .ptr (N0 + 19) 0 0), (7, .int .i64 v9), (8, .int .i64 (imul .i64 4 (isub .i64 r4.1 100)))]) (s := hp B [(N0, some ⟨40, 5, [[.int .i64 0, .int .i64 0, .int .i64 0, .int .i64 0, .int .i64 0]]⟩), (N0 + 15, some ⟨138, 2, [[.fsl (encL rI_u8 r8.2.b), .int .i64 r8.2.p]]⟩), (N0 + 19, some ⟨40, 5, [[.int .i64 r2.1.Op, .int .i64 r2.1.Dst, .int .i64 r2.1.A, .int .i64 r2.1.B, .int .i64 r2.1.N]]⟩)] M6) rfl rfl fun a' ha => ?_
   replace H := Option.some.inj H
   subst H
   exact J1 _ _ M6 (by omega) ha (hp_skip (AHeap.Sub.trans (hp_skip (AHeap.Sub.refl _)) (hp_drop (by first | exact hfr _ (by omega) | omega) (by simp; try omega))))
  ·
   replace H := ifF C2 H
   refine AWP_seqk [2, 5, 6, 7, 8, 29] fun K15 hK15 => ?_
   refine AWP_regl tok [] ?_
   simp -dsimp -implicitDefEqProofs (maxDischargeDepth := 6)
   refine keepE2 (l := [2, 5, 6, 7, 8, 29]) (x := [(2, .ptr N0 0 0), (5, .ptr (N0 + 15) 0 0), (6, .ptr (N0 + 19) 0 0), (7, .int .i64 (iadd .i64 1 r3.1)), (8, .int .i64 (imul .i64 4 (isub .i64 r4.1 100))), (29, .bool (ieq r7.1 1))]) (s := hp B [(N0, some ⟨40, 5, [[.int .i64 0, .int .i64 0, .int .i64 0, .int .i64 0, .int .i64 0]]⟩), (N0 + 15, some ⟨138, 2, [[.fsl (encL rI_u8 r7.2.b), .int .i64 r7.2.p]]⟩), (N0 + 19, some ⟨40, 5, [[.int .i64 r2.1.Op, .int .i64 r2.1.Dst, .int .i64 r2.1.A, .int .i64 r2.1.B, .int .i64 r2.1.N]]⟩)] (M5 + 4)) rfl rfl fun a' ha => ?_
   refine hK15 _ _ ?_; rw [ha]
   refine AWP_cond (ieq r7.1 1) rfl (fun C1 => ?_) (fun C1 => ?_)
   ·
    replace H := ifT C1 H
    obtain ⟨r10, hr10, H⟩ := bindE H
    obtain ⟨v11, hv11, H⟩ := bindE H
    have q1 : ∀ σ i, buildSliceA T 24 true i 4 [(0, .int .i64 2), (1, .int .i64 100004), (2, .int .i64 (-100004)), (3, .int .i64 100000)] σ = some (.fsl (encL rI ([2, 100004, -100004, 100000] : List Int)), σ) := fun _ _ => rfl
    refine AWP_toThen ?_
    refine AWP_regl tok [0] ?_
    simp -dsimp -implicitDefEqProofs (maxDischargeDepth := 6) [q1, ix24 hv11]
    refine (c71 hr10 (by simp [q1, ix24 hv11])).mono ?_; rintro _ _ ⟨M7, hM7, rfl, rfl⟩; simp only [hp_next] at hM7; try simp -dsimp -implicitDefEqProofs (maxDischargeDepth := 6) [hp_over_one, q1, ix24 hv11]
    refine keepE2 (l := [2, 6, 7, 8]) (x := [(2, .ptr N0 0 0), (6, .ptr (N0 + 19) 0 0), (7, .int .i64 (iadd .i64 1 r3.1)), (8, .int .i64 v11)]) (s := hp B [(N0, some ⟨40, 5, [[.int .i64 0, .int .i64 0, .int .i64 0, .int .i64 0, .int .i64 0]]⟩), (N0 + 15, some ⟨138, 2, [[.fsl (encL rI_u8 r10.2.b), .int .i64 r10.2.p]]⟩), (N0 + 19, some ⟨40, 5, [[.int .i64 r2.1.Op, .int .i64 r2.1.Dst, .int .i64 r2.1.A, .int .i64 r2.1.B, .int .i64 r2.1.N]]⟩)] M7) rfl rfl fun a' ha => ?_
    replace H := Option.some.inj H
    subst H
    exact J1 _ _ M7 (by omega) ha (hp_skip (AHeap.Sub.trans (hp_skip (AHeap.Sub.refl _)) (hp_drop (by first | exact hfr _ (by omega) | omega) (by simp; try omega))))
   ·
    replace H := ifF C1 H
    refine AWP_skip ?_
    show K11 _ _
    refine keepE (l := [2, 6, 7, 8]) (x := [(2, .ptr N0 0 0), (6, .ptr (N0 + 19) 0 0), (7, .int .i64 (iadd .i64 1 r3.1)), (8, .int .i64 (imul .i64 4 (isub .i64 r4.1 100)))]) rfl fun a' ha => ?_
    replace H := Option.some.inj H
    subst H
    exact J1 _ _ (M5 + 4) (by omega) ha (hp_skip (AHeap.Sub.trans (hp_skip (AHeap.Sub.refl _)) (hp_drop (by first | exact hfr _ (by omega) | omega) (by simp; try omega))))
 ·
  replace H := ifF C5 H
  refine AWP_skip ?_
  show K5 _ _
  refine keepE (l := [0]) (x := [(0, .fsl (encL rI_u8 p0))]) rfl fun a' ha => ?_
  refine hK5 _ _ ?_; rw [ha]
  refine AWP_seqk [2] fun K16 hK16 => ?_
  refine AWP_regl tok [1] ?_
  simp -dsimp -implicitDefEqProofs (maxDischargeDepth := 6)
  refine keepE2 (l := [2]) (x := [(2, .ptr (N0 + 12) 0 0)]) (s := hp B [(N0, some ⟨40, 5, [[.int .i64 0, .int .i64 0, .int .i64 0, .int .i64 0, .int .i64 0]]⟩), (N0 + 12, some ⟨138, 2, [[.fsl (encL rI_u8 p0), .int .i64 0]]⟩)] (N0 + 14)) rfl rfl fun a' ha => ?_
  refine hK16 _ _ ?_; rw [ha]
  refine AWP_ret ?_
  have e0 : N0 ≤ N0 := by omega
  have e1 : N0 ≤ N0 + 12 := by omega
  refine ⟨[.ptr (N0 + 12) 0 0], by simp [e0, e1], ?_⟩
  simp -dsimp -implicitDefEqProofs (maxDischargeDepth := 6)
  refine keepE2 (l := [2, 5]) (x := [(2, .ptr N0 0 0), (5, .ptr (N0 + 12) 0 0)]) (s := hp B [(N0, some ⟨40, 5, [[.int .i64 0, .int .i64 0, .int .i64 0, .int .i64 0, .int .i64 0]]⟩), (N0 + 12, some ⟨138, 2, [[.fsl (encL rI_u8 p0), .int .i64 0]]⟩)] (N0 + 14)) rfl rfl fun a' ha => ?_
  refine hK2 _ _ ?_; rw [ha]
  refine AWP_seqk [2, 5, 6] fun K17 hK17 => ?_
  obtain ⟨r12, hr12, H⟩ := bindE H
  refine AWP_regl tok [] ?_
  simp -dsimp -implicitDefEqProofs (maxDischargeDepth := 6)
  refine (c70 hr12 (by simp [])).mono ?_; rintro _ _ ⟨M8, hM8, rfl, rfl⟩; simp only [hp_next] at hM8; try simp -dsimp -implicitDefEqProofs (maxDischargeDepth := 6) [hp_over_one]
  refine keepE2 (l := [2, 5, 6]) (x := [(2, .ptr N0 0 0), (5, .ptr (N0 + 12) 0 0), (6, .ptr (N0 + 16) 0 0)]) (s := hp B [(N0, some ⟨40, 5, [[.int .i64 0, .int .i64 0, .int .i64 0, .int .i64 0, .int .i64 0]]⟩), (N0 + 12, some ⟨138, 2, [[.fsl (encL rI_u8 r12.2.b), .int .i64 r12.2.p]]⟩), (N0 + 16, some ⟨40, 5, [[.int .i64 r12.1.Op, .int .i64 r12.1.Dst, .int .i64 r12.1.A, .int .i64 r12.1.B, .int .i64 r12.1.N]]⟩)] M8) rfl rfl fun a' ha => ?_
  refine hK17 _ _ ?_; rw [ha]
  refine AWP_seqk [2, 5, 6, 7] fun K18 hK18 => ?_
  obtain ⟨r13, hr13, H⟩ := bindE H
  refine AWP_regl tok [] ?_
  simp -dsimp -implicitDefEqProofs (maxDischargeDepth := 6)
  refine (c71 hr13 (by simp [])).mono ?_; rintro _ _ ⟨M9, hM9, rfl, rfl⟩; simp only [hp_next] at hM9; try simp -dsimp -implicitDefEqProofs (maxDischargeDepth := 6) [hp_over_one]
  refine keepE2 (l := [2, 5, 6, 7]) (x := [(2, .ptr N0 0 0), (5, .ptr (N0 + 12) 0 0), (6, .ptr (N0 + 16) 0 0), (7, .int .i64 (iadd .i64 1 r13.1))]) (s := hp B [(N0, some ⟨40, 5, [[.int .i64 0, .int .i64 0, .int .i64 0, .int .i64 0, .int .i64 0]]⟩), (N0 + 12, some ⟨138, 2, [[.fsl (encL rI_u8 r13.2.b), .int .i64 r13.2.p]]⟩), (N0 + 16, some ⟨40, 5, [[.int .i64 r12.1.Op, .int .i64 r12.1.Dst, .int .i64 r12.1.A, .int .i64 r12.1.B, .int .i64 r12.1.N]]⟩)] M9) rfl rfl fun a' ha => ?_
  refine hK18 _ _ ?_; rw [ha]
  refine AWP_seqk [2, 5, 6, 7, 8] fun K19 hK19 => ?_
  obtain ⟨r14, hr14, H⟩ := bindE H
  refine AWP_regl tok [] ?_
  simp -dsimp -implicitDefEqProofs (maxDischargeDepth := 6)
  refine (c71 hr14 (by simp [])).mono ?_; rintro _ _ ⟨M10, hM10, rfl, rfl⟩; simp only [hp_next] at hM10; try simp -dsimp -implicitDefEqProofs (maxDischargeDepth := 6) [hp_over_one]
  refine keepE2 (l := [2, 5, 6, 7, 8]) (x := [(2, .ptr N0 0 0), (5, .ptr (N0 + 12) 0 0), (6, .ptr (N0 + 16) 0 0), (7, .int .i64 (iadd .i64 1 r13.1)), (8, .int .i64 (imul .i64 4 (isub .i64 r14.1 100)))]) (s := hp B [(N0, some ⟨40, 5, [[.int .i64 0, .int .i64 0, .int .i64 0, .int .i64 0, .int .i64 0]]⟩), (N0 + 12, some ⟨138, 2, [[.fsl (encL rI_u8 r14.2.b), .int .i64 r14.2.p]]⟩), (N0 + 16, some ⟨40, 5, [[.int .i64 r12.1.Op, .int .i64 r12.1.Dst, .int .i64 r12.1.A, .int .i64 r12.1.B, .int .i64 r12.1.N]]⟩)] M10) rfl rfl fun a' ha => ?_
  refine hK19 _ _ ?_; rw [ha]
  refine AWP_seqk [2, 6, 7, 8] fun K20 hK20 => ?_
  obtain ⟨j2, hj2, H⟩ := bindE H
  have J2 : ∀ a' σ' M11, M10 ≤ M11 → AAct.keep a' [2, 6, 7, 8] = [(2, .ptr N0 0 0), (6, .ptr (N0 + 16) 0 0), (7, .int .i64 j2.1), (8, .int .i64 j2.2)] → AHeap.Sub (hp B [(N0, some ⟨40, 5, [[.int .i64 0, .int .i64 0, .int .i64 0, .int .i64 0, .int .i64 0]]⟩), (N0 + 16, some ⟨40, 5, [[.int .i64 r12.1.Op, .int .i64 r12.1.Dst, .int .i64 r12.1.A, .int .i64 r12.1.B, .int .i64 r12.1.N]]⟩)] M11) σ' → K20 a' σ' := by
   intro a' σ' M11 hM11_0 ha hsub
   refine hK20 _ _ ?_; rw [ha]; refine AWP_sub hsub ?_
   refine AWP_seqk [2, 3, 4] fun K21 hK21 => ?_
   refine AWP_regl tok [] ?_
   simp -dsimp -implicitDefEqProofs (maxDischargeDepth := 6)
   refine keepE2 (l := [2, 3, 4]) (x := [(2, .ptr N0 0 0), (3, .int .i64 j2.1), (4, .int .i64 j2.2)]) (s := hp B [(N0, some ⟨40, 5, [[.int .i64 r12.1.Op, .int .i64 r12.1.Dst, .int .i64 r12.1.A, .int .i64 r12.1.B, .int .i64 r12.1.N]]⟩), (N0 + 16, some ⟨40, 5, [[.int .i64 r12.1.Op, .int .i64 r12.1.Dst, .int .i64 r12.1.A, .int .i64 r12.1.B, .int .i64 r12.1.N]]⟩)] (M11 + 6)) rfl rfl fun a' ha => ?_
   refine hK21 _ _ ?_; rw [ha]
   refine AWP_ret ?_
   replace H := Option.some.inj H; subst H
   have e0 : N0 ≤ N0 := by omega
   have e1 : N0 ≤ N0 + 16 := by omega
   refine ⟨[.agg [.int .i64 r12.1.Op, .int .i64 r12.1.Dst, .int .i64 r12.1.A, .int .i64 r12.1.B, .int .i64 r12.1.N], .int .i64 j2.1, .int .i64 j2.2], by simp [e0, e1], ?_, ?_⟩
   ·
    simp [encL_nil, e0, e1]
   ·
    intro o ho; exact lk_out (by simp; try omega)
  replace H := hj2
  refine AWP_seqk [2, 5, 6, 7, 8, 21] fun K22 hK22 => ?_
  obtain ⟨r17, hr17, H⟩ := bindE H
  refine AWP_regl tok [] ?_
  simp -dsimp -implicitDefEqProofs (maxDischargeDepth := 6)
  refine (c71 hr17 (by simp [])).mono ?_; rintro _ _ ⟨M12, hM12, rfl, rfl⟩; simp only [hp_next] at hM12; try simp -dsimp -implicitDefEqProofs (maxDischargeDepth := 6) [hp_over_one]
  refine keepE2 (l := [2, 5, 6, 7, 8, 21]) (x := [(2, .ptr N0 0 0), (5, .ptr (N0 + 12) 0 0), (6, .ptr (N0 + 16) 0 0), (7, .int .i64 (iadd .i64 1 r13.1)), (8, .int .i64 (imul .i64 4 (isub .i64 r14.1 100))), (21, .int .i64 r17.1)]) (s := hp B [(N0, some ⟨40, 5, [[.int .i64 0, .int .i64 0, .int .i64 0, .int .i64 0, .int .i64 0]]⟩), (N0 + 12, some ⟨138, 2, [[.fsl (encL rI_u8 r17.2.b), .int .i64 r17.2.p]]⟩), (N0 + 16, some ⟨40, 5, [[.int .i64 r12.1.Op, .int .i64 r12.1.Dst, .int .i64 r12.1.A, .int .i64 r12.1.B, .int .i64 r12.1.N]]⟩)] M12) rfl rfl fun a' ha => ?_
  refine hK22 _ _ ?_; rw [ha]
  refine AWP_block ?_
  refine AWP_seqk [2, 5, 6, 7, 8, 21, 22] fun K23 hK23 => ?_
  refine AWP_regl tok [] ?_
  simp -dsimp -implicitDefEqProofs (maxDischargeDepth := 6)
  refine keepE2 (l := [2, 5, 6, 7, 8, 21, 22]) (x := [(2, .ptr N0 0 0), (5, .ptr (N0 + 12) 0 0), (6, .ptr (N0 + 16) 0 0), (7, .int .i64 (iadd .i64 1 r13.1)), (8, .int .i64 (imul .i64 4 (isub .i64 r14.1 100))), (21, .int .i64 r17.1), (22, .bool (ieq r17.1 0))]) (s := hp B [(N0, some ⟨40, 5, [[.int .i64 0, .int .i64 0, .int .i64 0, .int .i64 0, .int .i64 0]]⟩), (N0 + 12, some ⟨138, 2, [[.fsl (encL rI_u8 r17.2.b), .int .i64 r17.2.p]]⟩), (N0 + 16, some ⟨40, 5, [[.int .i64 r12.1.Op, .int .i64 r12.1.Dst, .int .i64 r12.1.A, .int .i64 r12.1.B, .int .i64 r12.1.N]]⟩)] (M12 + 2)) rfl rfl fun a' ha => ?_
  refine hK23 _ _ ?_; rw [ha]
  refine AWP_cond (ieq r17.1 0) rfl (fun C4 => ?_) (fun C4 => ?_)
  ·
   replace H := ifT C4 H
   obtain ⟨r18, hr18, H⟩ := bindE H
   obtain ⟨v19, hv19, H⟩ := bindE H
   have q2 : ∀ σ i, buildSliceA T 24 true i 2 [(0, .int .i64 0), (1, .int .i64 9)] σ = some (.fsl (encL rI ([0, 9] : List Int)), σ) := fun _ _ => rfl
   refine AWP_toThen ?_
   refine AWP_regl tok [0] ?_
   simp -dsimp -implicitDefEqProofs (maxDischargeDepth := 6) [q2, ix24 hv19]
   refine (c71 hr18 (by simp [q2, ix24 hv19])).mono ?_; rintro _ _ ⟨M13, hM13, rfl, rfl⟩; simp only [hp_next] at hM13; try simp -dsimp -implicitDefEqProofs (maxDischargeDepth := 6) [hp_over_one, q2, ix24 hv19]
   refine keepE2 (l := [2, 6, 7, 8]) (x := [(2, .ptr N0 0 0), (6, .ptr (N0 + 16) 0 0), (7, .int .i64 v19), (8, .int .i64 (imul .i64 4 (isub .i64 r14.1 100)))]) (s := hp B [(N0, some ⟨40, 5, [[.int .i64 0, .int .i64 0, .int .i64 0, .int .i64 0, .int .i64 0]]⟩), (N0 + 12, some ⟨138, 2, [[.fsl (encL rI_u8 r18.2.b), .int .i64 r18.2.p]]⟩), (N0 + 16, some ⟨40, 5, [[.int .i64 r12.1.Op, .int .i64 r12.1.Dst, .int .i64 r12.1.A, .int .i64 r12.1.B, .int .i64 r12.1.N]]⟩)] M13) rfl rfl fun a' ha => ?_
   replace H := Option.some.inj H
   subst H
   exact J2 _ _ M13 (by omega) ha (hp_skip (AHeap.Sub.trans (hp_skip (AHeap.Sub.refl _)) (hp_drop (by first | exact hfr _ (by omega) | omega) (by simp; try omega))))
  ·
   replace H := ifF C4 H
   refine AWP_seqk [2, 5, 6, 7, 8, 29] fun K24 hK24 => ?_
   refine AWP_regl tok [] ?_
   simp -dsimp -implicitDefEqProofs (maxDischargeDepth := 6)
   refine keepE2 (l := [2, 5, 6, 7, 8, 29]) (x := [(2, .ptr N0 0 0), (5, .ptr (N0 + 12) 0 0), (6, .ptr (N0 + 16) 0 0), (7, .int .i64 (iadd .i64 1 r13.1)), (8, .int .i64 (imul .i64 4 (isub .i64 r14.1 100))), (29, .bool (ieq r17.1 1))]) (s := hp B [(N0, some ⟨40, 5, [[.int .i64 0, .int .i64 0, .int .i64 0, .int .i64 0, .int .i64 0]]⟩), (N0 + 12, some ⟨138, 2, [[.fsl (encL rI_u8 r17.2.b), .int .i64 r17.2.p]]⟩), (N0 + 16, some ⟨40, 5, [[.int .i64 r12.1.Op, .int .i64 r12.1.Dst, .int .i64 r12.1.A, .int .i64 r12.1.B, .int .i64 r12.1.N]]⟩)] (M12 + 4)) rfl rfl fun a' ha => ?_
   refine hK24 _ _ ?_; rw [ha]
   refine AWP_cond (ieq r17.1 1) rfl (fun C3 => ?_) (fun C3 => ?_)
   ·
    replace H := ifT C3 H
    obtain ⟨r20, hr20, H⟩ := bindE H
    obtain ⟨v21, hv21, H⟩ := bindE H
    have q3 : ∀ σ i, buildSliceA T 24 true i 4 [(0, .int .i64 2), (1, .int .i64 100004), (2, .int .i64 (-100004)), (3, .int .i64 100000)] σ = some (.fsl (encL rI ([2, 100004, -100004, 100000] : List Int)), σ) := fun _ _ => rfl
    refine AWP_toThen ?_
    refine AWP_regl tok [0] ?_
    simp -dsimp -implicitDefEqProofs (maxDischargeDepth := 6) [q3, ix24 hv21]
    refine (c71 hr20 (by simp [q3, ix24 hv21])).mono ?_; rintro _ _ ⟨M14, hM14, rfl, rfl⟩; simp only [hp_next] at hM14; try simp -dsimp -implicitDefEqProofs (maxDischargeDepth := 6) [hp_over_one, q3, ix24 hv21]
    refine keepE2 (l := [2, 6, 7, 8]) (x := [(2, .ptr N0 0 0), (6, .ptr (N0 + 16) 0 0), (7, .int .i64 (iadd .i64 1 r13.1)), (8, .int .i64 v21)]) (s := hp B [(N0, some ⟨40, 5, [[.int .i64 0, .int .i64 0, .int .i64 0, .int .i64 0, .int .i64 0]]⟩), (N0 + 12, some ⟨138, 2, [[.fsl (encL rI_u8 r20.2.b), .int .i64 r20.2.p]]⟩), (N0 + 16, some ⟨40, 5, [[.int .i64 r12.1.Op, .int .i64 r12.1.Dst, .int .i64 r12.1.A, .int .i64 r12.1.B, .int .i64 r12.1.N]]⟩)] M14) rfl rfl fun a' ha => ?_
    replace H := Option.some.inj H
    subst H
    exact J2 _ _ M14 (by omega) ha (hp_skip (AHeap.Sub.trans (hp_skip (AHeap.Sub.refl _)) (hp_drop (by first | exact hfr _ (by omega) | omega) (by simp; try omega))))
   ·
    replace H := ifF C3 H
    refine AWP_skip ?_
    show K20 _ _
    refine keepE (l := [2, 6, 7, 8]) (x := [(2, .ptr N0 0 0), (6, .ptr (N0 + 16) 0 0), (7, .int .i64 (iadd .i64 1 r13.1)), (8, .int .i64 (imul .i64 4 (isub .i64 r14.1 100)))]) rfl fun a' ha => ?_
    replace H := Option.some.inj H
    subst H
    exact J2 _ _ (M12 + 4) (by omega) ha (hp_skip (AHeap.Sub.trans (hp_skip (AHeap.Sub.refl _)) (hp_drop (by first | exact hfr _ (by omega) | omega) (by simp; try omega))))
end Go.Proofs.YtoklfbdcghgmlaaDoor
