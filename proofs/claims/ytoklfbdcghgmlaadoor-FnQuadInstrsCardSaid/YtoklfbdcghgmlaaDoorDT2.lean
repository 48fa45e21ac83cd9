/- The contracts of functions of the program, part 2: each computes what its mirror computes. No conditions. -/
import Derived.Test.YtoklfbdcghgmlaaDoorDT1
set_option linter.unusedSimpArgs false
set_option linter.unusedVariables false
set_option maxRecDepth 20000
set_option maxHeartbeats 4000000
namespace Go.Proofs.YtoklfbdcghgmlaaDoor
open Go Go.Abs Go.RowKit

theorem c110 {p0 : gQuad} {p1 : Int} {p2 : Int} {r : (List gInstr)} (H : s_l43Zero p0 p1 p2 = some r) : APure Tryd.prog G 110 [.agg [.int .i64 p0.Op, .int .i64 p0.Dst, .int .i64 p0.A, .int .i64 p0.B, .int .i64 p0.N], .int .i64 p1, .int .i64 p2] (.fsl (encL rInstr r)) := by
 refine APure_thaw 4 (fun σ => ?_) (by simp)
 refine ACalls_fn tok Tryd.func110 (by kernel_rfl) rfl Tryd.ntmps110 Tryd.results110 rfl ?_
 simp only [argsA, Nat.reduceAdd]
 refine AWP_ids fun hfr => ?_
 obtain ⟨B, hB⟩ : ∃ B, B = σ.objs := ⟨_, rfl⟩
 obtain ⟨N0, hN0⟩ : ∃ N, N = σ.next := ⟨_, rfl⟩
 have hσ : σ = hp B [] N0 := by rw [hB, hN0]; rfl
 rw [← hN0, ← hB] at hfr ⊢
 rw [hσ]; clear hσ
 unfold s_l43Zero at H
 refine AWP_seqk [1, 2, 3] fun K1 hK1 => ?_
 refine AWP_regl tok [0] ?_
 simp -dsimp -implicitDefEqProofs (maxDischargeDepth := 6)
 refine keepE2 (l := [1, 2, 3]) (x := [(1, .int .i64 p1), (2, .int .i64 p2), (3, .fptr [.int .i64 p0.Op, .int .i64 p0.Dst, .int .i64 p0.A, .int .i64 p0.B, .int .i64 p0.N] 0)]) (s := hp B [] (N0 + 2)) rfl rfl fun a' ha => ?_
 refine hK1 _ _ ?_; rw [ha]
 refine AWP_seqk [2, 7] fun K2 hK2 => ?_
 refine AWP_drawl tok tokM [9] [3, 10, 11] [0, 1, 2, 4, 5, 6, 3, 7, 8, 9, 10, 11] (by decide) ?_
 simp only [pickL, nthO_succ, nthO_zero]
 simp -dsimp -implicitDefEqProofs (maxDischargeDepth := 6)
 refine ACalls_fn tok Tryd.func107 (by kernel_rfl) rfl Tryd.ntmps107 Tryd.results107 rfl ?_
 simp only [argsA, Nat.reduceAdd]
 refine AWP_seqk [0, 1, 2] fun K4 hK4 => ?_
 obtain ⟨l1, hl1, H⟩ := bindE H
 have q0 : ∀ σ i, nilA T 29 i .nilsl σ = some (.sl i 0 (List.length l1), σ.put i ⟨47, 5, encL rInstr l1⟩) := by rw [← Option.some.inj hl1]; intro _ _; rfl
 refine AWP_regl tok [0] ?_
 simp -dsimp -implicitDefEqProofs (maxDischargeDepth := 6) [q0]
 refine keepE2 (l := [0, 1, 2]) (x := [(0, .int .i64 p0.A), (1, .int .i64 p1), (2, .int .i64 5)]) (s := hp B [(N0 + 14, some ⟨47, 5, encL rInstr l1⟩)] (N0 + 15)) rfl rfl fun a' ha => ?_
 refine hK4 _ _ ?_; rw [ha]
 refine AWP_seqk [0, 1, 2] fun K5 hK5 => ?_
 refine AWP_seqk [0, 1, 2, 9] fun K6 hK6 => ?_
 refine AWP_regl tok [] ?_
 simp -dsimp -implicitDefEqProofs (maxDischargeDepth := 6)
 refine keepE2 (l := [0, 1, 2, 9]) (x := [(0, .int .i64 p0.A), (1, .int .i64 p1), (2, .int .i64 5), (9, .bool (ilt p0.A p1))]) (s := hp B [(N0 + 14, some ⟨47, 5, encL rInstr l1⟩)] (N0 + 18)) rfl rfl fun a' ha => ?_
 refine hK6 _ _ ?_; rw [ha]
 refine AWP_cond (ilt p0.A p1) rfl (fun C1 => ?_) (fun C1 => ?_)
 ·
  replace H := ifT C1 H
  refine AWP_seqk [6] fun K7 hK7 => ?_
  obtain ⟨l2, hl2, H⟩ := bindE H
  have q1 : ∀ σ i, buildSliceA T 29 false i 0 [] σ = some (.sl i 0 (List.length l2), σ.put i ⟨47, 5, encL rInstr l2⟩) := by rw [← Option.some.inj hl2]; intro _ _; rfl
  refine AWP_regl tok [] ?_
  simp -dsimp -implicitDefEqProofs (maxDischargeDepth := 6) [q1]
  refine keepE2 (l := [6]) (x := [(6, .sl (N0 + 18) 0 l2.length)]) (s := hp B [(N0 + 14, some ⟨47, 5, encL rInstr l1⟩), (N0 + 18, some ⟨47, 5, encL rInstr l2⟩)] (N0 + 20)) rfl rfl fun a' ha => ?_
  refine hK7 _ _ ?_; rw [ha]
  refine AWP_ret ?_
  have e0 : N0 ≤ N0 + 14 := by omega
  have e1 : N0 ≤ N0 + 18 := by omega
  refine ⟨[.sl (N0 + 18) 0 l2.length], by simp [e0, e1], ?_⟩
  obtain ⟨r3, hr3, H⟩ := bindE H
  obtain ⟨l4, hl4, H⟩ := bindE H
  have q2 : ∀ σ i, buildSliceA T 29 true i 1 [(0, .agg [.int .i64 18, .int .i64 0, .int .i64 r3, .int .i64 0, .int .i64 8])] σ = some (.fsl (encL rInstr ([(⟨18, 0, r3, 0, 8⟩ : gInstr)] : List gInstr)), σ) := fun _ _ => rfl
  simp -dsimp -implicitDefEqProofs (maxDischargeDepth := 6) [q2, app29 hl4]
  refine Pc.mk (c105 hr3) ?_; try simp -dsimp -implicitDefEqProofs (maxDischargeDepth := 6) [q2, app29 hl4]
  refine keepE2 (l := [2, 7]) (x := [(2, .int .i64 p2), (7, .sl (N0 + 12) 0 l4.length)]) (s := hp B [(N0 + 14, some ⟨47, 5, encL rInstr l1⟩), (N0 + 18, none), (N0 + 12, some ⟨47, 5, encL rInstr l4⟩)] (N0 + 20)) rfl rfl fun a' ha => ?_
  refine hK2 _ _ ?_; rw [ha]
  refine AWP_seqk [6] fun K8 hK8 => ?_
  obtain ⟨l5, hl5, H⟩ := bindE H
  have q3 : ∀ σ i, buildSliceA T 29 true i 1 [(0, .agg [.int .i64 20, .int .i64 0, .int .i64 0, .int .i64 0, .int .i64 (isub .i64 p2 (imul .i64 4 (ilen l4)))])] σ = some (.fsl (encL rInstr ([(⟨20, 0, 0, 0, isub .i64 p2 (imul .i64 4 (ilen l4))⟩ : gInstr)] : List gInstr)), σ) := fun _ _ => rfl
  refine AWP_regl tok [7] ?_
  simp -dsimp -implicitDefEqProofs (maxDischargeDepth := 6) [q3, app29 hl5]
  refine keepE2 (l := [6]) (x := [(6, .sl (N0 + 28) 0 l5.length)]) (s := hp B [(N0 + 14, some ⟨47, 5, encL rInstr l1⟩), (N0 + 18, none), (N0 + 12, none), (N0 + 28, some ⟨47, 5, encL rInstr l5⟩)] (N0 + 30)) rfl rfl fun a' ha => ?_
  refine hK8 _ _ ?_; rw [ha]
  refine AWP_ret ?_
  replace H := Option.some.inj H; subst H
  have e0 : N0 ≤ N0 + 14 := by omega
  have e1 : N0 ≤ N0 + 18 := by omega
  have e2 : N0 ≤ N0 + 12 := by omega
  have e3 : N0 ≤ N0 + 28 := by omega
  refine ⟨[.sl (N0 + 28) 0 l5.length], by simp [e0, e1, e2, e3], ?_, ?_⟩
  ·
   simp [encL_nil, e0, e1, e2, e3]
  ·
   intro o ho; exact lk_out (by simp; try omega)
 ·
  replace H := ifF C1 H
  refine AWP_skip ?_
  show K5 _ _
  refine keepE (l := [0, 1, 2]) (x := [(0, .int .i64 p0.A), (1, .int .i64 p1), (2, .int .i64 5)]) rfl fun a' ha => ?_
  refine hK5 _ _ ?_; rw [ha]
  refine AWP_seqk [6] fun K9 hK9 => ?_
  obtain ⟨l6, hl6, H⟩ := bindE H
  have q4 : ∀ σ i, buildSliceA T 29 false i 1 [(0, .agg [.int .i64 14, .int .i64 5, .int .i64 2, .int .i64 0, .int .i64 (imul .i64 4 (isub .i64 p0.A p1))])] σ = some (.sl i 0 (List.length l6), σ.put i ⟨47, 5, encL rInstr l6⟩) := by rw [← Option.some.inj hl6]; intro _ _; rfl
  refine AWP_regl tok [] ?_
  simp -dsimp -implicitDefEqProofs (maxDischargeDepth := 6) [q4]
  refine keepE2 (l := [6]) (x := [(6, .sl (N0 + 24) 0 l6.length)]) (s := hp B [(N0 + 14, some ⟨47, 5, encL rInstr l1⟩), (N0 + 24, some ⟨47, 5, encL rInstr l6⟩)] (N0 + 26)) rfl rfl fun a' ha => ?_
  refine hK9 _ _ ?_; rw [ha]
  refine AWP_ret ?_
  have e0 : N0 ≤ N0 + 14 := by omega
  have e1 : N0 ≤ N0 + 24 := by omega
  refine ⟨[.sl (N0 + 24) 0 l6.length], by simp [e0, e1], ?_⟩
  obtain ⟨r7, hr7, H⟩ := bindE H
  obtain ⟨l8, hl8, H⟩ := bindE H
  have q5 : ∀ σ i, buildSliceA T 29 true i 1 [(0, .agg [.int .i64 18, .int .i64 0, .int .i64 r7, .int .i64 0, .int .i64 8])] σ = some (.fsl (encL rInstr ([(⟨18, 0, r7, 0, 8⟩ : gInstr)] : List gInstr)), σ) := fun _ _ => rfl
  simp -dsimp -implicitDefEqProofs (maxDischargeDepth := 6) [q5, app29 hl8]
  refine Pc.mk (c105 hr7) ?_; try simp -dsimp -implicitDefEqProofs (maxDischargeDepth := 6) [q5, app29 hl8]
  refine keepE2 (l := [2, 7]) (x := [(2, .int .i64 p2), (7, .sl (N0 + 12) 0 l8.length)]) (s := hp B [(N0 + 14, some ⟨47, 5, encL rInstr l1⟩), (N0 + 24, none), (N0 + 12, some ⟨47, 5, encL rInstr l8⟩)] (N0 + 26)) rfl rfl fun a' ha => ?_
  refine hK2 _ _ ?_; rw [ha]
  refine AWP_seqk [6] fun K10 hK10 => ?_
  obtain ⟨l9, hl9, H⟩ := bindE H
  have q6 : ∀ σ i, buildSliceA T 29 true i 1 [(0, .agg [.int .i64 20, .int .i64 0, .int .i64 0, .int .i64 0, .int .i64 (isub .i64 p2 (imul .i64 4 (ilen l8)))])] σ = some (.fsl (encL rInstr ([(⟨20, 0, 0, 0, isub .i64 p2 (imul .i64 4 (ilen l8))⟩ : gInstr)] : List gInstr)), σ) := fun _ _ => rfl
  refine AWP_regl tok [7] ?_
  simp -dsimp -implicitDefEqProofs (maxDischargeDepth := 6) [q6, app29 hl9]
  refine keepE2 (l := [6]) (x := [(6, .sl (N0 + 34) 0 l9.length)]) (s := hp B [(N0 + 14, some ⟨47, 5, encL rInstr l1⟩), (N0 + 24, none), (N0 + 12, none), (N0 + 34, some ⟨47, 5, encL rInstr l9⟩)] (N0 + 36)) rfl rfl fun a' ha => ?_
  refine hK10 _ _ ?_; rw [ha]
  refine AWP_ret ?_
  replace H := Option.some.inj H; subst H
  have e0 : N0 ≤ N0 + 14 := by omega
  have e1 : N0 ≤ N0 + 24 := by omega
  have e2 : N0 ≤ N0 + 12 := by omega
  have e3 : N0 ≤ N0 + 34 := by omega
  refine ⟨[.sl (N0 + 34) 0 l9.length], by simp [e0, e1, e2, e3], ?_, ?_⟩
  ·
   simp [encL_nil, e0, e1, e2, e3]
  ·
   intro o ho; exact lk_out (by simp; try omega)
theorem c113 {p0 : Int} {r : gInstr} (H : s_l43Box p0 = some r) : APure Tryd.prog G 113 [.int .i64 p0] (.agg [.int .i64 r.Op, .int .i64 r.Rd, .int .i64 r.Rs, .int .i64 r.Rt, .int .i64 r.Imm]) := by
 refine APure_thaw 4 (fun σ => ?_) (by simp)
 refine ACalls_fn tok Tryd.func113 (by kernel_rfl) rfl Tryd.ntmps113 Tryd.results113 rfl ?_
 simp only [argsA, Nat.reduceAdd]
 refine AWP_ids fun hfr => ?_
 obtain ⟨B, hB⟩ : ∃ B, B = σ.objs := ⟨_, rfl⟩
 obtain ⟨N0, hN0⟩ : ∃ N, N = σ.next := ⟨_, rfl⟩
 have hσ : σ = hp B [] N0 := by rw [hB, hN0]; rfl
 rw [← hN0, ← hB] at hfr ⊢
 rw [hσ]; clear hσ
 unfold s_l43Box at H
 refine AWP_seqk [0, 2] fun K1 hK1 => ?_
 refine AWP_regl tok [] ?_
 simp -dsimp -implicitDefEqProofs (maxDischargeDepth := 6)
 refine keepE2 (l := [0, 2]) (x := [(0, .int .i64 p0), (2, .ptr N0 0 0)]) (s := hp B [(N0, some ⟨47, 5, [[.int .i64 0, .int .i64 0, .int .i64 0, .int .i64 0, .int .i64 0]]⟩)] (N0 + 1)) rfl rfl fun a' ha => ?_
 refine hK1 _ _ ?_; rw [ha]
 refine AWP_seqk [2] fun K2 hK2 => ?_
 refine AWP_regl tok [] ?_
 simp -dsimp -implicitDefEqProofs (maxDischargeDepth := 6)
 refine keepE2 (l := [2]) (x := [(2, .ptr N0 0 0)]) (s := hp B [(N0, some ⟨47, 5, [[.int .i64 12, .int .i64 11, .int .i64 0, .int .i64 0, .int .i64 p0]]⟩)] (N0 + 4)) rfl rfl fun a' ha => ?_
 refine hK2 _ _ ?_; rw [ha]
 refine AWP_ret ?_
 replace H := Option.some.inj H; subst H
 have e0 : N0 ≤ N0 := by omega
 refine ⟨[.agg [.int .i64 12, .int .i64 11, .int .i64 0, .int .i64 0, .int .i64 p0]], by simp [e0], ?_, ?_⟩
 ·
  simp [encL_nil, e0]
 ·
  intro o ho; exact lk_out (by simp; try omega)
theorem c66 {p0 : gQuad} {p1 : Int} {p2 : Int} {r : (List gInstr)} (H : s_l43Quad p0 p1 p2 = some r) : APure Tryd.prog G 66 [.agg [.int .i64 p0.Op, .int .i64 p0.Dst, .int .i64 p0.A, .int .i64 p0.B, .int .i64 p0.N], .int .i64 p1, .int .i64 p2] (.fsl (encL rInstr r)) := by
 refine APure_thaw 4 (fun σ => ?_) (by simp)
 refine ACalls_fn tok Tryd.func66 (by kernel_rfl) rfl Tryd.ntmps66 Tryd.results66 rfl ?_
 simp only [argsA, Nat.reduceAdd]
 refine AWP_ids fun hfr => ?_
 obtain ⟨B, hB⟩ : ∃ B, B = σ.objs := ⟨_, rfl⟩
 obtain ⟨N0, hN0⟩ : ∃ N, N = σ.next := ⟨_, rfl⟩
 have hσ : σ = hp B [] N0 := by rw [hB, hN0]; rfl
 rw [← hN0, ← hB] at hfr ⊢
 rw [hσ]; clear hσ
 unfold s_l43Quad at H
 refine AWP_seqk [1, 2, 3] fun K1 hK1 => ?_
 refine AWP_regl tok [0] ?_
 simp -dsimp -implicitDefEqProofs (maxDischargeDepth := 6)
 refine keepE2 (l := [1, 2, 3]) (x := [(1, .int .i64 p1), (2, .int .i64 p2), (3, .fptr [.int .i64 p0.Op, .int .i64 p0.Dst, .int .i64 p0.A, .int .i64 p0.B, .int .i64 p0.N] 0)]) (s := hp B [] (N0 + 2)) rfl rfl fun a' ha => ?_
 refine hK1 _ _ ?_; rw [ha]
 refine AWP_seqk [1, 2, 3, 7] fun K2 hK2 => ?_
 obtain ⟨r1, hr1, H⟩ := bindE H
 refine AWP_regl tok [] ?_
 simp -dsimp -implicitDefEqProofs (maxDischargeDepth := 6)
 refine (c105 hr1).app ?_; try simp -dsimp -implicitDefEqProofs (maxDischargeDepth := 6)
 refine keepE2 (l := [1, 2, 3, 7]) (x := [(1, .int .i64 p1), (2, .int .i64 p2), (3, .fptr [.int .i64 p0.Op, .int .i64 p0.Dst, .int .i64 p0.A, .int .i64 p0.B, .int .i64 p0.N] 0), (7, .int .i64 r1)]) (s := hp B [] (N0 + 7)) rfl rfl fun a' ha => ?_
 refine hK2 _ _ ?_; rw [ha]
 refine AWP_seqk [] fun K3 hK3 => ?_
 refine AWP_seqk [1, 2, 3, 7, 14] fun K4 hK4 => ?_
 refine AWP_regl tok [] ?_
 simp -dsimp -implicitDefEqProofs (maxDischargeDepth := 6)
 refine keepE2 (l := [1, 2, 3, 7, 14]) (x := [(1, .int .i64 p1), (2, .int .i64 p2), (3, .fptr [.int .i64 p0.Op, .int .i64 p0.Dst, .int .i64 p0.A, .int .i64 p0.B, .int .i64 p0.N] 0), (7, .int .i64 r1), (14, .int .i64 p0.Op)]) (s := hp B [] (N0 + 9)) rfl rfl fun a' ha => ?_
 refine hK4 _ _ ?_; rw [ha]
 refine AWP_block ?_
 refine AWP_seqk [1, 2, 3, 7, 14, 15] fun K5 hK5 => ?_
 refine AWP_regl tok [] ?_
 simp -dsimp -implicitDefEqProofs (maxDischargeDepth := 6)
 refine keepE2 (l := [1, 2, 3, 7, 14, 15]) (x := [(1, .int .i64 p1), (2, .int .i64 p2), (3, .fptr [.int .i64 p0.Op, .int .i64 p0.Dst, .int .i64 p0.A, .int .i64 p0.B, .int .i64 p0.N] 0), (7, .int .i64 r1), (14, .int .i64 p0.Op), (15, .bool (ieq p0.Op 1))]) (s := hp B [] (N0 + 11)) rfl rfl fun a' ha => ?_
 refine hK5 _ _ ?_; rw [ha]
 refine AWP_cond (ieq p0.Op 1) rfl (fun C18 => ?_) (fun C18 => ?_)
 ·
  replace H := ifT C18 H
  refine AWP_seqk [6] fun K6 hK6 => ?_
  refine AWP_drawl tok tokM [] [3, 7, 8] [0, 1, 2, 4, 5, 6, 3, 7, 8] (by decide) ?_
  simp only [pickL, nthO_succ, nthO_zero]
  simp -dsimp -implicitDefEqProofs (maxDischargeDepth := 6)
  refine ACalls_fn tok Tryd.func76 (by kernel_rfl) rfl Tryd.ntmps76 Tryd.results76 rfl ?_
  simp only [argsA, Nat.reduceAdd]
  refine AWP_seqk [0, 1] fun K8 hK8 => ?_
  obtain ⟨l2, hl2, H⟩ := bindE H
  have q0 : ∀ σ i, nilA T 29 i .nilsl σ = some (.sl i 0 (List.length l2), σ.put i ⟨47, 5, encL rInstr l2⟩) := by rw [← Option.some.inj hl2]; intro _ _; rfl
  refine AWP_regl tok [0] ?_
  simp -dsimp -implicitDefEqProofs (maxDischargeDepth := 6) [q0]
  refine keepE2 (l := [0, 1]) (x := [(0, .int .i64 r1), (1, .int .i64 p0.N)]) (s := hp B [(N0 + 20, some ⟨47, 5, encL rInstr l2⟩)] (N0 + 21)) rfl rfl fun a' ha => ?_
  refine hK8 _ _ ?_; rw [ha]
  refine AWP_seqk [0, 1] fun K9 hK9 => ?_
  refine AWP_seqk [0, 1, 9] fun K10 hK10 => ?_
  obtain ⟨r3, hr3, H⟩ := bindE H
  refine AWP_regl tok [] ?_
  simp -dsimp -implicitDefEqProofs (maxDischargeDepth := 6)
  refine (c65 hr3).app ?_; try simp -dsimp -implicitDefEqProofs (maxDischargeDepth := 6)
  refine keepE2 (l := [0, 1, 9]) (x := [(0, .int .i64 r1), (1, .int .i64 p0.N), (9, .bool r3)]) (s := hp B [(N0 + 20, some ⟨47, 5, encL rInstr l2⟩)] (N0 + 23)) rfl rfl fun a' ha => ?_
  refine hK10 _ _ ?_; rw [ha]
  refine AWP_cond r3 rfl (fun C3 => ?_) (fun C3 => ?_)
  ·
   replace H := ifT C3 H
   refine AWP_seqk [4] fun K11 hK11 => ?_
   obtain ⟨l4, hl4, H⟩ := bindE H
   have q1 : ∀ σ i, buildSliceA T 29 false i 1 [(0, .agg [.int .i64 12, .int .i64 r1, .int .i64 0, .int .i64 0, .int .i64 p0.N])] σ = some (.sl i 0 (List.length l4), σ.put i ⟨47, 5, encL rInstr l4⟩) := by rw [← Option.some.inj hl4]; intro _ _; rfl
   refine AWP_regl tok [] ?_
   simp -dsimp -implicitDefEqProofs (maxDischargeDepth := 6) [q1]
   refine keepE2 (l := [4]) (x := [(4, .sl (N0 + 26) 0 l4.length)]) (s := hp B [(N0 + 20, some ⟨47, 5, encL rInstr l2⟩), (N0 + 26, some ⟨47, 5, encL rInstr l4⟩)] (N0 + 28)) rfl rfl fun a' ha => ?_
   refine hK11 _ _ ?_; rw [ha]
   refine AWP_ret ?_
   have e0 : N0 ≤ N0 + 20 := by omega
   have e1 : N0 ≤ N0 + 26 := by omega
   refine ⟨[.sl (N0 + 26) 0 l4.length], by simp [e0, e1], ?_⟩
   simp -dsimp -implicitDefEqProofs (maxDischargeDepth := 6)
   refine ACalls_fn tok Tryd.func106 (by kernel_rfl) rfl Tryd.ntmps106 Tryd.results106 rfl ?_
   simp only [argsA, Nat.reduceAdd]
   refine AWP_seqk [0, 1, 2] fun K13 hK13 => ?_
   refine AWP_regl tok [] ?_
   simp -dsimp -implicitDefEqProofs (maxDischargeDepth := 6)
   refine keepE2 (l := [0, 1, 2]) (x := [(0, .sl (N0 + 26) 0 l4.length), (1, .int .i64 p0.Dst), (2, .int .i64 p1)]) (s := hp B [(N0 + 20, some ⟨47, 5, encL rInstr l2⟩), (N0 + 26, some ⟨47, 5, encL rInstr l4⟩)] (N0 + 29)) rfl rfl fun a' ha => ?_
   refine hK13 _ _ ?_; rw [ha]
   refine AWP_seqk [0, 1, 2] fun K14 hK14 => ?_
   refine AWP_seqk [0, 1, 2, 9] fun K15 hK15 => ?_
   refine AWP_regl tok [] ?_
   simp -dsimp -implicitDefEqProofs (maxDischargeDepth := 6)
   refine keepE2 (l := [0, 1, 2, 9]) (x := [(0, .sl (N0 + 26) 0 l4.length), (1, .int .i64 p0.Dst), (2, .int .i64 p1), (9, .bool (ilt p0.Dst p1))]) (s := hp B [(N0 + 20, some ⟨47, 5, encL rInstr l2⟩), (N0 + 26, some ⟨47, 5, encL rInstr l4⟩)] (N0 + 32)) rfl rfl fun a' ha => ?_
   refine hK15 _ _ ?_; rw [ha]
   refine AWP_cond (ilt p0.Dst p1) rfl (fun C1 => ?_) (fun C1 => ?_)
   ·
    replace H := ifT C1 H
    refine AWP_seqk [6] fun K16 hK16 => ?_
    refine AWP_regl tok [] ?_
    simp -dsimp -implicitDefEqProofs (maxDischargeDepth := 6)
    refine keepE2 (l := [6]) (x := [(6, .sl (N0 + 26) 0 l4.length)]) (s := hp B [(N0 + 20, some ⟨47, 5, encL rInstr l2⟩), (N0 + 26, some ⟨47, 5, encL rInstr l4⟩)] (N0 + 34)) rfl rfl fun a' ha => ?_
    refine hK16 _ _ ?_; rw [ha]
    refine AWP_ret ?_
    have e0 : N0 ≤ N0 + 20 := by omega
    have e1 : N0 ≤ N0 + 26 := by omega
    refine ⟨[.sl (N0 + 26) 0 l4.length], by simp [e0, e1], ?_⟩
    simp -dsimp -implicitDefEqProofs (maxDischargeDepth := 6)
    refine keepE2 (l := [6]) (x := [(6, .sl (N0 + 26) 0 l4.length)]) (s := hp B [(N0 + 20, some ⟨47, 5, encL rInstr l2⟩), (N0 + 26, some ⟨47, 5, encL rInstr l4⟩)] (N0 + 34)) rfl rfl fun a' ha => ?_
    refine hK6 _ _ ?_; rw [ha]
    refine AWP_ret ?_
    replace H := Option.some.inj H; subst H
    have e0 : N0 ≤ N0 + 20 := by omega
    have e1 : N0 ≤ N0 + 26 := by omega
    refine ⟨[.sl (N0 + 26) 0 l4.length], by simp [e0, e1], ?_, ?_⟩
    ·
     simp [encL_nil, e0, e1]
    ·
     intro o ho; exact lk_out (by simp; try omega)
   ·
    replace H := ifF C1 H
    refine AWP_skip ?_
    show K14 _ _
    refine keepE (l := [0, 1, 2]) (x := [(0, .sl (N0 + 26) 0 l4.length), (1, .int .i64 p0.Dst), (2, .int .i64 p1)]) rfl fun a' ha => ?_
    refine hK14 _ _ ?_; rw [ha]
    refine AWP_seqk [6] fun K17 hK17 => ?_
    obtain ⟨l5, hl5, H⟩ := bindE H
    have q2 : ∀ σ i, buildSliceA T 29 true i 1 [(0, .agg [.int .i64 16, .int .i64 0, .int .i64 2, .int .i64 7, .int .i64 (imul .i64 4 (isub .i64 p0.Dst p1))])] σ = some (.fsl (encL rInstr ([(⟨16, 0, 2, 7, imul .i64 4 (isub .i64 p0.Dst p1)⟩ : gInstr)] : List gInstr)), σ) := fun _ _ => rfl
    refine AWP_regl tok [6] ?_
    simp -dsimp -implicitDefEqProofs (maxDischargeDepth := 6) [q2, app29 hl5]
    refine keepE2 (l := [6]) (x := [(6, .sl (N0 + 39) 0 l5.length)]) (s := hp B [(N0 + 20, some ⟨47, 5, encL rInstr l2⟩), (N0 + 26, none), (N0 + 39, some ⟨47, 5, encL rInstr l5⟩)] (N0 + 41)) rfl rfl fun a' ha => ?_
    refine hK17 _ _ ?_; rw [ha]
    refine AWP_ret ?_
    have e0 : N0 ≤ N0 + 20 := by omega
    have e1 : N0 ≤ N0 + 26 := by omega
    have e2 : N0 ≤ N0 + 39 := by omega
    refine ⟨[.sl (N0 + 39) 0 l5.length], by simp [e0, e1, e2], ?_⟩
    simp -dsimp -implicitDefEqProofs (maxDischargeDepth := 6)
    refine keepE2 (l := [6]) (x := [(6, .sl (N0 + 39) 0 l5.length)]) (s := hp B [(N0 + 20, some ⟨47, 5, encL rInstr l2⟩), (N0 + 26, none), (N0 + 39, some ⟨47, 5, encL rInstr l5⟩)] (N0 + 41)) rfl rfl fun a' ha => ?_
    refine hK6 _ _ ?_; rw [ha]
    refine AWP_ret ?_
    replace H := Option.some.inj H; subst H
    have e0 : N0 ≤ N0 + 20 := by omega
    have e1 : N0 ≤ N0 + 26 := by omega
    have e2 : N0 ≤ N0 + 39 := by omega
    refine ⟨[.sl (N0 + 39) 0 l5.length], by simp [e0, e1, e2], ?_, ?_⟩
    ·
     simp [encL_nil, e0, e1, e2]
    ·
     intro o ho; exact lk_out (by simp; try omega)
  ·
   replace H := ifF C3 H
   refine AWP_skip ?_
   show K9 _ _
   refine keepE (l := [0, 1]) (x := [(0, .int .i64 r1), (1, .int .i64 p0.N)]) rfl fun a' ha => ?_
   refine hK9 _ _ ?_; rw [ha]
   refine AWP_seqk [0, 1, 5] fun K18 hK18 => ?_
   obtain ⟨r6, hr6, H⟩ := bindE H
   obtain ⟨r7, hr7, H⟩ := bindE H
   obtain ⟨r8, hr8, H⟩ := bindE H
   refine AWP_regl tok [] ?_
   simp -dsimp -implicitDefEqProofs (maxDischargeDepth := 6)
   refine (c131 hr6).app ?_; try simp -dsimp -implicitDefEqProofs (maxDischargeDepth := 6)
   refine (c130 hr7).app ?_; try simp -dsimp -implicitDefEqProofs (maxDischargeDepth := 6)
   refine (c129 hr8).app ?_; try simp -dsimp -implicitDefEqProofs (maxDischargeDepth := 6)
   refine keepE2 (l := [0, 1, 5]) (x := [(0, .int .i64 r1), (1, .int .i64 p0.N), (5, .int .i64 r8)]) (s := hp B [(N0 + 20, some ⟨47, 5, encL rInstr l2⟩)] (N0 + 28)) rfl rfl fun a' ha => ?_
   refine hK18 _ _ ?_; rw [ha]
   refine AWP_seqk [0, 5, 6] fun K19 hK19 => ?_
   obtain ⟨r9, hr9, H⟩ := bindE H
   obtain ⟨r10, hr10, H⟩ := bindE H
   obtain ⟨r11, hr11, H⟩ := bindE H
   refine AWP_regl tok [] ?_
   simp -dsimp -implicitDefEqProofs (maxDischargeDepth := 6)
   refine (c102 hr9).app ?_; try simp -dsimp -implicitDefEqProofs (maxDischargeDepth := 6)
   refine (c131 hr10).app ?_; try simp -dsimp -implicitDefEqProofs (maxDischargeDepth := 6)
   refine (c130 hr11).app ?_; try simp -dsimp -implicitDefEqProofs (maxDischargeDepth := 6)
   refine keepE2 (l := [0, 5, 6]) (x := [(0, .int .i64 r1), (5, .int .i64 r8), (6, .int .i64 r11)]) (s := hp B [(N0 + 20, some ⟨47, 5, encL rInstr l2⟩)] (N0 + 35)) rfl rfl fun a' ha => ?_
   refine hK19 _ _ ?_; rw [ha]
   refine AWP_seqk [0, 5, 7] fun K20 hK20 => ?_
   obtain ⟨l12, hl12, H⟩ := bindE H
   have q3 : ∀ σ i, buildSliceA T 29 false i 1 [(0, .agg [.int .i64 19, .int .i64 r1, .int .i64 0, .int .i64 0, .int .i64 r11])] σ = some (.sl i 0 (List.length l12), σ.put i ⟨47, 5, encL rInstr l12⟩) := by rw [← Option.some.inj hl12]; intro _ _; rfl
   refine AWP_regl tok [] ?_
   simp -dsimp -implicitDefEqProofs (maxDischargeDepth := 6) [q3]
   refine keepE2 (l := [0, 5, 7]) (x := [(0, .int .i64 r1), (5, .int .i64 r8), (7, .sl (N0 + 38) 0 l12.length)]) (s := hp B [(N0 + 20, some ⟨47, 5, encL rInstr l2⟩), (N0 + 38, some ⟨47, 5, encL rInstr l12⟩)] (N0 + 40)) rfl rfl fun a' ha => ?_
   refine hK20 _ _ ?_; rw [ha]
   refine AWP_seqk [4] fun K21 hK21 => ?_
   obtain ⟨l13, hl13, H⟩ := bindE H
   have q4 : ∀ σ i, buildSliceA T 29 true i 1 [(0, .agg [.int .i64 12, .int .i64 r1, .int .i64 r1, .int .i64 0, .int .i64 r8])] σ = some (.fsl (encL rInstr ([(⟨12, r1, r1, 0, r8⟩ : gInstr)] : List gInstr)), σ) := fun _ _ => rfl
   refine AWP_regl tok [5] ?_
   simp -dsimp -implicitDefEqProofs (maxDischargeDepth := 6) [q4, app29 hl13]
   refine keepE2 (l := [4]) (x := [(4, .sl (N0 + 46) 0 l13.length)]) (s := hp B [(N0 + 20, some ⟨47, 5, encL rInstr l2⟩), (N0 + 38, none), (N0 + 46, some ⟨47, 5, encL rInstr l13⟩)] (N0 + 48)) rfl rfl fun a' ha => ?_
   refine hK21 _ _ ?_; rw [ha]
   refine AWP_ret ?_
   have e0 : N0 ≤ N0 + 20 := by omega
   have e1 : N0 ≤ N0 + 38 := by omega
   have e2 : N0 ≤ N0 + 46 := by omega
   refine ⟨[.sl (N0 + 46) 0 l13.length], by simp [e0, e1, e2], ?_⟩
   simp -dsimp -implicitDefEqProofs (maxDischargeDepth := 6)
   refine ACalls_fn tok Tryd.func106 (by kernel_rfl) rfl Tryd.ntmps106 Tryd.results106 rfl ?_
   simp only [argsA, Nat.reduceAdd]
   refine AWP_seqk [0, 1, 2] fun K23 hK23 => ?_
   refine AWP_regl tok [] ?_
   simp -dsimp -implicitDefEqProofs (maxDischargeDepth := 6)
   refine keepE2 (l := [0, 1, 2]) (x := [(0, .sl (N0 + 46) 0 l13.length), (1, .int .i64 p0.Dst), (2, .int .i64 p1)]) (s := hp B [(N0 + 20, some ⟨47, 5, encL rInstr l2⟩), (N0 + 38, none), (N0 + 46, some ⟨47, 5, encL rInstr l13⟩)] (N0 + 49)) rfl rfl fun a' ha => ?_
   refine hK23 _ _ ?_; rw [ha]
   refine AWP_seqk [0, 1, 2] fun K24 hK24 => ?_
   refine AWP_seqk [0, 1, 2, 9] fun K25 hK25 => ?_
   refine AWP_regl tok [] ?_
   simp -dsimp -implicitDefEqProofs (maxDischargeDepth := 6)
   refine keepE2 (l := [0, 1, 2, 9]) (x := [(0, .sl (N0 + 46) 0 l13.length), (1, .int .i64 p0.Dst), (2, .int .i64 p1), (9, .bool (ilt p0.Dst p1))]) (s := hp B [(N0 + 20, some ⟨47, 5, encL rInstr l2⟩), (N0 + 38, none), (N0 + 46, some ⟨47, 5, encL rInstr l13⟩)] (N0 + 52)) rfl rfl fun a' ha => ?_
   refine hK25 _ _ ?_; rw [ha]
   refine AWP_cond (ilt p0.Dst p1) rfl (fun C2 => ?_) (fun C2 => ?_)
   ·
    replace H := ifT C2 H
    refine AWP_seqk [6] fun K26 hK26 => ?_
    refine AWP_regl tok [] ?_
    simp -dsimp -implicitDefEqProofs (maxDischargeDepth := 6)
    refine keepE2 (l := [6]) (x := [(6, .sl (N0 + 46) 0 l13.length)]) (s := hp B [(N0 + 20, some ⟨47, 5, encL rInstr l2⟩), (N0 + 38, none), (N0 + 46, some ⟨47, 5, encL rInstr l13⟩)] (N0 + 54)) rfl rfl fun a' ha => ?_
    refine hK26 _ _ ?_; rw [ha]
    refine AWP_ret ?_
    have e0 : N0 ≤ N0 + 20 := by omega
    have e1 : N0 ≤ N0 + 38 := by omega
    have e2 : N0 ≤ N0 + 46 := by omega
    refine ⟨[.sl (N0 + 46) 0 l13.length], by simp [e0, e1, e2], ?_⟩
    simp -dsimp -implicitDefEqProofs (maxDischargeDepth := 6)
    refine keepE2 (l := [6]) (x := [(6, .sl (N0 + 46) 0 l13.length)]) (s := hp B [(N0 + 20, some ⟨47, 5, encL rInstr l2⟩), (N0 + 38, none), (N0 + 46, some ⟨47, 5, encL rInstr l13⟩)] (N0 + 54)) rfl rfl fun a' ha => ?_
    refine hK6 _ _ ?_; rw [ha]
    refine AWP_ret ?_
    replace H := Option.some.inj H; subst H
    have e0 : N0 ≤ N0 + 20 := by omega
    have e1 : N0 ≤ N0 + 38 := by omega
    have e2 : N0 ≤ N0 + 46 := by omega
    refine ⟨[.sl (N0 + 46) 0 l13.length], by simp [e0, e1, e2], ?_, ?_⟩
    ·
     simp [encL_nil, e0, e1, e2]
    ·
     intro o ho; exact lk_out (by simp; try omega)
   ·
    replace H := ifF C2 H
    refine AWP_skip ?_
    show K24 _ _
    refine keepE (l := [0, 1, 2]) (x := [(0, .sl (N0 + 46) 0 l13.length), (1, .int .i64 p0.Dst), (2, .int .i64 p1)]) rfl fun a' ha => ?_
    refine hK24 _ _ ?_; rw [ha]
    refine AWP_seqk [6] fun K27 hK27 => ?_
    obtain ⟨l14, hl14, H⟩ := bindE H
    have q5 : ∀ σ i, buildSliceA T 29 true i 1 [(0, .agg [.int .i64 16, .int .i64 0, .int .i64 2, .int .i64 7, .int .i64 (imul .i64 4 (isub .i64 p0.Dst p1))])] σ = some (.fsl (encL rInstr ([(⟨16, 0, 2, 7, imul .i64 4 (isub .i64 p0.Dst p1)⟩ : gInstr)] : List gInstr)), σ) := fun _ _ => rfl
    refine AWP_regl tok [6] ?_
    simp -dsimp -implicitDefEqProofs (maxDischargeDepth := 6) [q5, app29 hl14]
    refine keepE2 (l := [6]) (x := [(6, .sl (N0 + 59) 0 l14.length)]) (s := hp B [(N0 + 20, some ⟨47, 5, encL rInstr l2⟩), (N0 + 38, none), (N0 + 46, none), (N0 + 59, some ⟨47, 5, encL rInstr l14⟩)] (N0 + 61)) rfl rfl fun a' ha => ?_
    refine hK27 _ _ ?_; rw [ha]
    refine AWP_ret ?_
    have e0 : N0 ≤ N0 + 20 := by omega
    have e1 : N0 ≤ N0 + 38 := by omega
    have e2 : N0 ≤ N0 + 46 := by omega
    have e3 : N0 ≤ N0 + 59 := by omega
    refine ⟨[.sl (N0 + 59) 0 l14.length], by simp [e0, e1, e2, e3], ?_⟩
    simp -dsimp -implicitDefEqProofs (maxDischargeDepth := 6)
    refine keepE2 (l := [6]) (x := [(6, .sl (N0 + 59) 0 l14.length)]) (s := hp B [(N0 + 20, some ⟨47, 5, encL rInstr l2⟩), (N0 + 38, none), (N0 + 46, none), (N0 + 59, some ⟨47, 5, encL rInstr l14⟩)] (N0 + 61)) rfl rfl fun a' ha => ?_
    refine hK6 _ _ ?_; rw [ha]
    refine AWP_ret ?_
    replace H := Option.some.inj H; subst H
    have e0 : N0 ≤ N0 + 20 := by omega
    have e1 : N0 ≤ N0 + 38 := by omega
    have e2 : N0 ≤ N0 + 46 := by omega
    have e3 : N0 ≤ N0 + 59 := by omega
    refine ⟨[.sl (N0 + 59) 0 l14.length], by simp [e0, e1, e2, e3], ?_, ?_⟩
    ·
     simp [encL_nil, e0, e1, e2, e3]
    ·
     intro o ho; exact lk_out (by simp; try omega)
 ·
  replace H := ifF C18 H
  refine AWP_seqk [1, 2, 3, 7, 14, 25] fun K28 hK28 => ?_
  refine AWP_regl tok [] ?_
  simp -dsimp -implicitDefEqProofs (maxDischargeDepth := 6)
  refine keepE2 (l := [1, 2, 3, 7, 14, 25]) (x := [(1, .int .i64 p1), (2, .int .i64 p2), (3, .fptr [.int .i64 p0.Op, .int .i64 p0.Dst, .int .i64 p0.A, .int .i64 p0.B, .int .i64 p0.N] 0), (7, .int .i64 r1), (14, .int .i64 p0.Op), (25, .bool (ieq p0.Op 2))]) (s := hp B [] (N0 + 13)) rfl rfl fun a' ha => ?_
  refine hK28 _ _ ?_; rw [ha]
  refine AWP_cond (ieq p0.Op 2) rfl (fun C17 => ?_) (fun C17 => ?_)
  ·
   replace H := ifT C17 H
   refine AWP_seqk [6] fun K29 hK29 => ?_
   refine AWP_drawl tok tokM [10] [3, 11, 15, 16] [0, 1, 2, 4, 5, 6, 7, 12, 13, 14, 3, 8, 9, 10, 11, 15, 16] (by decide) ?_
   simp only [pickL, nthO_succ, nthO_zero]
   simp -dsimp -implicitDefEqProofs (maxDischargeDepth := 6)
   refine ACalls_fn tok Tryd.func107 (by kernel_rfl) rfl Tryd.ntmps107 Tryd.results107 rfl ?_
   simp only [argsA, Nat.reduceAdd]
   refine AWP_seqk [0, 1, 2] fun K31 hK31 => ?_
   obtain ⟨l15, hl15, H⟩ := bindE H
   have q6 : ∀ σ i, nilA T 29 i .nilsl σ = some (.sl i 0 (List.length l15), σ.put i ⟨47, 5, encL rInstr l15⟩) := by rw [← Option.some.inj hl15]; intro _ _; rfl
   refine AWP_regl tok [0] ?_
   simp -dsimp -implicitDefEqProofs (maxDischargeDepth := 6) [q6]
   refine keepE2 (l := [0, 1, 2]) (x := [(0, .int .i64 p0.A), (1, .int .i64 p1), (2, .int .i64 5)]) (s := hp B [(N0 + 30, some ⟨47, 5, encL rInstr l15⟩)] (N0 + 31)) rfl rfl fun a' ha => ?_
   refine hK31 _ _ ?_; rw [ha]
   refine AWP_seqk [0, 1, 2] fun K32 hK32 => ?_
   refine AWP_seqk [0, 1, 2, 9] fun K33 hK33 => ?_
   refine AWP_regl tok [] ?_
   simp -dsimp -implicitDefEqProofs (maxDischargeDepth := 6)
   refine keepE2 (l := [0, 1, 2, 9]) (x := [(0, .int .i64 p0.A), (1, .int .i64 p1), (2, .int .i64 5), (9, .bool (ilt p0.A p1))]) (s := hp B [(N0 + 30, some ⟨47, 5, encL rInstr l15⟩)] (N0 + 34)) rfl rfl fun a' ha => ?_
   refine hK33 _ _ ?_; rw [ha]
   refine AWP_cond (ilt p0.A p1) rfl (fun C6 => ?_) (fun C6 => ?_)
   ·
    replace H := ifT C6 H
    refine AWP_seqk [6] fun K34 hK34 => ?_
    obtain ⟨l16, hl16, H⟩ := bindE H
    have q7 : ∀ σ i, buildSliceA T 29 false i 0 [] σ = some (.sl i 0 (List.length l16), σ.put i ⟨47, 5, encL rInstr l16⟩) := by rw [← Option.some.inj hl16]; intro _ _; rfl
    refine AWP_regl tok [] ?_
    simp -dsimp -implicitDefEqProofs (maxDischargeDepth := 6) [q7]
    refine keepE2 (l := [6]) (x := [(6, .sl (N0 + 34) 0 l16.length)]) (s := hp B [(N0 + 30, some ⟨47, 5, encL rInstr l15⟩), (N0 + 34, some ⟨47, 5, encL rInstr l16⟩)] (N0 + 36)) rfl rfl fun a' ha => ?_
    refine hK34 _ _ ?_; rw [ha]
    refine AWP_ret ?_
    have e0 : N0 ≤ N0 + 30 := by omega
    have e1 : N0 ≤ N0 + 34 := by omega
    refine ⟨[.sl (N0 + 34) 0 l16.length], by simp [e0, e1], ?_⟩
    obtain ⟨r17, hr17, H⟩ := bindE H
    obtain ⟨r18, hr18, H⟩ := bindE H
    obtain ⟨l19, hl19, H⟩ := bindE H
    have q8 : ∀ σ i, buildSliceA T 29 true i 1 [(0, .agg [.int .i64 r18.Op, .int .i64 r18.Rd, .int .i64 r18.Rs, .int .i64 r18.Rt, .int .i64 r18.Imm])] σ = some (.fsl (encL rInstr ([r18] : List gInstr)), σ) := fun _ _ => rfl
    simp -dsimp -implicitDefEqProofs (maxDischargeDepth := 6) [q8, app29 hl19]
    refine Pc.mk (c105 hr17) ?_; try simp -dsimp -implicitDefEqProofs (maxDischargeDepth := 6) [q8, app29 hl19]
    refine Pc.mk (c108 hr18) ?_; try simp -dsimp -implicitDefEqProofs (maxDischargeDepth := 6) [q8, app29 hl19]
    refine ACalls_fn tok Tryd.func106 (by kernel_rfl) rfl Tryd.ntmps106 Tryd.results106 rfl ?_
    simp only [argsA, Nat.reduceAdd]
    refine AWP_seqk [0, 1, 2] fun K36 hK36 => ?_
    refine AWP_regl tok [] ?_
    simp -dsimp -implicitDefEqProofs (maxDischargeDepth := 6)
    refine keepE2 (l := [0, 1, 2]) (x := [(0, .sl (N0 + 24) 0 l19.length), (1, .int .i64 p0.Dst), (2, .int .i64 p1)]) (s := hp B [(N0 + 30, some ⟨47, 5, encL rInstr l15⟩), (N0 + 34, none), (N0 + 24, some ⟨47, 5, encL rInstr l19⟩)] (N0 + 37)) rfl rfl fun a' ha => ?_
    refine hK36 _ _ ?_; rw [ha]
    refine AWP_seqk [0, 1, 2] fun K37 hK37 => ?_
    refine AWP_seqk [0, 1, 2, 9] fun K38 hK38 => ?_
    refine AWP_regl tok [] ?_
    simp -dsimp -implicitDefEqProofs (maxDischargeDepth := 6)
    refine keepE2 (l := [0, 1, 2, 9]) (x := [(0, .sl (N0 + 24) 0 l19.length), (1, .int .i64 p0.Dst), (2, .int .i64 p1), (9, .bool (ilt p0.Dst p1))]) (s := hp B [(N0 + 30, some ⟨47, 5, encL rInstr l15⟩), (N0 + 34, none), (N0 + 24, some ⟨47, 5, encL rInstr l19⟩)] (N0 + 40)) rfl rfl fun a' ha => ?_
    refine hK38 _ _ ?_; rw [ha]
    refine AWP_cond (ilt p0.Dst p1) rfl (fun C4 => ?_) (fun C4 => ?_)
    ·
     replace H := ifT C4 H
     refine AWP_seqk [6] fun K39 hK39 => ?_
     refine AWP_regl tok [] ?_
     simp -dsimp -implicitDefEqProofs (maxDischargeDepth := 6)
     refine keepE2 (l := [6]) (x := [(6, .sl (N0 + 24) 0 l19.length)]) (s := hp B [(N0 + 30, some ⟨47, 5, encL rInstr l15⟩), (N0 + 34, none), (N0 + 24, some ⟨47, 5, encL rInstr l19⟩)] (N0 + 42)) rfl rfl fun a' ha => ?_
     refine hK39 _ _ ?_; rw [ha]
     refine AWP_ret ?_
     have e0 : N0 ≤ N0 + 30 := by omega
     have e1 : N0 ≤ N0 + 34 := by omega
     have e2 : N0 ≤ N0 + 24 := by omega
     refine ⟨[.sl (N0 + 24) 0 l19.length], by simp [e0, e1, e2], ?_⟩
     simp -dsimp -implicitDefEqProofs (maxDischargeDepth := 6)
     refine keepE2 (l := [6]) (x := [(6, .sl (N0 + 24) 0 l19.length)]) (s := hp B [(N0 + 30, some ⟨47, 5, encL rInstr l15⟩), (N0 + 34, none), (N0 + 24, some ⟨47, 5, encL rInstr l19⟩)] (N0 + 42)) rfl rfl fun a' ha => ?_
     refine hK29 _ _ ?_; rw [ha]
     refine AWP_ret ?_
     replace H := Option.some.inj H; subst H
     have e0 : N0 ≤ N0 + 30 := by omega
     have e1 : N0 ≤ N0 + 34 := by omega
     have e2 : N0 ≤ N0 + 24 := by omega
     refine ⟨[.sl (N0 + 24) 0 l19.length], by simp [e0, e1, e2], ?_, ?_⟩
     ·
      simp [encL_nil, e0, e1, e2]
     ·
      intro o ho; exact lk_out (by simp; try omega)
    ·
     replace H := ifF C4 H
     refine AWP_skip ?_
     show K37 _ _
     refine keepE (l := [0, 1, 2]) (x := [(0, .sl (N0 + 24) 0 l19.length), (1, .int .i64 p0.Dst), (2, .int .i64 p1)]) rfl fun a' ha => ?_
     refine hK37 _ _ ?_; rw [ha]
     refine AWP_seqk [6] fun K40 hK40 => ?_
     obtain ⟨l20, hl20, H⟩ := bindE H
     have q9 : ∀ σ i, buildSliceA T 29 true i 1 [(0, .agg [.int .i64 16, .int .i64 0, .int .i64 2, .int .i64 7, .int .i64 (imul .i64 4 (isub .i64 p0.Dst p1))])] σ = some (.fsl (encL rInstr ([(⟨16, 0, 2, 7, imul .i64 4 (isub .i64 p0.Dst p1)⟩ : gInstr)] : List gInstr)), σ) := fun _ _ => rfl
     refine AWP_regl tok [6] ?_
     simp -dsimp -implicitDefEqProofs (maxDischargeDepth := 6) [q9, app29 hl20]
     refine keepE2 (l := [6]) (x := [(6, .sl (N0 + 47) 0 l20.length)]) (s := hp B [(N0 + 30, some ⟨47, 5, encL rInstr l15⟩), (N0 + 34, none), (N0 + 24, none), (N0 + 47, some ⟨47, 5, encL rInstr l20⟩)] (N0 + 49)) rfl rfl fun a' ha => ?_
     refine hK40 _ _ ?_; rw [ha]
     refine AWP_ret ?_
     have e0 : N0 ≤ N0 + 30 := by omega
     have e1 : N0 ≤ N0 + 34 := by omega
     have e2 : N0 ≤ N0 + 24 := by omega
     have e3 : N0 ≤ N0 + 47 := by omega
     refine ⟨[.sl (N0 + 47) 0 l20.length], by simp [e0, e1, e2, e3], ?_⟩
     simp -dsimp -implicitDefEqProofs (maxDischargeDepth := 6)
     refine keepE2 (l := [6]) (x := [(6, .sl (N0 + 47) 0 l20.length)]) (s := hp B [(N0 + 30, some ⟨47, 5, encL rInstr l15⟩), (N0 + 34, none), (N0 + 24, none), (N0 + 47, some ⟨47, 5, encL rInstr l20⟩)] (N0 + 49)) rfl rfl fun a' ha => ?_
     refine hK29 _ _ ?_; rw [ha]
     refine AWP_ret ?_
     replace H := Option.some.inj H; subst H
     have e0 : N0 ≤ N0 + 30 := by omega
     have e1 : N0 ≤ N0 + 34 := by omega
     have e2 : N0 ≤ N0 + 24 := by omega
     have e3 : N0 ≤ N0 + 47 := by omega
     refine ⟨[.sl (N0 + 47) 0 l20.length], by simp [e0, e1, e2, e3], ?_, ?_⟩
     ·
      simp [encL_nil, e0, e1, e2, e3]
     ·
      intro o ho; exact lk_out (by simp; try omega)
   ·
    replace H := ifF C6 H
    refine AWP_skip ?_
    show K32 _ _
    refine keepE (l := [0, 1, 2]) (x := [(0, .int .i64 p0.A), (1, .int .i64 p1), (2, .int .i64 5)]) rfl fun a' ha => ?_
    refine hK32 _ _ ?_; rw [ha]
    refine AWP_seqk [6] fun K41 hK41 => ?_
    obtain ⟨l21, hl21, H⟩ := bindE H
    have q10 : ∀ σ i, buildSliceA T 29 false i 1 [(0, .agg [.int .i64 14, .int .i64 5, .int .i64 2, .int .i64 0, .int .i64 (imul .i64 4 (isub .i64 p0.A p1))])] σ = some (.sl i 0 (List.length l21), σ.put i ⟨47, 5, encL rInstr l21⟩) := by rw [← Option.some.inj hl21]; intro _ _; rfl
    refine AWP_regl tok [] ?_
    simp -dsimp -implicitDefEqProofs (maxDischargeDepth := 6) [q10]
    refine keepE2 (l := [6]) (x := [(6, .sl (N0 + 40) 0 l21.length)]) (s := hp B [(N0 + 30, some ⟨47, 5, encL rInstr l15⟩), (N0 + 40, some ⟨47, 5, encL rInstr l21⟩)] (N0 + 42)) rfl rfl fun a' ha => ?_
    refine hK41 _ _ ?_; rw [ha]
    refine AWP_ret ?_
    have e0 : N0 ≤ N0 + 30 := by omega
    have e1 : N0 ≤ N0 + 40 := by omega
    refine ⟨[.sl (N0 + 40) 0 l21.length], by simp [e0, e1], ?_⟩
    obtain ⟨r22, hr22, H⟩ := bindE H
    obtain ⟨r23, hr23, H⟩ := bindE H
    obtain ⟨l24, hl24, H⟩ := bindE H
    have q11 : ∀ σ i, buildSliceA T 29 true i 1 [(0, .agg [.int .i64 r23.Op, .int .i64 r23.Rd, .int .i64 r23.Rs, .int .i64 r23.Rt, .int .i64 r23.Imm])] σ = some (.fsl (encL rInstr ([r23] : List gInstr)), σ) := fun _ _ => rfl
    simp -dsimp -implicitDefEqProofs (maxDischargeDepth := 6) [q11, app29 hl24]
    refine Pc.mk (c105 hr22) ?_; try simp -dsimp -implicitDefEqProofs (maxDischargeDepth := 6) [q11, app29 hl24]
    refine Pc.mk (c108 hr23) ?_; try simp -dsimp -implicitDefEqProofs (maxDischargeDepth := 6) [q11, app29 hl24]
    refine ACalls_fn tok Tryd.func106 (by kernel_rfl) rfl Tryd.ntmps106 Tryd.results106 rfl ?_
    simp only [argsA, Nat.reduceAdd]
    refine AWP_seqk [0, 1, 2] fun K43 hK43 => ?_
    refine AWP_regl tok [] ?_
    simp -dsimp -implicitDefEqProofs (maxDischargeDepth := 6)
    refine keepE2 (l := [0, 1, 2]) (x := [(0, .sl (N0 + 24) 0 l24.length), (1, .int .i64 p0.Dst), (2, .int .i64 p1)]) (s := hp B [(N0 + 30, some ⟨47, 5, encL rInstr l15⟩), (N0 + 40, none), (N0 + 24, some ⟨47, 5, encL rInstr l24⟩)] (N0 + 43)) rfl rfl fun a' ha => ?_
    refine hK43 _ _ ?_; rw [ha]
    refine AWP_seqk [0, 1, 2] fun K44 hK44 => ?_
    refine AWP_seqk [0, 1, 2, 9] fun K45 hK45 => ?_
    refine AWP_regl tok [] ?_
    simp -dsimp -implicitDefEqProofs (maxDischargeDepth := 6)
    refine keepE2 (l := [0, 1, 2, 9]) (x := [(0, .sl (N0 + 24) 0 l24.length), (1, .int .i64 p0.Dst), (2, .int .i64 p1), (9, .bool (ilt p0.Dst p1))]) (s := hp B [(N0 + 30, some ⟨47, 5, encL rInstr l15⟩), (N0 + 40, none), (N0 + 24, some ⟨47, 5, encL rInstr l24⟩)] (N0 + 46)) rfl rfl fun a' ha => ?_
    refine hK45 _ _ ?_; rw [ha]
    refine AWP_cond (ilt p0.Dst p1) rfl (fun C5 => ?_) (fun C5 => ?_)
    ·
     replace H := ifT C5 H
     refine AWP_seqk [6] fun K46 hK46 => ?_
     refine AWP_regl tok [] ?_
     simp -dsimp -implicitDefEqProofs (maxDischargeDepth := 6)
     refine keepE2 (l := [6]) (x := [(6, .sl (N0 + 24) 0 l24.length)]) (s := hp B [(N0 + 30, some ⟨47, 5, encL rInstr l15⟩), (N0 + 40, none), (N0 + 24, some ⟨47, 5, encL rInstr l24⟩)] (N0 + 48)) rfl rfl fun a' ha => ?_
     refine hK46 _ _ ?_; rw [ha]
     refine AWP_ret ?_
     have e0 : N0 ≤ N0 + 30 := by omega
     have e1 : N0 ≤ N0 + 40 := by omega
     have e2 : N0 ≤ N0 + 24 := by omega
     refine ⟨[.sl (N0 + 24) 0 l24.length], by simp [e0, e1, e2], ?_⟩
     simp -dsimp -implicitDefEqProofs (maxDischargeDepth := 6)
     refine keepE2 (l := [6]) (x := [(6, .sl (N0 + 24) 0 l24.length)]) (s := hp B [(N0 + 30, some ⟨47, 5, encL rInstr l15⟩), (N0 + 40, none), (N0 + 24, some ⟨47, 5, encL rInstr l24⟩)] (N0 + 48)) rfl rfl fun a' ha => ?_
     refine hK29 _ _ ?_; rw [ha]
     refine AWP_ret ?_
     replace H := Option.some.inj H; subst H
     have e0 : N0 ≤ N0 + 30 := by omega
     have e1 : N0 ≤ N0 + 40 := by omega
     have e2 : N0 ≤ N0 + 24 := by omega
     refine ⟨[.sl (N0 + 24) 0 l24.length], by simp [e0, e1, e2], ?_, ?_⟩
     ·
      simp [encL_nil, e0, e1, e2]
     ·
      intro o ho; exact lk_out (by simp; try omega)
    ·
     replace H := ifF C5 H
     refine AWP_skip ?_
     show K44 _ _
     refine keepE (l := [0, 1, 2]) (x := [(0, .sl (N0 + 24) 0 l24.length), (1, .int .i64 p0.Dst), (2, .int .i64 p1)]) rfl fun a' ha => ?_
     refine hK44 _ _ ?_; rw [ha]
     refine AWP_seqk [6] fun K47 hK47 => ?_
     obtain ⟨l25, hl25, H⟩ := bindE H
     have q12 : ∀ σ i, buildSliceA T 29 true i 1 [(0, .agg [.int .i64 16, .int .i64 0, .int .i64 2, .int .i64 7, .int .i64 (imul .i64 4 (isub .i64 p0.Dst p1))])] σ = some (.fsl (encL rInstr ([(⟨16, 0, 2, 7, imul .i64 4 (isub .i64 p0.Dst p1)⟩ : gInstr)] : List gInstr)), σ) := fun _ _ => rfl
     refine AWP_regl tok [6] ?_
     simp -dsimp -implicitDefEqProofs (maxDischargeDepth := 6) [q12, app29 hl25]
     refine keepE2 (l := [6]) (x := [(6, .sl (N0 + 53) 0 l25.length)]) (s := hp B [(N0 + 30, some ⟨47, 5, encL rInstr l15⟩), (N0 + 40, none), (N0 + 24, none), (N0 + 53, some ⟨47, 5, encL rInstr l25⟩)] (N0 + 55)) rfl rfl fun a' ha => ?_
     refine hK47 _ _ ?_; rw [ha]
     refine AWP_ret ?_
     have e0 : N0 ≤ N0 + 30 := by omega
     have e1 : N0 ≤ N0 + 40 := by omega
     have e2 : N0 ≤ N0 + 24 := by omega
     have e3 : N0 ≤ N0 + 53 := by omega
     refine ⟨[.sl (N0 + 53) 0 l25.length], by simp [e0, e1, e2, e3], ?_⟩
     simp -dsimp -implicitDefEqProofs (maxDischargeDepth := 6)
     refine keepE2 (l := [6]) (x := [(6, .sl (N0 + 53) 0 l25.length)]) (s := hp B [(N0 + 30, some ⟨47, 5, encL rInstr l15⟩), (N0 + 40, none), (N0 + 24, none), (N0 + 53, some ⟨47, 5, encL rInstr l25⟩)] (N0 + 55)) rfl rfl fun a' ha => ?_
     refine hK29 _ _ ?_; rw [ha]
     refine AWP_ret ?_
     replace H := Option.some.inj H; subst H
     have e0 : N0 ≤ N0 + 30 := by omega
     have e1 : N0 ≤ N0 + 40 := by omega
     have e2 : N0 ≤ N0 + 24 := by omega
     have e3 : N0 ≤ N0 + 53 := by omega
     refine ⟨[.sl (N0 + 53) 0 l25.length], by simp [e0, e1, e2, e3], ?_, ?_⟩
     ·
      simp [encL_nil, e0, e1, e2, e3]
     ·
      intro o ho; exact lk_out (by simp; try omega)
  ·
   replace H := ifF C17 H
   refine AWP_seqk [1, 2, 3, 7, 14, 43] fun K48 hK48 => ?_
   refine AWP_regl tok [] ?_
   simp -dsimp -implicitDefEqProofs (maxDischargeDepth := 6)
   refine keepE2 (l := [1, 2, 3, 7, 14, 43]) (x := [(1, .int .i64 p1), (2, .int .i64 p2), (3, .fptr [.int .i64 p0.Op, .int .i64 p0.Dst, .int .i64 p0.A, .int .i64 p0.B, .int .i64 p0.N] 0), (7, .int .i64 r1), (14, .int .i64 p0.Op), (43, .bool (ieq p0.Op 3))]) (s := hp B [] (N0 + 15)) rfl rfl fun a' ha => ?_
   refine hK48 _ _ ?_; rw [ha]
   refine AWP_cond (ieq p0.Op 3) rfl (fun C16 => ?_) (fun C16 => ?_)
   ·
    replace H := ifT C16 H
    refine AWP_seqk [6] fun K49 hK49 => ?_
    obtain ⟨r26, hr26, H⟩ := bindE H
    refine AWP_regl tok [] ?_
    simp -dsimp -implicitDefEqProofs (maxDischargeDepth := 6)
    refine (c109 hr26).app ?_; try simp -dsimp -implicitDefEqProofs (maxDischargeDepth := 6)
    refine keepE2 (l := [6]) (x := [(6, .fsl (encL rInstr r26))]) (s := hp B [] (N0 + 19)) rfl rfl fun a' ha => ?_
    refine hK49 _ _ ?_; rw [ha]
    refine AWP_ret ?_
    replace H := Option.some.inj H; subst H
    refine ⟨[.fsl (encL rInstr r26)], by simp, ?_, ?_⟩
    ·
     simp [encL_nil]
    ·
     intro o ho; exact lk_out (by simp; try omega)
   ·
    replace H := ifF C16 H
    refine AWP_seqk [1, 2, 3, 7, 14, 48] fun K50 hK50 => ?_
    refine AWP_regl tok [] ?_
    simp -dsimp -implicitDefEqProofs (maxDischargeDepth := 6)
    refine keepE2 (l := [1, 2, 3, 7, 14, 48]) (x := [(1, .int .i64 p1), (2, .int .i64 p2), (3, .fptr [.int .i64 p0.Op, .int .i64 p0.Dst, .int .i64 p0.A, .int .i64 p0.B, .int .i64 p0.N] 0), (7, .int .i64 r1), (14, .int .i64 p0.Op), (48, .bool (ieq p0.Op 4))]) (s := hp B [] (N0 + 17)) rfl rfl fun a' ha => ?_
    refine hK50 _ _ ?_; rw [ha]
    refine AWP_cond (ieq p0.Op 4) rfl (fun C15 => ?_) (fun C15 => ?_)
    ·
     replace H := ifT C15 H
     refine AWP_seqk [6] fun K51 hK51 => ?_
     have q13 : ∀ σ i, buildSliceA T 29 true i 1 [(0, .agg [.int .i64 20, .int .i64 0, .int .i64 0, .int .i64 0, .int .i64 p2])] σ = some (.fsl (encL rInstr ([(⟨20, 0, 0, 0, p2⟩ : gInstr)] : List gInstr)), σ) := fun _ _ => rfl
     refine AWP_regl tok [2] ?_
     simp -dsimp -implicitDefEqProofs (maxDischargeDepth := 6) [q13]
     refine keepE2 (l := [6]) (x := [(6, .fsl (encL rInstr ([(⟨20, 0, 0, 0, p2⟩ : gInstr)] : List gInstr)))]) (s := hp B [] (N0 + 21)) rfl rfl fun a' ha => ?_
     refine hK51 _ _ ?_; rw [ha]
     refine AWP_ret ?_
     replace H := Option.some.inj H; subst H
     refine ⟨[.fsl (encL rInstr ([(⟨20, 0, 0, 0, p2⟩ : gInstr)] : List gInstr))], by simp, ?_, ?_⟩
     ·
      simp [encL_nil]
     ·
      intro o ho; exact lk_out (by simp; try omega)
    ·
     replace H := ifF C15 H
     refine AWP_seqk [1, 2, 3, 7, 14, 53] fun K52 hK52 => ?_
     refine AWP_regl tok [] ?_
     simp -dsimp -implicitDefEqProofs (maxDischargeDepth := 6)
     refine keepE2 (l := [1, 2, 3, 7, 14, 53]) (x := [(1, .int .i64 p1), (2, .int .i64 p2), (3, .fptr [.int .i64 p0.Op, .int .i64 p0.Dst, .int .i64 p0.A, .int .i64 p0.B, .int .i64 p0.N] 0), (7, .int .i64 r1), (14, .int .i64 p0.Op), (53, .bool (ieq p0.Op 5))]) (s := hp B [] (N0 + 19)) rfl rfl fun a' ha => ?_
     refine hK52 _ _ ?_; rw [ha]
     refine AWP_cond (ieq p0.Op 5) rfl (fun C14 => ?_) (fun C14 => ?_)
     ·
      replace H := ifT C14 H
      refine AWP_seqk [6] fun K53 hK53 => ?_
      obtain ⟨r27, hr27, H⟩ := bindE H
      refine AWP_regl tok [] ?_
      simp -dsimp -implicitDefEqProofs (maxDischargeDepth := 6)
      refine (c110 hr27).app ?_; try simp -dsimp -implicitDefEqProofs (maxDischargeDepth := 6)
      refine keepE2 (l := [6]) (x := [(6, .fsl (encL rInstr r27))]) (s := hp B [] (N0 + 24)) rfl rfl fun a' ha => ?_
      refine hK53 _ _ ?_; rw [ha]
      refine AWP_ret ?_
      replace H := Option.some.inj H; subst H
      refine ⟨[.fsl (encL rInstr r27)], by simp, ?_, ?_⟩
      ·
       simp [encL_nil]
      ·
       intro o ho; exact lk_out (by simp; try omega)
     ·
      replace H := ifF C14 H
      refine AWP_seqk [1, 3, 7, 14, 59] fun K54 hK54 => ?_
      refine AWP_regl tok [] ?_
      simp -dsimp -implicitDefEqProofs (maxDischargeDepth := 6)
      refine keepE2 (l := [1, 3, 7, 14, 59]) (x := [(1, .int .i64 p1), (3, .fptr [.int .i64 p0.Op, .int .i64 p0.Dst, .int .i64 p0.A, .int .i64 p0.B, .int .i64 p0.N] 0), (7, .int .i64 r1), (14, .int .i64 p0.Op), (59, .bool (ieq p0.Op 6))]) (s := hp B [] (N0 + 21)) rfl rfl fun a' ha => ?_
      refine hK54 _ _ ?_; rw [ha]
      refine AWP_cond (ieq p0.Op 6) rfl (fun C13 => ?_) (fun C13 => ?_)
      ·
       replace H := ifT C13 H
       refine AWP_seqk [6] fun K55 hK55 => ?_
       refine AWP_drawl tok tokM [7] [3, 8, 9, 10] [0, 1, 2, 4, 5, 3, 6, 7, 8, 9, 10] (by decide) ?_
       simp only [pickL, nthO_succ, nthO_zero]
       simp -dsimp -implicitDefEqProofs (maxDischargeDepth := 6)
       refine ACalls_fn tok Tryd.func112 (by kernel_rfl) rfl Tryd.ntmps112 Tryd.results112 rfl ?_
       simp only [argsA, Nat.reduceAdd]
       refine AWP_seqk [0, 1] fun K57 hK57 => ?_
       obtain ⟨l28, hl28, H⟩ := bindE H
       have q14 : ∀ σ i, nilA T 29 i .nilsl σ = some (.sl i 0 (List.length l28), σ.put i ⟨47, 5, encL rInstr l28⟩) := by rw [← Option.some.inj hl28]; intro _ _; rfl
       refine AWP_regl tok [0] ?_
       simp -dsimp -implicitDefEqProofs (maxDischargeDepth := 6) [q14]
       refine keepE2 (l := [0, 1]) (x := [(0, .int .i64 p0.A), (1, .int .i64 p1)]) (s := hp B [(N0 + 32, some ⟨47, 5, encL rInstr l28⟩)] (N0 + 33)) rfl rfl fun a' ha => ?_
       refine hK57 _ _ ?_; rw [ha]
       refine AWP_seqk [4] fun K58 hK58 => ?_
       refine AWP_regl tok [7] ?_
       simp -dsimp -implicitDefEqProofs (maxDischargeDepth := 6)
       refine ACalls_fn tok Tryd.func107 (by kernel_rfl) rfl Tryd.ntmps107 Tryd.results107 rfl ?_
       simp only [argsA, Nat.reduceAdd]
       refine AWP_seqk [0, 1, 2] fun K60 hK60 => ?_
       obtain ⟨l29, hl29, H⟩ := bindE H
       have q15 : ∀ σ i, nilA T 29 i .nilsl σ = some (.sl i 0 (List.length l29), σ.put i ⟨47, 5, encL rInstr l29⟩) := by rw [← Option.some.inj hl29]; intro _ _; rfl
       refine AWP_regl tok [0] ?_
       simp -dsimp -implicitDefEqProofs (maxDischargeDepth := 6) [q15]
       refine keepE2 (l := [0, 1, 2]) (x := [(0, .int .i64 p0.A), (1, .int .i64 p1), (2, .int .i64 5)]) (s := hp B [(N0 + 32, some ⟨47, 5, encL rInstr l28⟩), (N0 + 43, some ⟨47, 5, encL rInstr l29⟩)] (N0 + 44)) rfl rfl fun a' ha => ?_
       refine hK60 _ _ ?_; rw [ha]
       refine AWP_seqk [0, 1, 2] fun K61 hK61 => ?_
       refine AWP_seqk [0, 1, 2, 9] fun K62 hK62 => ?_
       refine AWP_regl tok [] ?_
       simp -dsimp -implicitDefEqProofs (maxDischargeDepth := 6)
       refine keepE2 (l := [0, 1, 2, 9]) (x := [(0, .int .i64 p0.A), (1, .int .i64 p1), (2, .int .i64 5), (9, .bool (ilt p0.A p1))]) (s := hp B [(N0 + 32, some ⟨47, 5, encL rInstr l28⟩), (N0 + 43, some ⟨47, 5, encL rInstr l29⟩)] (N0 + 47)) rfl rfl fun a' ha => ?_
       refine hK62 _ _ ?_; rw [ha]
       refine AWP_cond (ilt p0.A p1) rfl (fun C7 => ?_) (fun C7 => ?_)
       ·
        replace H := ifT C7 H
        refine AWP_seqk [6] fun K63 hK63 => ?_
        obtain ⟨l30, hl30, H⟩ := bindE H
        have q16 : ∀ σ i, buildSliceA T 29 false i 0 [] σ = some (.sl i 0 (List.length l30), σ.put i ⟨47, 5, encL rInstr l30⟩) := by rw [← Option.some.inj hl30]; intro _ _; rfl
        refine AWP_regl tok [] ?_
        simp -dsimp -implicitDefEqProofs (maxDischargeDepth := 6) [q16]
        refine keepE2 (l := [6]) (x := [(6, .sl (N0 + 47) 0 l30.length)]) (s := hp B [(N0 + 32, some ⟨47, 5, encL rInstr l28⟩), (N0 + 43, some ⟨47, 5, encL rInstr l29⟩), (N0 + 47, some ⟨47, 5, encL rInstr l30⟩)] (N0 + 49)) rfl rfl fun a' ha => ?_
        refine hK63 _ _ ?_; rw [ha]
        refine AWP_ret ?_
        have e0 : N0 ≤ N0 + 32 := by omega
        have e1 : N0 ≤ N0 + 43 := by omega
        have e2 : N0 ≤ N0 + 47 := by omega
        refine ⟨[.sl (N0 + 47) 0 l30.length], by simp [e0, e1, e2], ?_⟩
        obtain ⟨r31, hr31, H⟩ := bindE H
        obtain ⟨r32, hr32, H⟩ := bindE H
        obtain ⟨l33, hl33, H⟩ := bindE H
        have q17 : ∀ σ i, buildSliceA T 29 true i 1 [(0, .agg [.int .i64 r32.Op, .int .i64 r32.Rd, .int .i64 r32.Rs, .int .i64 r32.Rt, .int .i64 r32.Imm])] σ = some (.fsl (encL rInstr ([r32] : List gInstr)), σ) := fun _ _ => rfl
        simp -dsimp -implicitDefEqProofs (maxDischargeDepth := 6) [q17, app29 hl33]
        refine (c105 hr31).app ?_; try simp -dsimp -implicitDefEqProofs (maxDischargeDepth := 6) [q17, app29 hl33]
        refine (c108 hr32).app ?_; try simp -dsimp -implicitDefEqProofs (maxDischargeDepth := 6) [q17, app29 hl33]
        refine keepE2 (l := [4]) (x := [(4, .sl (N0 + 41) 0 l33.length)]) (s := hp B [(N0 + 32, some ⟨47, 5, encL rInstr l28⟩), (N0 + 43, some ⟨47, 5, encL rInstr l29⟩), (N0 + 47, none), (N0 + 41, some ⟨47, 5, encL rInstr l33⟩)] (N0 + 49)) rfl rfl fun a' ha => ?_
        refine hK58 _ _ ?_; rw [ha]
        refine AWP_ret ?_
        have e0 : N0 ≤ N0 + 32 := by omega
        have e1 : N0 ≤ N0 + 43 := by omega
        have e2 : N0 ≤ N0 + 47 := by omega
        have e3 : N0 ≤ N0 + 41 := by omega
        refine ⟨[.sl (N0 + 41) 0 l33.length], by simp [e0, e1, e2, e3], ?_⟩
        obtain ⟨r34, hr34, H⟩ := bindE H
        obtain ⟨l35, hl35, H⟩ := bindE H
        have q18 : ∀ σ i, buildSliceA T 29 true i 1 [(0, .agg [.int .i64 r34.Op, .int .i64 r34.Rd, .int .i64 r34.Rs, .int .i64 r34.Rt, .int .i64 r34.Imm])] σ = some (.fsl (encL rInstr ([r34] : List gInstr)), σ) := fun _ _ => rfl
        simp -dsimp -implicitDefEqProofs (maxDischargeDepth := 6) [q18, app29 hl35]
        refine Pc.mk (c113 hr34) ?_; try simp -dsimp -implicitDefEqProofs (maxDischargeDepth := 6) [q18, app29 hl35]
        refine ACalls_fn tok Tryd.func111 (by kernel_rfl) rfl Tryd.ntmps111 Tryd.results111 rfl ?_
        simp only [argsA, Nat.reduceAdd]
        refine AWP_seqk [0, 1] fun K65 hK65 => ?_
        refine AWP_regl tok [] ?_
        simp -dsimp -implicitDefEqProofs (maxDischargeDepth := 6)
        refine keepE2 (l := [0, 1]) (x := [(0, .sl (N0 + 29) 0 l35.length), (1, .int .i64 1)]) (s := hp B [(N0 + 32, some ⟨47, 5, encL rInstr l28⟩), (N0 + 43, some ⟨47, 5, encL rInstr l29⟩), (N0 + 47, none), (N0 + 41, none), (N0 + 29, some ⟨47, 5, encL rInstr l35⟩)] (N0 + 50)) rfl rfl fun a' ha => ?_
        refine hK65 _ _ ?_; rw [ha]
        refine AWP_seqk [0] fun K66 hK66 => ?_
        obtain ⟨l36, hl36, H⟩ := bindE H
        have q19 : ∀ σ i, buildSliceA T 29 true i 1 [(0, .agg [.int .i64 12, .int .i64 17, .int .i64 0, .int .i64 0, .int .i64 1])] σ = some (.fsl (encL rInstr ([(⟨12, 17, 0, 0, 1⟩ : gInstr)] : List gInstr)), σ) := fun _ _ => rfl
        refine AWP_regl tok [3] ?_
        simp -dsimp -implicitDefEqProofs (maxDischargeDepth := 6) [q19, app29 hl36]
        refine keepE2 (l := [0]) (x := [(0, .sl (N0 + 54) 0 l36.length)]) (s := hp B [(N0 + 32, some ⟨47, 5, encL rInstr l28⟩), (N0 + 43, some ⟨47, 5, encL rInstr l29⟩), (N0 + 47, none), (N0 + 41, none), (N0 + 29, none), (N0 + 54, some ⟨47, 5, encL rInstr l36⟩)] (N0 + 56)) rfl rfl fun a' ha => ?_
        refine hK66 _ _ ?_; rw [ha]
        refine AWP_seqk [4] fun K67 hK67 => ?_
        obtain ⟨l37, hl37, H⟩ := bindE H
        have q20 : ∀ σ i, buildSliceA T 29 true i 1 [(0, .agg [.int .i64 15, .int .i64 1, .int .i64 0, .int .i64 0, .int .i64 0])] σ = some (.fsl (encL rInstr ([(⟨15, 1, 0, 0, 0⟩ : gInstr)] : List gInstr)), σ) := fun _ _ => rfl
        refine AWP_regl tok [2] ?_
        simp -dsimp -implicitDefEqProofs (maxDischargeDepth := 6) [q20, app29 hl37]
        refine keepE2 (l := [4]) (x := [(4, .sl (N0 + 59) 0 l37.length)]) (s := hp B [(N0 + 32, some ⟨47, 5, encL rInstr l28⟩), (N0 + 43, some ⟨47, 5, encL rInstr l29⟩), (N0 + 47, none), (N0 + 41, none), (N0 + 29, none), (N0 + 54, none), (N0 + 59, some ⟨47, 5, encL rInstr l37⟩)] (N0 + 61)) rfl rfl fun a' ha => ?_
        refine hK67 _ _ ?_; rw [ha]
        refine AWP_ret ?_
        have e0 : N0 ≤ N0 + 32 := by omega
        have e1 : N0 ≤ N0 + 43 := by omega
        have e2 : N0 ≤ N0 + 47 := by omega
        have e3 : N0 ≤ N0 + 41 := by omega
        have e4 : N0 ≤ N0 + 29 := by omega
        have e5 : N0 ≤ N0 + 54 := by omega
        have e6 : N0 ≤ N0 + 59 := by omega
        refine ⟨[.sl (N0 + 59) 0 l37.length], by simp [e0, e1, e2, e3, e4, e5, e6], ?_⟩
        simp -dsimp -implicitDefEqProofs (maxDischargeDepth := 6)
        refine keepE2 (l := [6]) (x := [(6, .sl (N0 + 59) 0 l37.length)]) (s := hp B [(N0 + 32, some ⟨47, 5, encL rInstr l28⟩), (N0 + 43, some ⟨47, 5, encL rInstr l29⟩), (N0 + 47, none), (N0 + 41, none), (N0 + 29, none), (N0 + 54, none), (N0 + 59, some ⟨47, 5, encL rInstr l37⟩)] (N0 + 61)) rfl rfl fun a' ha => ?_
        refine hK55 _ _ ?_; rw [ha]
        refine AWP_ret ?_
        replace H := Option.some.inj H; subst H
        have e0 : N0 ≤ N0 + 32 := by omega
        have e1 : N0 ≤ N0 + 43 := by omega
        have e2 : N0 ≤ N0 + 47 := by omega
        have e3 : N0 ≤ N0 + 41 := by omega
        have e4 : N0 ≤ N0 + 29 := by omega
        have e5 : N0 ≤ N0 + 54 := by omega
        have e6 : N0 ≤ N0 + 59 := by omega
        refine ⟨[.sl (N0 + 59) 0 l37.length], by simp [e0, e1, e2, e3, e4, e5, e6], ?_, ?_⟩
        ·
         simp [encL_nil, e0, e1, e2, e3, e4, e5, e6]
        ·
         intro o ho; exact lk_out (by simp; try omega)
       ·
        replace H := ifF C7 H
        refine AWP_skip ?_
        show K61 _ _
        refine keepE (l := [0, 1, 2]) (x := [(0, .int .i64 p0.A), (1, .int .i64 p1), (2, .int .i64 5)]) rfl fun a' ha => ?_
        refine hK61 _ _ ?_; rw [ha]
        refine AWP_seqk [6] fun K68 hK68 => ?_
        obtain ⟨l38, hl38, H⟩ := bindE H
        have q21 : ∀ σ i, buildSliceA T 29 false i 1 [(0, .agg [.int .i64 14, .int .i64 5, .int .i64 2, .int .i64 0, .int .i64 (imul .i64 4 (isub .i64 p0.A p1))])] σ = some (.sl i 0 (List.length l38), σ.put i ⟨47, 5, encL rInstr l38⟩) := by rw [← Option.some.inj hl38]; intro _ _; rfl
        refine AWP_regl tok [] ?_
        simp -dsimp -implicitDefEqProofs (maxDischargeDepth := 6) [q21]
        refine keepE2 (l := [6]) (x := [(6, .sl (N0 + 53) 0 l38.length)]) (s := hp B [(N0 + 32, some ⟨47, 5, encL rInstr l28⟩), (N0 + 43, some ⟨47, 5, encL rInstr l29⟩), (N0 + 53, some ⟨47, 5, encL rInstr l38⟩)] (N0 + 55)) rfl rfl fun a' ha => ?_
        refine hK68 _ _ ?_; rw [ha]
        refine AWP_ret ?_
        have e0 : N0 ≤ N0 + 32 := by omega
        have e1 : N0 ≤ N0 + 43 := by omega
        have e2 : N0 ≤ N0 + 53 := by omega
        refine ⟨[.sl (N0 + 53) 0 l38.length], by simp [e0, e1, e2], ?_⟩
        obtain ⟨r39, hr39, H⟩ := bindE H
        obtain ⟨r40, hr40, H⟩ := bindE H
        obtain ⟨l41, hl41, H⟩ := bindE H
        have q22 : ∀ σ i, buildSliceA T 29 true i 1 [(0, .agg [.int .i64 r40.Op, .int .i64 r40.Rd, .int .i64 r40.Rs, .int .i64 r40.Rt, .int .i64 r40.Imm])] σ = some (.fsl (encL rInstr ([r40] : List gInstr)), σ) := fun _ _ => rfl
        simp -dsimp -implicitDefEqProofs (maxDischargeDepth := 6) [q22, app29 hl41]
        refine (c105 hr39).app ?_; try simp -dsimp -implicitDefEqProofs (maxDischargeDepth := 6) [q22, app29 hl41]
        refine (c108 hr40).app ?_; try simp -dsimp -implicitDefEqProofs (maxDischargeDepth := 6) [q22, app29 hl41]
        refine keepE2 (l := [4]) (x := [(4, .sl (N0 + 41) 0 l41.length)]) (s := hp B [(N0 + 32, some ⟨47, 5, encL rInstr l28⟩), (N0 + 43, some ⟨47, 5, encL rInstr l29⟩), (N0 + 53, none), (N0 + 41, some ⟨47, 5, encL rInstr l41⟩)] (N0 + 55)) rfl rfl fun a' ha => ?_
        refine hK58 _ _ ?_; rw [ha]
        refine AWP_ret ?_
        have e0 : N0 ≤ N0 + 32 := by omega
        have e1 : N0 ≤ N0 + 43 := by omega
        have e2 : N0 ≤ N0 + 53 := by omega
        have e3 : N0 ≤ N0 + 41 := by omega
        refine ⟨[.sl (N0 + 41) 0 l41.length], by simp [e0, e1, e2, e3], ?_⟩
        obtain ⟨r42, hr42, H⟩ := bindE H
        obtain ⟨l43, hl43, H⟩ := bindE H
        have q23 : ∀ σ i, buildSliceA T 29 true i 1 [(0, .agg [.int .i64 r42.Op, .int .i64 r42.Rd, .int .i64 r42.Rs, .int .i64 r42.Rt, .int .i64 r42.Imm])] σ = some (.fsl (encL rInstr ([r42] : List gInstr)), σ) := fun _ _ => rfl
        simp -dsimp -implicitDefEqProofs (maxDischargeDepth := 6) [q23, app29 hl43]
        refine Pc.mk (c113 hr42) ?_; try simp -dsimp -implicitDefEqProofs (maxDischargeDepth := 6) [q23, app29 hl43]
        refine ACalls_fn tok Tryd.func111 (by kernel_rfl) rfl Tryd.ntmps111 Tryd.results111 rfl ?_
        simp only [argsA, Nat.reduceAdd]
        refine AWP_seqk [0, 1] fun K70 hK70 => ?_
        refine AWP_regl tok [] ?_
        simp -dsimp -implicitDefEqProofs (maxDischargeDepth := 6)
        refine keepE2 (l := [0, 1]) (x := [(0, .sl (N0 + 29) 0 l43.length), (1, .int .i64 1)]) (s := hp B [(N0 + 32, some ⟨47, 5, encL rInstr l28⟩), (N0 + 43, some ⟨47, 5, encL rInstr l29⟩), (N0 + 53, none), (N0 + 41, none), (N0 + 29, some ⟨47, 5, encL rInstr l43⟩)] (N0 + 56)) rfl rfl fun a' ha => ?_
        refine hK70 _ _ ?_; rw [ha]
        refine AWP_seqk [0] fun K71 hK71 => ?_
        obtain ⟨l44, hl44, H⟩ := bindE H
        have q24 : ∀ σ i, buildSliceA T 29 true i 1 [(0, .agg [.int .i64 12, .int .i64 17, .int .i64 0, .int .i64 0, .int .i64 1])] σ = some (.fsl (encL rInstr ([(⟨12, 17, 0, 0, 1⟩ : gInstr)] : List gInstr)), σ) := fun _ _ => rfl
        refine AWP_regl tok [3] ?_
        simp -dsimp -implicitDefEqProofs (maxDischargeDepth := 6) [q24, app29 hl44]
        refine keepE2 (l := [0]) (x := [(0, .sl (N0 + 60) 0 l44.length)]) (s := hp B [(N0 + 32, some ⟨47, 5, encL rInstr l28⟩), (N0 + 43, some ⟨47, 5, encL rInstr l29⟩), (N0 + 53, none), (N0 + 41, none), (N0 + 29, none), (N0 + 60, some ⟨47, 5, encL rInstr l44⟩)] (N0 + 62)) rfl rfl fun a' ha => ?_
        refine hK71 _ _ ?_; rw [ha]
        refine AWP_seqk [4] fun K72 hK72 => ?_
        obtain ⟨l45, hl45, H⟩ := bindE H
        have q25 : ∀ σ i, buildSliceA T 29 true i 1 [(0, .agg [.int .i64 15, .int .i64 1, .int .i64 0, .int .i64 0, .int .i64 0])] σ = some (.fsl (encL rInstr ([(⟨15, 1, 0, 0, 0⟩ : gInstr)] : List gInstr)), σ) := fun _ _ => rfl
        refine AWP_regl tok [2] ?_
        simp -dsimp -implicitDefEqProofs (maxDischargeDepth := 6) [q25, app29 hl45]
        refine keepE2 (l := [4]) (x := [(4, .sl (N0 + 65) 0 l45.length)]) (s := hp B [(N0 + 32, some ⟨47, 5, encL rInstr l28⟩), (N0 + 43, some ⟨47, 5, encL rInstr l29⟩), (N0 + 53, none), (N0 + 41, none), (N0 + 29, none), (N0 + 60, none), (N0 + 65, some ⟨47, 5, encL rInstr l45⟩)] (N0 + 67)) rfl rfl fun a' ha => ?_
        refine hK72 _ _ ?_; rw [ha]
        refine AWP_ret ?_
        have e0 : N0 ≤ N0 + 32 := by omega
        have e1 : N0 ≤ N0 + 43 := by omega
        have e2 : N0 ≤ N0 + 53 := by omega
        have e3 : N0 ≤ N0 + 41 := by omega
        have e4 : N0 ≤ N0 + 29 := by omega
        have e5 : N0 ≤ N0 + 60 := by omega
        have e6 : N0 ≤ N0 + 65 := by omega
        refine ⟨[.sl (N0 + 65) 0 l45.length], by simp [e0, e1, e2, e3, e4, e5, e6], ?_⟩
        simp -dsimp -implicitDefEqProofs (maxDischargeDepth := 6)
        refine keepE2 (l := [6]) (x := [(6, .sl (N0 + 65) 0 l45.length)]) (s := hp B [(N0 + 32, some ⟨47, 5, encL rInstr l28⟩), (N0 + 43, some ⟨47, 5, encL rInstr l29⟩), (N0 + 53, none), (N0 + 41, none), (N0 + 29, none), (N0 + 60, none), (N0 + 65, some ⟨47, 5, encL rInstr l45⟩)] (N0 + 67)) rfl rfl fun a' ha => ?_
        refine hK55 _ _ ?_; rw [ha]
        refine AWP_ret ?_
        replace H := Option.some.inj H; subst H
        have e0 : N0 ≤ N0 + 32 := by omega
        have e1 : N0 ≤ N0 + 43 := by omega
        have e2 : N0 ≤ N0 + 53 := by omega
        have e3 : N0 ≤ N0 + 41 := by omega
        have e4 : N0 ≤ N0 + 29 := by omega
        have e5 : N0 ≤ N0 + 60 := by omega
        have e6 : N0 ≤ N0 + 65 := by omega
        refine ⟨[.sl (N0 + 65) 0 l45.length], by simp [e0, e1, e2, e3, e4, e5, e6], ?_, ?_⟩
        ·
         simp [encL_nil, e0, e1, e2, e3, e4, e5, e6]
        ·
         intro o ho; exact lk_out (by simp; try omega)
      ·
       replace H := ifF C13 H
       refine AWP_seqk [1, 3, 7, 14, 71] fun K73 hK73 => ?_
       refine AWP_regl tok [] ?_
       simp -dsimp -implicitDefEqProofs (maxDischargeDepth := 6)
       refine keepE2 (l := [1, 3, 7, 14, 71]) (x := [(1, .int .i64 p1), (3, .fptr [.int .i64 p0.Op, .int .i64 p0.Dst, .int .i64 p0.A, .int .i64 p0.B, .int .i64 p0.N] 0), (7, .int .i64 r1), (14, .int .i64 p0.Op), (71, .bool (ieq p0.Op 7))]) (s := hp B [] (N0 + 23)) rfl rfl fun a' ha => ?_
       refine hK73 _ _ ?_; rw [ha]
       refine AWP_cond (ieq p0.Op 7) rfl (fun C12 => ?_) (fun C12 => ?_)
       ·
        replace H := ifT C12 H
        refine AWP_seqk [1, 3, 7, 8] fun K74 hK74 => ?_
        obtain ⟨r46, hr46, H⟩ := bindE H
        obtain ⟨l47, hl47, H⟩ := bindE H
        have q26 : ∀ σ i, buildSliceA T 29 false i 1 [(0, .agg [.int .i64 r46.Op, .int .i64 r46.Rd, .int .i64 r46.Rs, .int .i64 r46.Rt, .int .i64 r46.Imm])] σ = some (.sl i 0 (List.length l47), σ.put i ⟨47, 5, encL rInstr l47⟩) := by rw [← Option.some.inj hl47]; intro _ _; rfl
        refine AWP_regl tok [] ?_
        simp -dsimp -implicitDefEqProofs (maxDischargeDepth := 6) [q26]
        refine (c113 hr46).app ?_; try simp -dsimp -implicitDefEqProofs (maxDischargeDepth := 6) [q26]
        refine ACalls_fn tok Tryd.func111 (by kernel_rfl) rfl Tryd.ntmps111 Tryd.results111 rfl ?_
        simp only [argsA, Nat.reduceAdd]
        refine AWP_seqk [0, 1] fun K76 hK76 => ?_
        obtain ⟨l48, hl48, H⟩ := bindE H
        have q27 : ∀ σ i, nilA T 29 i .nilsl σ = some (.sl i 0 (List.length l48), σ.put i ⟨47, 5, encL rInstr l48⟩) := by rw [← Option.some.inj hl48]; intro _ _; rfl
        refine AWP_regl tok [0] ?_
        simp -dsimp -implicitDefEqProofs (maxDischargeDepth := 6) [q27]
        refine keepE2 (l := [0, 1]) (x := [(0, .sl (N0 + 26) 0 l47.length), (1, .int .i64 2)]) (s := hp B [(N0 + 26, some ⟨47, 5, encL rInstr l47⟩), (N0 + 29, some ⟨47, 5, encL rInstr l48⟩)] (N0 + 30)) rfl rfl fun a' ha => ?_
        refine hK76 _ _ ?_; rw [ha]
        refine AWP_seqk [0] fun K77 hK77 => ?_
        obtain ⟨l49, hl49, H⟩ := bindE H
        have q28 : ∀ σ i, buildSliceA T 29 true i 1 [(0, .agg [.int .i64 12, .int .i64 17, .int .i64 0, .int .i64 0, .int .i64 2])] σ = some (.fsl (encL rInstr ([(⟨12, 17, 0, 0, 2⟩ : gInstr)] : List gInstr)), σ) := fun _ _ => rfl
        refine AWP_regl tok [3] ?_
        simp -dsimp -implicitDefEqProofs (maxDischargeDepth := 6) [q28, app29 hl49]
        refine keepE2 (l := [0]) (x := [(0, .sl (N0 + 34) 0 l49.length)]) (s := hp B [(N0 + 26, none), (N0 + 29, some ⟨47, 5, encL rInstr l48⟩), (N0 + 34, some ⟨47, 5, encL rInstr l49⟩)] (N0 + 36)) rfl rfl fun a' ha => ?_
        refine hK77 _ _ ?_; rw [ha]
        refine AWP_seqk [4] fun K78 hK78 => ?_
        obtain ⟨l50, hl50, H⟩ := bindE H
        have q29 : ∀ σ i, buildSliceA T 29 true i 1 [(0, .agg [.int .i64 15, .int .i64 1, .int .i64 0, .int .i64 0, .int .i64 0])] σ = some (.fsl (encL rInstr ([(⟨15, 1, 0, 0, 0⟩ : gInstr)] : List gInstr)), σ) := fun _ _ => rfl
        refine AWP_regl tok [2] ?_
        simp -dsimp -implicitDefEqProofs (maxDischargeDepth := 6) [q29, app29 hl50]
        refine keepE2 (l := [4]) (x := [(4, .sl (N0 + 39) 0 l50.length)]) (s := hp B [(N0 + 26, none), (N0 + 29, some ⟨47, 5, encL rInstr l48⟩), (N0 + 34, none), (N0 + 39, some ⟨47, 5, encL rInstr l50⟩)] (N0 + 41)) rfl rfl fun a' ha => ?_
        refine hK78 _ _ ?_; rw [ha]
        refine AWP_ret ?_
        have e0 : N0 ≤ N0 + 26 := by omega
        have e1 : N0 ≤ N0 + 29 := by omega
        have e2 : N0 ≤ N0 + 34 := by omega
        have e3 : N0 ≤ N0 + 39 := by omega
        refine ⟨[.sl (N0 + 39) 0 l50.length], by simp [e0, e1, e2, e3], ?_⟩
        simp -dsimp -implicitDefEqProofs (maxDischargeDepth := 6)
        refine keepE2 (l := [1, 3, 7, 8]) (x := [(1, .int .i64 p1), (3, .fptr [.int .i64 p0.Op, .int .i64 p0.Dst, .int .i64 p0.A, .int .i64 p0.B, .int .i64 p0.N] 0), (7, .int .i64 r1), (8, .sl (N0 + 39) 0 l50.length)]) (s := hp B [(N0 + 26, none), (N0 + 29, some ⟨47, 5, encL rInstr l48⟩), (N0 + 34, none), (N0 + 39, some ⟨47, 5, encL rInstr l50⟩)] (N0 + 41)) rfl rfl fun a' ha => ?_
        refine hK74 _ _ ?_; rw [ha]
        refine AWP_seqk [6] fun K79 hK79 => ?_
        obtain ⟨r51, hr51, H⟩ := bindE H
        obtain ⟨l52, hl52, H⟩ := bindE H
        have q30 : ∀ σ i, buildSliceA T 29 true i 1 [(0, .agg [.int .i64 r51.Op, .int .i64 r51.Rd, .int .i64 r51.Rs, .int .i64 r51.Rt, .int .i64 r51.Imm])] σ = some (.fsl (encL rInstr ([r51] : List gInstr)), σ) := fun _ _ => rfl
        refine AWP_drawl tok tokM [3] [4, 8, 9] [0, 1, 2, 3, 5, 6, 7, 4, 8, 9] (by decide) ?_
        simp only [pickL, nthO_succ, nthO_zero]
        simp -dsimp -implicitDefEqProofs (maxDischargeDepth := 6) [q30, app29 hl52]
        refine Pc.mk (c108 hr51) ?_; try simp -dsimp -implicitDefEqProofs (maxDischargeDepth := 6) [q30, app29 hl52]
        refine ACalls_fn tok Tryd.func106 (by kernel_rfl) rfl Tryd.ntmps106 Tryd.results106 rfl ?_
        simp only [argsA, Nat.reduceAdd]
        refine AWP_seqk [0, 1, 2] fun K81 hK81 => ?_
        refine AWP_regl tok [] ?_
        simp -dsimp -implicitDefEqProofs (maxDischargeDepth := 6)
        refine keepE2 (l := [0, 1, 2]) (x := [(0, .sl (N0 + 45) 0 l52.length), (1, .int .i64 p0.Dst), (2, .int .i64 p1)]) (s := hp B [(N0 + 26, none), (N0 + 29, some ⟨47, 5, encL rInstr l48⟩), (N0 + 34, none), (N0 + 39, none), (N0 + 45, some ⟨47, 5, encL rInstr l52⟩)] (N0 + 52)) rfl rfl fun a' ha => ?_
        refine hK81 _ _ ?_; rw [ha]
        refine AWP_seqk [0, 1, 2] fun K82 hK82 => ?_
        refine AWP_seqk [0, 1, 2, 9] fun K83 hK83 => ?_
        refine AWP_regl tok [] ?_
        simp -dsimp -implicitDefEqProofs (maxDischargeDepth := 6)
        refine keepE2 (l := [0, 1, 2, 9]) (x := [(0, .sl (N0 + 45) 0 l52.length), (1, .int .i64 p0.Dst), (2, .int .i64 p1), (9, .bool (ilt p0.Dst p1))]) (s := hp B [(N0 + 26, none), (N0 + 29, some ⟨47, 5, encL rInstr l48⟩), (N0 + 34, none), (N0 + 39, none), (N0 + 45, some ⟨47, 5, encL rInstr l52⟩)] (N0 + 55)) rfl rfl fun a' ha => ?_
        refine hK83 _ _ ?_; rw [ha]
        refine AWP_cond (ilt p0.Dst p1) rfl (fun C8 => ?_) (fun C8 => ?_)
        ·
         replace H := ifT C8 H
         refine AWP_seqk [6] fun K84 hK84 => ?_
         refine AWP_regl tok [] ?_
         simp -dsimp -implicitDefEqProofs (maxDischargeDepth := 6)
         refine keepE2 (l := [6]) (x := [(6, .sl (N0 + 45) 0 l52.length)]) (s := hp B [(N0 + 26, none), (N0 + 29, some ⟨47, 5, encL rInstr l48⟩), (N0 + 34, none), (N0 + 39, none), (N0 + 45, some ⟨47, 5, encL rInstr l52⟩)] (N0 + 57)) rfl rfl fun a' ha => ?_
         refine hK84 _ _ ?_; rw [ha]
         refine AWP_ret ?_
         have e0 : N0 ≤ N0 + 26 := by omega
         have e1 : N0 ≤ N0 + 29 := by omega
         have e2 : N0 ≤ N0 + 34 := by omega
         have e3 : N0 ≤ N0 + 39 := by omega
         have e4 : N0 ≤ N0 + 45 := by omega
         refine ⟨[.sl (N0 + 45) 0 l52.length], by simp [e0, e1, e2, e3, e4], ?_⟩
         simp -dsimp -implicitDefEqProofs (maxDischargeDepth := 6)
         refine keepE2 (l := [6]) (x := [(6, .sl (N0 + 45) 0 l52.length)]) (s := hp B [(N0 + 26, none), (N0 + 29, some ⟨47, 5, encL rInstr l48⟩), (N0 + 34, none), (N0 + 39, none), (N0 + 45, some ⟨47, 5, encL rInstr l52⟩)] (N0 + 57)) rfl rfl fun a' ha => ?_
         refine hK79 _ _ ?_; rw [ha]
         refine AWP_ret ?_
         replace H := Option.some.inj H; subst H
         have e0 : N0 ≤ N0 + 26 := by omega
         have e1 : N0 ≤ N0 + 29 := by omega
         have e2 : N0 ≤ N0 + 34 := by omega
         have e3 : N0 ≤ N0 + 39 := by omega
         have e4 : N0 ≤ N0 + 45 := by omega
         refine ⟨[.sl (N0 + 45) 0 l52.length], by simp [e0, e1, e2, e3, e4], ?_, ?_⟩
         ·
          simp [encL_nil, e0, e1, e2, e3, e4]
         ·
          intro o ho; exact lk_out (by simp; try omega)
        ·
         replace H := ifF C8 H
         refine AWP_skip ?_
         show K82 _ _
         refine keepE (l := [0, 1, 2]) (x := [(0, .sl (N0 + 45) 0 l52.length), (1, .int .i64 p0.Dst), (2, .int .i64 p1)]) rfl fun a' ha => ?_
         refine hK82 _ _ ?_; rw [ha]
         refine AWP_seqk [6] fun K85 hK85 => ?_
         obtain ⟨l53, hl53, H⟩ := bindE H
         have q31 : ∀ σ i, buildSliceA T 29 true i 1 [(0, .agg [.int .i64 16, .int .i64 0, .int .i64 2, .int .i64 7, .int .i64 (imul .i64 4 (isub .i64 p0.Dst p1))])] σ = some (.fsl (encL rInstr ([(⟨16, 0, 2, 7, imul .i64 4 (isub .i64 p0.Dst p1)⟩ : gInstr)] : List gInstr)), σ) := fun _ _ => rfl
         refine AWP_regl tok [6] ?_
         simp -dsimp -implicitDefEqProofs (maxDischargeDepth := 6) [q31, app29 hl53]
         refine keepE2 (l := [6]) (x := [(6, .sl (N0 + 62) 0 l53.length)]) (s := hp B [(N0 + 26, none), (N0 + 29, some ⟨47, 5, encL rInstr l48⟩), (N0 + 34, none), (N0 + 39, none), (N0 + 45, none), (N0 + 62, some ⟨47, 5, encL rInstr l53⟩)] (N0 + 64)) rfl rfl fun a' ha => ?_
         refine hK85 _ _ ?_; rw [ha]
         refine AWP_ret ?_
         have e0 : N0 ≤ N0 + 26 := by omega
         have e1 : N0 ≤ N0 + 29 := by omega
         have e2 : N0 ≤ N0 + 34 := by omega
         have e3 : N0 ≤ N0 + 39 := by omega
         have e4 : N0 ≤ N0 + 45 := by omega
         have e5 : N0 ≤ N0 + 62 := by omega
         refine ⟨[.sl (N0 + 62) 0 l53.length], by simp [e0, e1, e2, e3, e4, e5], ?_⟩
         simp -dsimp -implicitDefEqProofs (maxDischargeDepth := 6)
         refine keepE2 (l := [6]) (x := [(6, .sl (N0 + 62) 0 l53.length)]) (s := hp B [(N0 + 26, none), (N0 + 29, some ⟨47, 5, encL rInstr l48⟩), (N0 + 34, none), (N0 + 39, none), (N0 + 45, none), (N0 + 62, some ⟨47, 5, encL rInstr l53⟩)] (N0 + 64)) rfl rfl fun a' ha => ?_
         refine hK79 _ _ ?_; rw [ha]
         refine AWP_ret ?_
         replace H := Option.some.inj H; subst H
         have e0 : N0 ≤ N0 + 26 := by omega
         have e1 : N0 ≤ N0 + 29 := by omega
         have e2 : N0 ≤ N0 + 34 := by omega
         have e3 : N0 ≤ N0 + 39 := by omega
         have e4 : N0 ≤ N0 + 45 := by omega
         have e5 : N0 ≤ N0 + 62 := by omega
         refine ⟨[.sl (N0 + 62) 0 l53.length], by simp [e0, e1, e2, e3, e4, e5], ?_, ?_⟩
         ·
          simp [encL_nil, e0, e1, e2, e3, e4, e5]
         ·
          intro o ho; exact lk_out (by simp; try omega)
       ·
        replace H := ifF C12 H
        refine AWP_seqk [1, 3, 14, 87] fun K86 hK86 => ?_
        refine AWP_regl tok [] ?_
        simp -dsimp -implicitDefEqProofs (maxDischargeDepth := 6)
        refine keepE2 (l := [1, 3, 14, 87]) (x := [(1, .int .i64 p1), (3, .fptr [.int .i64 p0.Op, .int .i64 p0.Dst, .int .i64 p0.A, .int .i64 p0.B, .int .i64 p0.N] 0), (14, .int .i64 p0.Op), (87, .bool (ieq p0.Op 8))]) (s := hp B [] (N0 + 25)) rfl rfl fun a' ha => ?_
        refine hK86 _ _ ?_; rw [ha]
        refine AWP_cond (ieq p0.Op 8) rfl (fun C11 => ?_) (fun C11 => ?_)
        ·
         replace H := ifT C11 H
         refine AWP_seqk [6] fun K87 hK87 => ?_
         obtain ⟨l54, hl54, H⟩ := bindE H
         have q32 : ∀ σ i, buildSliceA T 29 false i 0 [] σ = some (.sl i 0 (List.length l54), σ.put i ⟨47, 5, encL rInstr l54⟩) := by rw [← Option.some.inj hl54]; intro _ _; rfl
         refine AWP_regl tok [] ?_
         simp -dsimp -implicitDefEqProofs (maxDischargeDepth := 6) [q32]
         refine ACalls_fn tok Tryd.func111 (by kernel_rfl) rfl Tryd.ntmps111 Tryd.results111 rfl ?_
         simp only [argsA, Nat.reduceAdd]
         refine AWP_seqk [0, 1] fun K89 hK89 => ?_
         refine AWP_regl tok [] ?_
         simp -dsimp -implicitDefEqProofs (maxDischargeDepth := 6)
         refine keepE2 (l := [0, 1]) (x := [(0, .sl (N0 + 25) 0 l54.length), (1, .int .i64 3)]) (s := hp B [(N0 + 25, some ⟨47, 5, encL rInstr l54⟩)] (N0 + 29)) rfl rfl fun a' ha => ?_
         refine hK89 _ _ ?_; rw [ha]
         refine AWP_seqk [0] fun K90 hK90 => ?_
         obtain ⟨l55, hl55, H⟩ := bindE H
         have q33 : ∀ σ i, buildSliceA T 29 true i 1 [(0, .agg [.int .i64 12, .int .i64 17, .int .i64 0, .int .i64 0, .int .i64 3])] σ = some (.fsl (encL rInstr ([(⟨12, 17, 0, 0, 3⟩ : gInstr)] : List gInstr)), σ) := fun _ _ => rfl
         refine AWP_regl tok [3] ?_
         simp -dsimp -implicitDefEqProofs (maxDischargeDepth := 6) [q33, app29 hl55]
         refine keepE2 (l := [0]) (x := [(0, .sl (N0 + 33) 0 l55.length)]) (s := hp B [(N0 + 25, none), (N0 + 33, some ⟨47, 5, encL rInstr l55⟩)] (N0 + 35)) rfl rfl fun a' ha => ?_
         refine hK90 _ _ ?_; rw [ha]
         refine AWP_seqk [4] fun K91 hK91 => ?_
         obtain ⟨l56, hl56, H⟩ := bindE H
         have q34 : ∀ σ i, buildSliceA T 29 true i 1 [(0, .agg [.int .i64 15, .int .i64 1, .int .i64 0, .int .i64 0, .int .i64 0])] σ = some (.fsl (encL rInstr ([(⟨15, 1, 0, 0, 0⟩ : gInstr)] : List gInstr)), σ) := fun _ _ => rfl
         refine AWP_regl tok [2] ?_
         simp -dsimp -implicitDefEqProofs (maxDischargeDepth := 6) [q34, app29 hl56]
         refine keepE2 (l := [4]) (x := [(4, .sl (N0 + 38) 0 l56.length)]) (s := hp B [(N0 + 25, none), (N0 + 33, none), (N0 + 38, some ⟨47, 5, encL rInstr l56⟩)] (N0 + 40)) rfl rfl fun a' ha => ?_
         refine hK91 _ _ ?_; rw [ha]
         refine AWP_ret ?_
         have e0 : N0 ≤ N0 + 25 := by omega
         have e1 : N0 ≤ N0 + 33 := by omega
         have e2 : N0 ≤ N0 + 38 := by omega
         refine ⟨[.sl (N0 + 38) 0 l56.length], by simp [e0, e1, e2], ?_⟩
         simp -dsimp -implicitDefEqProofs (maxDischargeDepth := 6)
         refine keepE2 (l := [6]) (x := [(6, .sl (N0 + 38) 0 l56.length)]) (s := hp B [(N0 + 25, none), (N0 + 33, none), (N0 + 38, some ⟨47, 5, encL rInstr l56⟩)] (N0 + 40)) rfl rfl fun a' ha => ?_
         refine hK87 _ _ ?_; rw [ha]
         refine AWP_ret ?_
         replace H := Option.some.inj H; subst H
         have e0 : N0 ≤ N0 + 25 := by omega
         have e1 : N0 ≤ N0 + 33 := by omega
         have e2 : N0 ≤ N0 + 38 := by omega
         refine ⟨[.sl (N0 + 38) 0 l56.length], by simp [e0, e1, e2], ?_, ?_⟩
         ·
          simp [encL_nil, e0, e1, e2]
         ·
          intro o ho; exact lk_out (by simp; try omega)
        ·
         replace H := ifF C11 H
         refine AWP_seqk [1, 3, 91] fun K92 hK92 => ?_
         refine AWP_regl tok [] ?_
         simp -dsimp -implicitDefEqProofs (maxDischargeDepth := 6)
         refine keepE2 (l := [1, 3, 91]) (x := [(1, .int .i64 p1), (3, .fptr [.int .i64 p0.Op, .int .i64 p0.Dst, .int .i64 p0.A, .int .i64 p0.B, .int .i64 p0.N] 0), (91, .bool (ieq p0.Op 9))]) (s := hp B [] (N0 + 27)) rfl rfl fun a' ha => ?_
         refine hK92 _ _ ?_; rw [ha]
         refine AWP_cond (ieq p0.Op 9) rfl (fun C10 => ?_) (fun C10 => ?_)
         ·
          replace H := ifT C10 H
          refine AWP_seqk [6] fun K93 hK93 => ?_
          refine AWP_regl tok [] ?_
          simp -dsimp -implicitDefEqProofs (maxDischargeDepth := 6)
          refine ACalls_fn tok Tryd.func112 (by kernel_rfl) rfl Tryd.ntmps112 Tryd.results112 rfl ?_
          simp only [argsA, Nat.reduceAdd]
          refine AWP_seqk [0, 1] fun K95 hK95 => ?_
          obtain ⟨l57, hl57, H⟩ := bindE H
          have q35 : ∀ σ i, nilA T 29 i .nilsl σ = some (.sl i 0 (List.length l57), σ.put i ⟨47, 5, encL rInstr l57⟩) := by rw [← Option.some.inj hl57]; intro _ _; rfl
          refine AWP_regl tok [0] ?_
          simp -dsimp -implicitDefEqProofs (maxDischargeDepth := 6) [q35]
          refine keepE2 (l := [0, 1]) (x := [(0, .int .i64 p0.A), (1, .int .i64 p1)]) (s := hp B [(N0 + 33, some ⟨47, 5, encL rInstr l57⟩)] (N0 + 34)) rfl rfl fun a' ha => ?_
          refine hK95 _ _ ?_; rw [ha]
          refine AWP_seqk [4] fun K96 hK96 => ?_
          refine AWP_regl tok [7] ?_
          simp -dsimp -implicitDefEqProofs (maxDischargeDepth := 6)
          refine ACalls_fn tok Tryd.func107 (by kernel_rfl) rfl Tryd.ntmps107 Tryd.results107 rfl ?_
          simp only [argsA, Nat.reduceAdd]
          refine AWP_seqk [0, 1, 2] fun K98 hK98 => ?_
          obtain ⟨l58, hl58, H⟩ := bindE H
          have q36 : ∀ σ i, nilA T 29 i .nilsl σ = some (.sl i 0 (List.length l58), σ.put i ⟨47, 5, encL rInstr l58⟩) := by rw [← Option.some.inj hl58]; intro _ _; rfl
          refine AWP_regl tok [0] ?_
          simp -dsimp -implicitDefEqProofs (maxDischargeDepth := 6) [q36]
          refine keepE2 (l := [0, 1, 2]) (x := [(0, .int .i64 p0.A), (1, .int .i64 p1), (2, .int .i64 5)]) (s := hp B [(N0 + 33, some ⟨47, 5, encL rInstr l57⟩), (N0 + 44, some ⟨47, 5, encL rInstr l58⟩)] (N0 + 45)) rfl rfl fun a' ha => ?_
          refine hK98 _ _ ?_; rw [ha]
          refine AWP_seqk [0, 1, 2] fun K99 hK99 => ?_
          refine AWP_seqk [0, 1, 2, 9] fun K100 hK100 => ?_
          refine AWP_regl tok [] ?_
          simp -dsimp -implicitDefEqProofs (maxDischargeDepth := 6)
          refine keepE2 (l := [0, 1, 2, 9]) (x := [(0, .int .i64 p0.A), (1, .int .i64 p1), (2, .int .i64 5), (9, .bool (ilt p0.A p1))]) (s := hp B [(N0 + 33, some ⟨47, 5, encL rInstr l57⟩), (N0 + 44, some ⟨47, 5, encL rInstr l58⟩)] (N0 + 48)) rfl rfl fun a' ha => ?_
          refine hK100 _ _ ?_; rw [ha]
          refine AWP_cond (ilt p0.A p1) rfl (fun C9 => ?_) (fun C9 => ?_)
          ·
           replace H := ifT C9 H
           refine AWP_seqk [6] fun K101 hK101 => ?_
           obtain ⟨l59, hl59, H⟩ := bindE H
           have q37 : ∀ σ i, buildSliceA T 29 false i 0 [] σ = some (.sl i 0 (List.length l59), σ.put i ⟨47, 5, encL rInstr l59⟩) := by rw [← Option.some.inj hl59]; intro _ _; rfl
           refine AWP_regl tok [] ?_
           simp -dsimp -implicitDefEqProofs (maxDischargeDepth := 6) [q37]
           refine keepE2 (l := [6]) (x := [(6, .sl (N0 + 48) 0 l59.length)]) (s := hp B [(N0 + 33, some ⟨47, 5, encL rInstr l57⟩), (N0 + 44, some ⟨47, 5, encL rInstr l58⟩), (N0 + 48, some ⟨47, 5, encL rInstr l59⟩)] (N0 + 50)) rfl rfl fun a' ha => ?_
           refine hK101 _ _ ?_; rw [ha]
           refine AWP_ret ?_
           have e0 : N0 ≤ N0 + 33 := by omega
           have e1 : N0 ≤ N0 + 44 := by omega
           have e2 : N0 ≤ N0 + 48 := by omega
           refine ⟨[.sl (N0 + 48) 0 l59.length], by simp [e0, e1, e2], ?_⟩
           obtain ⟨r60, hr60, H⟩ := bindE H
           obtain ⟨r61, hr61, H⟩ := bindE H
           obtain ⟨l62, hl62, H⟩ := bindE H
           have q38 : ∀ σ i, buildSliceA T 29 true i 1 [(0, .agg [.int .i64 r61.Op, .int .i64 r61.Rd, .int .i64 r61.Rs, .int .i64 r61.Rt, .int .i64 r61.Imm])] σ = some (.fsl (encL rInstr ([r61] : List gInstr)), σ) := fun _ _ => rfl
           simp -dsimp -implicitDefEqProofs (maxDischargeDepth := 6) [q38, app29 hl62]
           refine (c105 hr60).app ?_; try simp -dsimp -implicitDefEqProofs (maxDischargeDepth := 6) [q38, app29 hl62]
           refine (c108 hr61).app ?_; try simp -dsimp -implicitDefEqProofs (maxDischargeDepth := 6) [q38, app29 hl62]
           refine keepE2 (l := [4]) (x := [(4, .sl (N0 + 42) 0 l62.length)]) (s := hp B [(N0 + 33, some ⟨47, 5, encL rInstr l57⟩), (N0 + 44, some ⟨47, 5, encL rInstr l58⟩), (N0 + 48, none), (N0 + 42, some ⟨47, 5, encL rInstr l62⟩)] (N0 + 50)) rfl rfl fun a' ha => ?_
           refine hK96 _ _ ?_; rw [ha]
           refine AWP_ret ?_
           have e0 : N0 ≤ N0 + 33 := by omega
           have e1 : N0 ≤ N0 + 44 := by omega
           have e2 : N0 ≤ N0 + 48 := by omega
           have e3 : N0 ≤ N0 + 42 := by omega
           refine ⟨[.sl (N0 + 42) 0 l62.length], by simp [e0, e1, e2, e3], ?_⟩
           simp -dsimp -implicitDefEqProofs (maxDischargeDepth := 6)
           refine ACalls_fn tok Tryd.func111 (by kernel_rfl) rfl Tryd.ntmps111 Tryd.results111 rfl ?_
           simp only [argsA, Nat.reduceAdd]
           refine AWP_seqk [0, 1] fun K103 hK103 => ?_
           refine AWP_regl tok [] ?_
           simp -dsimp -implicitDefEqProofs (maxDischargeDepth := 6)
           refine keepE2 (l := [0, 1]) (x := [(0, .sl (N0 + 42) 0 l62.length), (1, .int .i64 4)]) (s := hp B [(N0 + 33, some ⟨47, 5, encL rInstr l57⟩), (N0 + 44, some ⟨47, 5, encL rInstr l58⟩), (N0 + 48, none), (N0 + 42, some ⟨47, 5, encL rInstr l62⟩)] (N0 + 51)) rfl rfl fun a' ha => ?_
           refine hK103 _ _ ?_; rw [ha]
           refine AWP_seqk [0] fun K104 hK104 => ?_
           obtain ⟨l63, hl63, H⟩ := bindE H
           have q39 : ∀ σ i, buildSliceA T 29 true i 1 [(0, .agg [.int .i64 12, .int .i64 17, .int .i64 0, .int .i64 0, .int .i64 4])] σ = some (.fsl (encL rInstr ([(⟨12, 17, 0, 0, 4⟩ : gInstr)] : List gInstr)), σ) := fun _ _ => rfl
           refine AWP_regl tok [3] ?_
           simp -dsimp -implicitDefEqProofs (maxDischargeDepth := 6) [q39, app29 hl63]
           refine keepE2 (l := [0]) (x := [(0, .sl (N0 + 55) 0 l63.length)]) (s := hp B [(N0 + 33, some ⟨47, 5, encL rInstr l57⟩), (N0 + 44, some ⟨47, 5, encL rInstr l58⟩), (N0 + 48, none), (N0 + 42, none), (N0 + 55, some ⟨47, 5, encL rInstr l63⟩)] (N0 + 57)) rfl rfl fun a' ha => ?_
           refine hK104 _ _ ?_; rw [ha]
           refine AWP_seqk [4] fun K105 hK105 => ?_
           obtain ⟨l64, hl64, H⟩ := bindE H
           have q40 : ∀ σ i, buildSliceA T 29 true i 1 [(0, .agg [.int .i64 15, .int .i64 1, .int .i64 0, .int .i64 0, .int .i64 0])] σ = some (.fsl (encL rInstr ([(⟨15, 1, 0, 0, 0⟩ : gInstr)] : List gInstr)), σ) := fun _ _ => rfl
           refine AWP_regl tok [2] ?_
           simp -dsimp -implicitDefEqProofs (maxDischargeDepth := 6) [q40, app29 hl64]
           refine keepE2 (l := [4]) (x := [(4, .sl (N0 + 60) 0 l64.length)]) (s := hp B [(N0 + 33, some ⟨47, 5, encL rInstr l57⟩), (N0 + 44, some ⟨47, 5, encL rInstr l58⟩), (N0 + 48, none), (N0 + 42, none), (N0 + 55, none), (N0 + 60, some ⟨47, 5, encL rInstr l64⟩)] (N0 + 62)) rfl rfl fun a' ha => ?_
           refine hK105 _ _ ?_; rw [ha]
           refine AWP_ret ?_
           have e0 : N0 ≤ N0 + 33 := by omega
           have e1 : N0 ≤ N0 + 44 := by omega
           have e2 : N0 ≤ N0 + 48 := by omega
           have e3 : N0 ≤ N0 + 42 := by omega
           have e4 : N0 ≤ N0 + 55 := by omega
           have e5 : N0 ≤ N0 + 60 := by omega
           refine ⟨[.sl (N0 + 60) 0 l64.length], by simp [e0, e1, e2, e3, e4, e5], ?_⟩
           simp -dsimp -implicitDefEqProofs (maxDischargeDepth := 6)
           refine keepE2 (l := [6]) (x := [(6, .sl (N0 + 60) 0 l64.length)]) (s := hp B [(N0 + 33, some ⟨47, 5, encL rInstr l57⟩), (N0 + 44, some ⟨47, 5, encL rInstr l58⟩), (N0 + 48, none), (N0 + 42, none), (N0 + 55, none), (N0 + 60, some ⟨47, 5, encL rInstr l64⟩)] (N0 + 62)) rfl rfl fun a' ha => ?_
           refine hK93 _ _ ?_; rw [ha]
           refine AWP_ret ?_
           replace H := Option.some.inj H; subst H
           have e0 : N0 ≤ N0 + 33 := by omega
           have e1 : N0 ≤ N0 + 44 := by omega
           have e2 : N0 ≤ N0 + 48 := by omega
           have e3 : N0 ≤ N0 + 42 := by omega
           have e4 : N0 ≤ N0 + 55 := by omega
           have e5 : N0 ≤ N0 + 60 := by omega
           refine ⟨[.sl (N0 + 60) 0 l64.length], by simp [e0, e1, e2, e3, e4, e5], ?_, ?_⟩
           ·
            simp [encL_nil, e0, e1, e2, e3, e4, e5]
           ·
            intro o ho; exact lk_out (by simp; try omega)
          ·
           replace H := ifF C9 H
           refine AWP_skip ?_
           show K99 _ _
           refine keepE (l := [0, 1, 2]) (x := [(0, .int .i64 p0.A), (1, .int .i64 p1), (2, .int .i64 5)]) rfl fun a' ha => ?_
           refine hK99 _ _ ?_; rw [ha]
           refine AWP_seqk [6] fun K106 hK106 => ?_
           obtain ⟨l65, hl65, H⟩ := bindE H
           have q41 : ∀ σ i, buildSliceA T 29 false i 1 [(0, .agg [.int .i64 14, .int .i64 5, .int .i64 2, .int .i64 0, .int .i64 (imul .i64 4 (isub .i64 p0.A p1))])] σ = some (.sl i 0 (List.length l65), σ.put i ⟨47, 5, encL rInstr l65⟩) := by rw [← Option.some.inj hl65]; intro _ _; rfl
           refine AWP_regl tok [] ?_
           simp -dsimp -implicitDefEqProofs (maxDischargeDepth := 6) [q41]
           refine keepE2 (l := [6]) (x := [(6, .sl (N0 + 54) 0 l65.length)]) (s := hp B [(N0 + 33, some ⟨47, 5, encL rInstr l57⟩), (N0 + 44, some ⟨47, 5, encL rInstr l58⟩), (N0 + 54, some ⟨47, 5, encL rInstr l65⟩)] (N0 + 56)) rfl rfl fun a' ha => ?_
           refine hK106 _ _ ?_; rw [ha]
           refine AWP_ret ?_
           have e0 : N0 ≤ N0 + 33 := by omega
           have e1 : N0 ≤ N0 + 44 := by omega
           have e2 : N0 ≤ N0 + 54 := by omega
           refine ⟨[.sl (N0 + 54) 0 l65.length], by simp [e0, e1, e2], ?_⟩
           obtain ⟨r66, hr66, H⟩ := bindE H
           obtain ⟨r67, hr67, H⟩ := bindE H
           obtain ⟨l68, hl68, H⟩ := bindE H
           have q42 : ∀ σ i, buildSliceA T 29 true i 1 [(0, .agg [.int .i64 r67.Op, .int .i64 r67.Rd, .int .i64 r67.Rs, .int .i64 r67.Rt, .int .i64 r67.Imm])] σ = some (.fsl (encL rInstr ([r67] : List gInstr)), σ) := fun _ _ => rfl
           simp -dsimp -implicitDefEqProofs (maxDischargeDepth := 6) [q42, app29 hl68]
           refine (c105 hr66).app ?_; try simp -dsimp -implicitDefEqProofs (maxDischargeDepth := 6) [q42, app29 hl68]
           refine (c108 hr67).app ?_; try simp -dsimp -implicitDefEqProofs (maxDischargeDepth := 6) [q42, app29 hl68]
           refine keepE2 (l := [4]) (x := [(4, .sl (N0 + 42) 0 l68.length)]) (s := hp B [(N0 + 33, some ⟨47, 5, encL rInstr l57⟩), (N0 + 44, some ⟨47, 5, encL rInstr l58⟩), (N0 + 54, none), (N0 + 42, some ⟨47, 5, encL rInstr l68⟩)] (N0 + 56)) rfl rfl fun a' ha => ?_
           refine hK96 _ _ ?_; rw [ha]
           refine AWP_ret ?_
           have e0 : N0 ≤ N0 + 33 := by omega
           have e1 : N0 ≤ N0 + 44 := by omega
           have e2 : N0 ≤ N0 + 54 := by omega
           have e3 : N0 ≤ N0 + 42 := by omega
           refine ⟨[.sl (N0 + 42) 0 l68.length], by simp [e0, e1, e2, e3], ?_⟩
           simp -dsimp -implicitDefEqProofs (maxDischargeDepth := 6)
           refine ACalls_fn tok Tryd.func111 (by kernel_rfl) rfl Tryd.ntmps111 Tryd.results111 rfl ?_
           simp only [argsA, Nat.reduceAdd]
           refine AWP_seqk [0, 1] fun K108 hK108 => ?_
           refine AWP_regl tok [] ?_
           simp -dsimp -implicitDefEqProofs (maxDischargeDepth := 6)
           refine keepE2 (l := [0, 1]) (x := [(0, .sl (N0 + 42) 0 l68.length), (1, .int .i64 4)]) (s := hp B [(N0 + 33, some ⟨47, 5, encL rInstr l57⟩), (N0 + 44, some ⟨47, 5, encL rInstr l58⟩), (N0 + 54, none), (N0 + 42, some ⟨47, 5, encL rInstr l68⟩)] (N0 + 57)) rfl rfl fun a' ha => ?_
           refine hK108 _ _ ?_; rw [ha]
           refine AWP_seqk [0] fun K109 hK109 => ?_
           obtain ⟨l69, hl69, H⟩ := bindE H
           have q43 : ∀ σ i, buildSliceA T 29 true i 1 [(0, .agg [.int .i64 12, .int .i64 17, .int .i64 0, .int .i64 0, .int .i64 4])] σ = some (.fsl (encL rInstr ([(⟨12, 17, 0, 0, 4⟩ : gInstr)] : List gInstr)), σ) := fun _ _ => rfl
           refine AWP_regl tok [3] ?_
           simp -dsimp -implicitDefEqProofs (maxDischargeDepth := 6) [q43, app29 hl69]
           refine keepE2 (l := [0]) (x := [(0, .sl (N0 + 61) 0 l69.length)]) (s := hp B [(N0 + 33, some ⟨47, 5, encL rInstr l57⟩), (N0 + 44, some ⟨47, 5, encL rInstr l58⟩), (N0 + 54, none), (N0 + 42, none), (N0 + 61, some ⟨47, 5, encL rInstr l69⟩)] (N0 + 63)) rfl rfl fun a' ha => ?_
           refine hK109 _ _ ?_; rw [ha]
           refine AWP_seqk [4] fun K110 hK110 => ?_
           obtain ⟨l70, hl70, H⟩ := bindE H
           have q44 : ∀ σ i, buildSliceA T 29 true i 1 [(0, .agg [.int .i64 15, .int .i64 1, .int .i64 0, .int .i64 0, .int .i64 0])] σ = some (.fsl (encL rInstr ([(⟨15, 1, 0, 0, 0⟩ : gInstr)] : List gInstr)), σ) := fun _ _ => rfl
           refine AWP_regl tok [2] ?_
           simp -dsimp -implicitDefEqProofs (maxDischargeDepth := 6) [q44, app29 hl70]
           refine keepE2 (l := [4]) (x := [(4, .sl (N0 + 66) 0 l70.length)]) (s := hp B [(N0 + 33, some ⟨47, 5, encL rInstr l57⟩), (N0 + 44, some ⟨47, 5, encL rInstr l58⟩), (N0 + 54, none), (N0 + 42, none), (N0 + 61, none), (N0 + 66, some ⟨47, 5, encL rInstr l70⟩)] (N0 + 68)) rfl rfl fun a' ha => ?_
           refine hK110 _ _ ?_; rw [ha]
           refine AWP_ret ?_
           have e0 : N0 ≤ N0 + 33 := by omega
           have e1 : N0 ≤ N0 + 44 := by omega
           have e2 : N0 ≤ N0 + 54 := by omega
           have e3 : N0 ≤ N0 + 42 := by omega
           have e4 : N0 ≤ N0 + 61 := by omega
           have e5 : N0 ≤ N0 + 66 := by omega
           refine ⟨[.sl (N0 + 66) 0 l70.length], by simp [e0, e1, e2, e3, e4, e5], ?_⟩
           simp -dsimp -implicitDefEqProofs (maxDischargeDepth := 6)
           refine keepE2 (l := [6]) (x := [(6, .sl (N0 + 66) 0 l70.length)]) (s := hp B [(N0 + 33, some ⟨47, 5, encL rInstr l57⟩), (N0 + 44, some ⟨47, 5, encL rInstr l58⟩), (N0 + 54, none), (N0 + 42, none), (N0 + 61, none), (N0 + 66, some ⟨47, 5, encL rInstr l70⟩)] (N0 + 68)) rfl rfl fun a' ha => ?_
           refine hK93 _ _ ?_; rw [ha]
           refine AWP_ret ?_
           replace H := Option.some.inj H; subst H
           have e0 : N0 ≤ N0 + 33 := by omega
           have e1 : N0 ≤ N0 + 44 := by omega
           have e2 : N0 ≤ N0 + 54 := by omega
           have e3 : N0 ≤ N0 + 42 := by omega
           have e4 : N0 ≤ N0 + 61 := by omega
           have e5 : N0 ≤ N0 + 66 := by omega
           refine ⟨[.sl (N0 + 66) 0 l70.length], by simp [e0, e1, e2, e3, e4, e5], ?_, ?_⟩
           ·
            simp [encL_nil, e0, e1, e2, e3, e4, e5]
           ·
            intro o ho; exact lk_out (by simp; try omega)
         ·
          replace H := ifF C10 H
          refine AWP_skip ?_
          show K3 _ _
          refine keepE (l := []) (x := []) rfl fun a' ha => ?_
          refine hK3 _ _ ?_; rw [ha]
          refine AWP_seqk [6] fun K111 hK111 => ?_
          obtain ⟨l71, hl71, H⟩ := bindE H
          have q45 : ∀ σ i, buildSliceA T 29 false i 0 [] σ = some (.sl i 0 (List.length l71), σ.put i ⟨47, 5, encL rInstr l71⟩) := by rw [← Option.some.inj hl71]; intro _ _; rfl
          refine AWP_regl tok [] ?_
          simp -dsimp -implicitDefEqProofs (maxDischargeDepth := 6) [q45]
          refine ACalls_fn tok Tryd.func111 (by kernel_rfl) rfl Tryd.ntmps111 Tryd.results111 rfl ?_
          simp only [argsA, Nat.reduceAdd]
          refine AWP_seqk [0, 1] fun K113 hK113 => ?_
          refine AWP_regl tok [] ?_
          simp -dsimp -implicitDefEqProofs (maxDischargeDepth := 6)
          refine keepE2 (l := [0, 1]) (x := [(0, .sl (N0 + 27) 0 l71.length), (1, .int .i64 5)]) (s := hp B [(N0 + 27, some ⟨47, 5, encL rInstr l71⟩)] (N0 + 31)) rfl rfl fun a' ha => ?_
          refine hK113 _ _ ?_; rw [ha]
          refine AWP_seqk [0] fun K114 hK114 => ?_
          obtain ⟨l72, hl72, H⟩ := bindE H
          have q46 : ∀ σ i, buildSliceA T 29 true i 1 [(0, .agg [.int .i64 12, .int .i64 17, .int .i64 0, .int .i64 0, .int .i64 5])] σ = some (.fsl (encL rInstr ([(⟨12, 17, 0, 0, 5⟩ : gInstr)] : List gInstr)), σ) := fun _ _ => rfl
          refine AWP_regl tok [3] ?_
          simp -dsimp -implicitDefEqProofs (maxDischargeDepth := 6) [q46, app29 hl72]
          refine keepE2 (l := [0]) (x := [(0, .sl (N0 + 35) 0 l72.length)]) (s := hp B [(N0 + 27, none), (N0 + 35, some ⟨47, 5, encL rInstr l72⟩)] (N0 + 37)) rfl rfl fun a' ha => ?_
          refine hK114 _ _ ?_; rw [ha]
          refine AWP_seqk [4] fun K115 hK115 => ?_
          obtain ⟨l73, hl73, H⟩ := bindE H
          have q47 : ∀ σ i, buildSliceA T 29 true i 1 [(0, .agg [.int .i64 15, .int .i64 1, .int .i64 0, .int .i64 0, .int .i64 0])] σ = some (.fsl (encL rInstr ([(⟨15, 1, 0, 0, 0⟩ : gInstr)] : List gInstr)), σ) := fun _ _ => rfl
          refine AWP_regl tok [2] ?_
          simp -dsimp -implicitDefEqProofs (maxDischargeDepth := 6) [q47, app29 hl73]
          refine keepE2 (l := [4]) (x := [(4, .sl (N0 + 40) 0 l73.length)]) (s := hp B [(N0 + 27, none), (N0 + 35, none), (N0 + 40, some ⟨47, 5, encL rInstr l73⟩)] (N0 + 42)) rfl rfl fun a' ha => ?_
          refine hK115 _ _ ?_; rw [ha]
          refine AWP_ret ?_
          have e0 : N0 ≤ N0 + 27 := by omega
          have e1 : N0 ≤ N0 + 35 := by omega
          have e2 : N0 ≤ N0 + 40 := by omega
          refine ⟨[.sl (N0 + 40) 0 l73.length], by simp [e0, e1, e2], ?_⟩
          simp -dsimp -implicitDefEqProofs (maxDischargeDepth := 6)
          refine keepE2 (l := [6]) (x := [(6, .sl (N0 + 40) 0 l73.length)]) (s := hp B [(N0 + 27, none), (N0 + 35, none), (N0 + 40, some ⟨47, 5, encL rInstr l73⟩)] (N0 + 42)) rfl rfl fun a' ha => ?_
          refine hK111 _ _ ?_; rw [ha]
          refine AWP_ret ?_
          replace H := Option.some.inj H; subst H
          have e0 : N0 ≤ N0 + 27 := by omega
          have e1 : N0 ≤ N0 + 35 := by omega
          have e2 : N0 ≤ N0 + 40 := by omega
          refine ⟨[.sl (N0 + 40) 0 l73.length], by simp [e0, e1, e2], ?_, ?_⟩
          ·
           simp [encL_nil, e0, e1, e2]
          ·
           intro o ho; exact lk_out (by simp; try omega)
end Go.Proofs.YtoklfbdcghgmlaaDoor
