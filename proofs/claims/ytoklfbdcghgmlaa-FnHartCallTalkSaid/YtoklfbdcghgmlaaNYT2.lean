/- The contracts of functions of the program, part 2: each computes what its mirror computes. No conditions. -/
import Derived.Test.YtoklfbdcghgmlaaNYT1
set_option linter.unusedSimpArgs false
set_option linter.unusedVariables false
set_option maxRecDepth 20000
set_option maxHeartbeats 4000000
namespace Go.Proofs.Ytoklfbdcghgmlaa
open Go Go.Abs Go.RowKit

theorem c105 {p0 : Int} {p1 : Int} {r : gInstr} (H : s_l43Move p0 p1 = some r) : APure Try.prog G 105 [.int .i64 p0, .int .i64 p1] (.agg [.int .i64 r.Op, .int .i64 r.Rd, .int .i64 r.Rs, .int .i64 r.Rt, .int .i64 r.Imm]) := by
 refine APure_fn (fun N0 => ?_) (by simp)
 refine ACalls_fn tok Try.func105 (by kernel_rfl) rfl Try.ntmps105 Try.results105 rfl ?_
 simp only [argsA, Nat.reduceAdd, hp_next]
 unfold s_l43Move at H
 refine AWP_sr tok [] [0, 1, 4] (fun a σ => a = [(0, .int .i64 p0), (1, .int .i64 p1), (4, .ptr N0 0 0)] ∧ σ = hp E0 [(N0, some ⟨131, 5, [[.int .i64 0, .int .i64 0, .int .i64 0, .int .i64 0, .int .i64 0]]⟩)] (N0 + 1)) (fun K hK => ?_) ?_
 ·
  skip
  simp -dsimp -implicitDefEqProofs (maxDischargeDepth := 6)
  exact hK _ _ ⟨rfl, rfl⟩
 rintro a σ ⟨rfl, rfl⟩
 refine AWP_sr tok [] [4] (fun a σ => a = [(4, .ptr N0 0 0)] ∧ σ = hp E0 [(N0, some ⟨131, 5, [[.int .i64 12, .int .i64 p0, .int .i64 p1, .int .i64 0, .int .i64 0]]⟩)] (N0 + 5)) (fun K hK => ?_) ?_
 ·
  skip
  simp -dsimp -implicitDefEqProofs (maxDischargeDepth := 6)
  exact hK _ _ ⟨rfl, rfl⟩
 rintro a σ ⟨rfl, rfl⟩
 replace H := Option.some.inj H; subst H
 refine AWP_kp [4] [(4, .ptr N0 0 0)] rfl ?_
 refine AWP_ret ?_
 exact ⟨[.agg [.int .i64 12, .int .i64 p0, .int .i64 p1, .int .i64 0, .int .i64 0]], by simp, 4, by simp [encL_nil]⟩
theorem c104_o {p0 : Int} {p1 : Int} {p2 : Int} {r : (List gInstr)} (H : s_l43Read_o p0 p1 p2 = some r) {σ : AHeap} : ACalls Try.prog G 104 [.int .i64 p0, .int .i64 p1, .int .i64 p2] σ (fun v σ' => ∃ M n0 : Nat, σ.next ≤ M ∧ σ.next ≤ n0 ∧ n0 < M ∧ v = .sl n0 0 r.length ∧ σ' = hp σ.objs [(n0, some ⟨131, 5, encL rInstr r⟩)] M) := by
 refine ACalls_fr (L := []) (Q1 := fun v σ' => ∃ M n0 : Nat, σ.next ≤ M ∧ σ.next ≤ n0 ∧ n0 < M ∧ v = .sl n0 0 r.length ∧ σ' = hp E0 [(n0, some ⟨131, 5, encL rInstr r⟩)] M) (by simp []) (fun hlt => ?_) ?_ ⟨_, Try.func104, rfl, rfl⟩
 rotate_left
 ·
  rintro v σ1 ⟨M, n0, h0, h1, h2, rfl, rfl⟩
  exact ⟨_, M, rfl, by simp, by simp; try omega, M, n0, h0, h1, h2, rfl, rfl⟩
 generalize σ.next = N0 at hlt ⊢
 refine ACalls_fn tok Try.func104 (by kernel_rfl) rfl Try.ntmps104 Try.results104 rfl ?_
 simp only [argsA, Nat.reduceAdd, hp_next]
 unfold s_l43Read_o at H
 refine AWP_sr tok [] [0, 1, 2] (fun a σ => a = [(0, .int .i64 p0), (1, .int .i64 p1), (2, .int .i64 p2)] ∧ σ = hp E0 [] (N0 + 1)) (fun K hK => ?_) ?_
 ·
  skip
  simp -dsimp -implicitDefEqProofs (maxDischargeDepth := 6)
  exact hK _ _ ⟨rfl, rfl⟩
 rintro a σ ⟨rfl, rfl⟩
 refine AWP_sq [0, 1, 2] fun K1 hK1 => ?_
 refine AWP_sr tok [] [0, 1, 2, 9] (fun a σ => a = [(0, .int .i64 p0), (1, .int .i64 p1), (2, .int .i64 p2), (9, .bool (ilt p0 p1))] ∧ σ = hp E0 [] (N0 + 4)) (fun K hK => ?_) ?_
 ·
  skip
  simp -dsimp -implicitDefEqProofs (maxDischargeDepth := 6)
  exact hK _ _ ⟨rfl, rfl⟩
 rintro a σ ⟨rfl, rfl⟩
 refine AWP_cond (ilt p0 p1) rfl (fun C1 => ?_) (fun C1 => ?_)
 ·
  replace H := ifT C1 H
  have q0 : ∀ σ i, buildSliceA T 100 true i 0 [] σ = some (.esl, σ) := fun _ _ => rfl
  refine AWP_sr tok [0] [6] (fun a σ => a = [(6, .esl)] ∧ σ = hp E0 [] (N0 + 6)) (fun K hK => ?_) ?_
  ·
   skip
   simp -dsimp -implicitDefEqProofs (maxDischargeDepth := 6) [q0]
   exact hK _ _ ⟨rfl, rfl⟩
  rintro a σ ⟨rfl, rfl⟩
  replace H := Option.some.inj H; subst H
  refine AWP_kp [6] [(6, .esl)] rfl ?_
  refine gNilS AWP_ref 6 131 5 [(N0 + 6, some ⟨131, 5, encL rInstr ([] : List gInstr)⟩)] [(6, .sl (N0 + 6) 0 ([] : List gInstr).length)] (by simp (disch := omega)) (by simp (disch := omega) [encL_nil]) [6] rfl ?_
  refine AWP_ret ?_
  refine ⟨[.sl (N0 + 6) 0 ([] : List gInstr).length], by simp, N0 + 7, N0 + 6, by omega, by omega, by omega, ?_, ?_⟩
  ·
   simp [encL_nil]
  ·
   first | rfl | simp [List.set_set]
 ·
  replace H := ifF C1 H
  refine AWP_skip ?_
  show K1 _ _
  refine keepE (l := [0, 1, 2]) (x := [(0, .int .i64 p0), (1, .int .i64 p1), (2, .int .i64 p2)]) rfl fun a' ha => ?_
  refine hK1 _ _ ?_; rw [ha]
  refine Rc.mk ?_
  obtain ⟨l1, hl1, H⟩ := bindE H
  have q1 : ∀ σ i, buildSliceA T 100 false i 1 [(0, .agg [.int .i64 14, .int .i64 p2, .int .i64 2, .int .i64 0, .int .i64 (imul .i64 4 (isub .i64 p0 p1))])] σ = some (.sl i 0 (List.length l1), σ.put i ⟨131, 5, encL rInstr l1⟩) := by rw [← Option.some.inj hl1]; intro _ _; rfl
  refine AWP_sr tok [] [6] (fun a σ => a = [(6, .sl (N0 + 10) 0 l1.length)] ∧ σ = hp E0 [(N0 + 10, some ⟨131, 5, encL rInstr l1⟩)] (N0 + 12)) (fun K hK => ?_) ?_
  ·
   skip
   simp -dsimp -implicitDefEqProofs (maxDischargeDepth := 6) [q1]
   exact hK _ _ ⟨rfl, rfl⟩
  rintro a σ ⟨rfl, rfl⟩
  replace H := Option.some.inj H; subst H
  refine AWP_kp [6] [(6, .sl (N0 + 10) 0 l1.length)] rfl ?_
  refine AWP_ret ?_
  refine ⟨[.sl (N0 + 10) 0 l1.length], by simp, N0 + 12, N0 + 10, by omega, by omega, by omega, ?_, ?_⟩
  ·
   simp [encL_nil]
  ·
   first | rfl | simp [List.set_set]
theorem c118 {p0 : Int} {r : Int} (H : s_l43Op p0 = some r) : APure Try.prog G 118 [.int .i64 p0] (.int .i64 r) := by
 refine APure_fn (fun N0 => ?_) (by simp)
 refine ACalls_fn tok Try.func118 (by kernel_rfl) rfl Try.ntmps118 Try.results118 rfl ?_
 simp only [argsA, Nat.reduceAdd, hp_next]
 unfold s_l43Op at H
 refine AWP_sr tok [] [0] (fun a σ => a = [(0, .int .i64 p0)] ∧ σ = hp E0 [] (N0 + 1)) (fun K hK => ?_) ?_
 ·
  skip
  simp -dsimp -implicitDefEqProofs (maxDischargeDepth := 6)
  exact hK _ _ ⟨rfl, rfl⟩
 rintro a σ ⟨rfl, rfl⟩
 have q0 : ∀ σ i, buildSliceA T 22 true i 12 [(0, .int .i64 7), (1, .int .i64 8), (2, .int .i64 6), (3, .int .i64 8), (4, .int .i64 11), (5, .int .i64 9), (6, .int .i64 10), (7, .int .i64 1), (8, .int .i64 2), (9, .int .i64 3), (10, .int .i64 4), (11, .int .i64 5)] σ = some (.fsl (encL rI ([7, 8, 6, 8, 11, 9, 10, 1, 2, 3, 4, 5] : List Int)), σ) := fun _ _ => rfl
 refine AWP_sr tok [0] [0, 3] (fun a σ => a = [(0, .int .i64 p0), (3, .fsl (encL rI ([7, 8, 6, 8, 11, 9, 10, 1, 2, 3, 4, 5] : List Int)))] ∧ σ = hp E0 [] (N0 + 3)) (fun K hK => ?_) ?_
 ·
  skip
  simp -dsimp -implicitDefEqProofs (maxDischargeDepth := 6) [q0]
  exact hK _ _ ⟨rfl, rfl⟩
 rintro a σ ⟨rfl, rfl⟩
 obtain ⟨v1, hv1, H⟩ := bindE H
 refine AWP_sr tok [] [2] (fun a σ => a = [(2, .int .i64 v1)] ∧ σ = hp E0 [] (N0 + 9)) (fun K hK => ?_) ?_
 ·
  skip
  simp -dsimp -implicitDefEqProofs (maxDischargeDepth := 6) [ix22 hv1]
  exact hK _ _ ⟨rfl, rfl⟩
 rintro a σ ⟨rfl, rfl⟩
 replace H := Option.some.inj H; subst H
 refine AWP_kp [2] [(2, .int .i64 v1)] rfl ?_
 refine AWP_ret ?_
 exact ⟨[.int .i64 v1], by simp, 4, by simp [encL_nil]⟩
theorem c106 {p0 : gQuad} {p1 : Int} {r : (List gInstr)} (H : s_l43Bin p0 p1 = some r) : APure Try.prog G 106 [.agg [.int .i64 p0.Op, .int .i64 p0.Dst, .int .i64 p0.A, .int .i64 p0.B, .int .i64 p0.N], .int .i64 p1] (.fsl (encL rInstr r)) := by
 refine APure_fn (fun N0 => ?_) (by simp)
 refine ACalls_fn tok Try.func106 (by kernel_rfl) rfl Try.ntmps106 Try.results106 rfl ?_
 simp only [argsA, Nat.reduceAdd, hp_next]
 unfold s_l43Bin at H
 refine AWP_sr tok [0] [1, 2] (fun a σ => a = [(1, .int .i64 p1), (2, .fptr [.int .i64 p0.Op, .int .i64 p0.Dst, .int .i64 p0.A, .int .i64 p0.B, .int .i64 p0.N] 0)] ∧ σ = hp E0 [] (N0 + 2)) (fun K hK => ?_) ?_
 ·
  skip
  simp -dsimp -implicitDefEqProofs (maxDischargeDepth := 6)
  exact hK _ _ ⟨rfl, rfl⟩
 rintro a σ ⟨rfl, rfl⟩
 obtain ⟨r1, hr1, H⟩ := bindE H
 obtain ⟨r2, hr2, H⟩ := bindE H
 obtain ⟨l3, hl3, H⟩ := bindE H
 refine AWP_sd tok tokM [] [3, 8] [0, 1, 2, 4, 5, 6, 3, 7, 8, 9] [1, 2, 5] (fun a σ => ∃ M1 o1 : Nat, N0 + 12 ≤ M1 ∧ N0 + 12 ≤ o1 ∧ o1 < M1 ∧ a = [(1, .int .i64 p1), (2, .fptr [.int .i64 p0.Op, .int .i64 p0.Dst, .int .i64 p0.A, .int .i64 p0.B, .int .i64 p0.N] 0), (5, .sl (N0 + 10) 0 l3.length)] ∧ σ = hp E0 [(N0 + 10, some ⟨131, 5, encL rInstr l3⟩)] M1) (by decide) (fun K hK => ?_) ?_
 ·
  simp only [pickL, nthO_succ, nthO_zero]
  simp -dsimp -implicitDefEqProofs (maxDischargeDepth := 6) [app100 hl3]
  refine (c104_o (H := hr1) ).mono ?_; rintro _ _ ⟨M1, o1, fM1_0, fM1_1, fM1_2, rfl, rfl⟩; simp only [hp_next] at fM1_0 fM1_1 fM1_2
  have eM1_0 := nq (a := o1) (b := N0 + 10) (by omega)
  try simp -dsimp -implicitDefEqProofs (maxDischargeDepth := 6) [app100 hl3, eM1_0, hp_over_some, hp_over_none]
  refine Pc.mk (c104 hr2) ?_; try simp -dsimp -implicitDefEqProofs (maxDischargeDepth := 6) [app100 hl3, eM1_0, hp_over_some, hp_over_none]
  exact hK _ _ ⟨M1, o1, (by omega), (by omega), (by omega), rfl, rfl⟩
 rintro a σ ⟨M1, o1, fM1_0, fM1_1, fM1_2, rfl, rfl⟩
 obtain ⟨r4, hr4, H⟩ := bindE H
 refine AWP_sr tok [] [1, 2, 5, 6] (fun a σ => a = [(1, .int .i64 p1), (2, .fptr [.int .i64 p0.Op, .int .i64 p0.Dst, .int .i64 p0.A, .int .i64 p0.B, .int .i64 p0.N] 0), (5, .sl (N0 + 10) 0 l3.length), (6, .int .i64 r4)] ∧ σ = hp E0 [(N0 + 10, some ⟨131, 5, encL rInstr l3⟩)] (M1 + 5)) (fun K hK => ?_) ?_
 ·
  skip
  simp -dsimp -implicitDefEqProofs (maxDischargeDepth := 6)
  refine (c101 hr4).app ?_; try simp -dsimp -implicitDefEqProofs (maxDischargeDepth := 6)
  exact hK _ _ ⟨rfl, rfl⟩
 rintro a σ ⟨rfl, rfl⟩
 obtain ⟨r5, hr5, H⟩ := bindE H
 obtain ⟨r6, hr6, H⟩ := bindE H
 obtain ⟨r7, hr7, H⟩ := bindE H
 obtain ⟨l8, hl8, H⟩ := bindE H
 have q0 : ∀ σ i, buildSliceA T 100 true i 1 [(0, .agg [.int .i64 r5, .int .i64 r4, .int .i64 r6, .int .i64 r7, .int .i64 0])] σ = some (.fsl (encL rInstr ([(⟨r5, r4, r6, r7, 0⟩ : gInstr)] : List gInstr)), σ) := fun _ _ => rfl
 refine AWP_sd tok tokM [14] [15] [0, 1, 2, 3, 4, 5, 6, 7, 8, 9, 10, 11, 12, 13, 14, 15, 16] [1, 2, 5, 6] (fun a σ => a = [(1, .int .i64 p1), (2, .fptr [.int .i64 p0.Op, .int .i64 p0.Dst, .int .i64 p0.A, .int .i64 p0.B, .int .i64 p0.N] 0), (5, .sl (M1 + 20) 0 l8.length), (6, .int .i64 r4)] ∧ σ = hp E0 [(M1 + 20, some ⟨131, 5, encL rInstr l8⟩)] (M1 + 22)) (by decide) (fun K hK => ?_) ?_
 ·
  simp only [pickL, nthO_succ, nthO_zero]
  have e0 := nq (a := N0 + 10) (b := M1 + 20) (by omega)
  have e1 := nq (a := N0) (b := M1 + 10) (by omega)
  simp -dsimp -implicitDefEqProofs (maxDischargeDepth := 6) [e0, e1, q0, app100 hl8]
  refine Pc.mk (c118 hr5) ?_; try simp -dsimp -implicitDefEqProofs (maxDischargeDepth := 6) [e0, e1, q0, app100 hl8]
  refine Pc.mk (c101 hr6) ?_; try simp -dsimp -implicitDefEqProofs (maxDischargeDepth := 6) [e0, e1, q0, app100 hl8]
  refine Pc.mk (c101 hr7) ?_; try simp -dsimp -implicitDefEqProofs (maxDischargeDepth := 6) [e0, e1, q0, app100 hl8]
  exact hK _ _ ⟨rfl, rfl⟩
 rintro a σ ⟨rfl, rfl⟩
 obtain ⟨j1, hj1, H⟩ := bindE H
 refine AWP_seq (AWP_named fun K1 hK1 => ?_)
 have hJ1 : ∀ a σ, Rc G 50 N0 (fun a σ => ∃ M2 o2 : Nat, N0 ≤ M2 ∧ N0 ≤ o2 ∧ o2 < M2 ∧ a = [(1, .int .i64 p1), (2, .fptr [.int .i64 p0.Op, .int .i64 p0.Dst, .int .i64 p0.A, .int .i64 p0.B, .int .i64 p0.N] 0), (5, .sl o2 0 j1.length)] ∧ σ = hp E0 [(o2, some ⟨131, 5, encL rInstr j1⟩)] M2) (a.keep [1, 2, 5]) σ → K1 a σ := by
  rintro a σ ⟨b, τ, hr, M2, o2, fM2_0, fM2_1, fM2_2, rfl, rfl⟩
  refine hK1 _ _ (AWP_keep [1, 2, 5] (AWP_ref hr ?_))
  obtain ⟨r10, hr10, H⟩ := bindE H
  refine AWP_sr tok [] [4] (fun a σ => ∃ M3 : Nat, M2 + 6 ≤ M3 ∧ a = [(4, .fsl (encL rInstr r10))] ∧ σ = hp E0 [] M3) (fun K hK => ?_) ?_
  ·
   skip
   simp -dsimp -implicitDefEqProofs (maxDischargeDepth := 6)
   refine (c102 (H := hr10) (by simp [])).mono ?_; rintro _ _ ⟨M3, fM3_0, rfl, rfl⟩; simp only [hp_next] at fM3_0
   try simp -dsimp -implicitDefEqProofs (maxDischargeDepth := 6) [hp_over_some, hp_over_none]
   exact hK _ _ ⟨M3, (by omega), rfl, rfl⟩
  rintro a σ ⟨M3, fM3_0, rfl, rfl⟩
  replace H := Option.some.inj H; subst H
  refine AWP_kp [4] [(4, .fsl (encL rInstr r10))] rfl ?_
  refine AWP_ret ?_
  exact ⟨[.fsl (encL rInstr r10)], by simp, 4, by simp [encL_nil]⟩
 replace H := hj1
 refine AWP_sr tok [] [1, 2, 5, 6, 38] (fun a σ => a = [(1, .int .i64 p1), (2, .fptr [.int .i64 p0.Op, .int .i64 p0.Dst, .int .i64 p0.A, .int .i64 p0.B, .int .i64 p0.N] 0), (5, .sl (M1 + 20) 0 l8.length), (6, .int .i64 r4), (38, .bool (ieq p0.N 4))] ∧ σ = hp E0 [(M1 + 20, some ⟨131, 5, encL rInstr l8⟩)] (M1 + 25)) (fun K hK => ?_) ?_
 ·
  skip
  simp -dsimp -implicitDefEqProofs (maxDischargeDepth := 6)
  exact hK _ _ ⟨rfl, rfl⟩
 rintro a σ ⟨rfl, rfl⟩
 refine AWP_cond (ieq p0.N 4) rfl (fun C1 => ?_) (fun C1 => ?_)
 ·
  replace H := ifT C1 H
  obtain ⟨l11, hl11, H⟩ := bindE H
  have q1 : ∀ σ i, buildSliceA T 100 true i 1 [(0, .agg [.int .i64 13, .int .i64 r4, .int .i64 r4, .int .i64 0, .int .i64 1])] σ = some (.fsl (encL rInstr ([(⟨13, r4, r4, 0, 1⟩ : gInstr)] : List gInstr)), σ) := fun _ _ => rfl
  refine AWP_rt tok [4] [1, 2, 5] (fun a σ => a = [(1, .int .i64 p1), (2, .fptr [.int .i64 p0.Op, .int .i64 p0.Dst, .int .i64 p0.A, .int .i64 p0.B, .int .i64 p0.N] 0), (5, .sl (M1 + 30) 0 l11.length)] ∧ σ = hp E0 [(M1 + 30, some ⟨131, 5, encL rInstr l11⟩)] (M1 + 32)) (fun K hK => ?_) ?_
  ·
   skip
   simp -dsimp -implicitDefEqProofs (maxDischargeDepth := 6) [q1, app100 hl11]
   exact hK _ _ ⟨rfl, rfl⟩
  rintro a σ ⟨ha, rfl⟩
  replace H := Option.some.inj H; subst H
  refine hJ1 _ _ ?_; rw [ha]
  exact Rc.fin (AHeap.Sub.refl _) ⟨M1 + 32, (M1 + 30), (by omega), (by omega), (by omega), rfl, rfl⟩
 ·
  replace H := ifF C1 H
  refine AWP_skip ?_
  show K1 _ _
  refine keepE (l := [1, 2, 5]) (x := [(1, .int .i64 p1), (2, .fptr [.int .i64 p0.Op, .int .i64 p0.Dst, .int .i64 p0.A, .int .i64 p0.B, .int .i64 p0.N] 0), (5, .sl (M1 + 20) 0 l8.length)]) rfl fun a' ha => ?_
  replace H := Option.some.inj H; subst H
  refine hJ1 _ _ ?_; rw [ha]
  exact Rc.fin (AHeap.Sub.refl _) ⟨M1 + 25, (M1 + 20), (by omega), (by omega), (by omega), rfl, rfl⟩
theorem c107 {p0 : gQuad} {p1 : Int} {p2 : Int} {r : (List gInstr)} (H : s_l43Zero p0 p1 p2 = some r) : APure Try.prog G 107 [.agg [.int .i64 p0.Op, .int .i64 p0.Dst, .int .i64 p0.A, .int .i64 p0.B, .int .i64 p0.N], .int .i64 p1, .int .i64 p2] (.fsl (encL rInstr r)) := by
 refine APure_fn (fun N0 => ?_) (by simp)
 refine ACalls_fn tok Try.func107 (by kernel_rfl) rfl Try.ntmps107 Try.results107 rfl ?_
 simp only [argsA, Nat.reduceAdd, hp_next]
 unfold s_l43Zero at H
 refine AWP_sr tok [0] [1, 2, 3] (fun a σ => a = [(1, .int .i64 p1), (2, .int .i64 p2), (3, .fptr [.int .i64 p0.Op, .int .i64 p0.Dst, .int .i64 p0.A, .int .i64 p0.B, .int .i64 p0.N] 0)] ∧ σ = hp E0 [] (N0 + 2)) (fun K hK => ?_) ?_
 ·
  skip
  simp -dsimp -implicitDefEqProofs (maxDischargeDepth := 6)
  exact hK _ _ ⟨rfl, rfl⟩
 rintro a σ ⟨rfl, rfl⟩
 obtain ⟨r1, hr1, H⟩ := bindE H
 obtain ⟨r2, hr2, H⟩ := bindE H
 obtain ⟨l3, hl3, H⟩ := bindE H
 have q0 : ∀ σ i, buildSliceA T 100 true i 1 [(0, .agg [.int .i64 18, .int .i64 0, .int .i64 r2, .int .i64 0, .int .i64 8])] σ = some (.fsl (encL rInstr ([(⟨18, 0, r2, 0, 8⟩ : gInstr)] : List gInstr)), σ) := fun _ _ => rfl
 refine AWP_sd tok tokM [9] [3, 10] [0, 1, 2, 4, 5, 6, 3, 7, 8, 9, 10, 11] [2, 7] (fun a σ => ∃ M1 o1 : Nat, N0 + 14 ≤ M1 ∧ N0 + 14 ≤ o1 ∧ o1 < M1 ∧ a = [(2, .int .i64 p2), (7, .sl (N0 + 12) 0 l3.length)] ∧ σ = hp E0 [(N0 + 12, some ⟨131, 5, encL rInstr l3⟩)] M1) (by decide) (fun K hK => ?_) ?_
 ·
  simp only [pickL, nthO_succ, nthO_zero]
  simp -dsimp -implicitDefEqProofs (maxDischargeDepth := 6) [q0, app100 hl3]
  refine (c104_o (H := hr1) ).mono ?_; rintro _ _ ⟨M1, o1, fM1_0, fM1_1, fM1_2, rfl, rfl⟩; simp only [hp_next] at fM1_0 fM1_1 fM1_2
  have eM1_0 := nq (a := o1) (b := N0 + 12) (by omega)
  try simp -dsimp -implicitDefEqProofs (maxDischargeDepth := 6) [q0, app100 hl3, eM1_0, hp_over_some, hp_over_none]
  refine Pc.mk (c101 hr2) ?_; try simp -dsimp -implicitDefEqProofs (maxDischargeDepth := 6) [q0, app100 hl3, eM1_0, hp_over_some, hp_over_none]
  exact hK _ _ ⟨M1, o1, (by omega), (by omega), (by omega), rfl, rfl⟩
 rintro a σ ⟨M1, o1, fM1_0, fM1_1, fM1_2, rfl, rfl⟩
 obtain ⟨l4, hl4, H⟩ := bindE H
 have q1 : ∀ σ i, buildSliceA T 100 true i 1 [(0, .agg [.int .i64 20, .int .i64 0, .int .i64 0, .int .i64 0, .int .i64 (isub .i64 p2 (imul .i64 4 (ilen l3)))])] σ = some (.fsl (encL rInstr ([(⟨20, 0, 0, 0, isub .i64 p2 (imul .i64 4 (ilen l3))⟩ : gInstr)] : List gInstr)), σ) := fun _ _ => rfl
 refine AWP_sr tok [7] [6] (fun a σ => a = [(6, .sl (M1 + 8) 0 l4.length)] ∧ σ = hp E0 [(M1 + 8, some ⟨131, 5, encL rInstr l4⟩)] (M1 + 10)) (fun K hK => ?_) ?_
 ·
  skip
  have e0 := nq (a := N0 + 12) (b := M1 + 8) (by omega)
  have e1 := nq (a := N0 + 4) (b := M1) (by omega)
  simp -dsimp -implicitDefEqProofs (maxDischargeDepth := 6) [e0, e1, q1, app100 hl4]
  exact hK _ _ ⟨rfl, rfl⟩
 rintro a σ ⟨rfl, rfl⟩
 refine gFrz AWP_ref 4 [M1 + 8] [] [(6, .fsl (encL rInstr l4))] (by simp) (cutD (by simp)) ?_
 replace H := Option.some.inj H; subst H
 refine AWP_kp [6] [(6, .fsl (encL rInstr l4))] rfl ?_
 refine AWP_ret ?_
 exact ⟨[.fsl (encL rInstr l4)], by simp, 4, by simp [encL_nil]⟩
theorem c110 {p0 : Int} {r : gInstr} (H : s_l43Box p0 = some r) : APure Try.prog G 110 [.int .i64 p0] (.agg [.int .i64 r.Op, .int .i64 r.Rd, .int .i64 r.Rs, .int .i64 r.Rt, .int .i64 r.Imm]) := by
 refine APure_fn (fun N0 => ?_) (by simp)
 refine ACalls_fn tok Try.func110 (by kernel_rfl) rfl Try.ntmps110 Try.results110 rfl ?_
 simp only [argsA, Nat.reduceAdd, hp_next]
 unfold s_l43Box at H
 refine AWP_sr tok [] [0, 2] (fun a σ => a = [(0, .int .i64 p0), (2, .ptr N0 0 0)] ∧ σ = hp E0 [(N0, some ⟨131, 5, [[.int .i64 0, .int .i64 0, .int .i64 0, .int .i64 0, .int .i64 0]]⟩)] (N0 + 1)) (fun K hK => ?_) ?_
 ·
  skip
  simp -dsimp -implicitDefEqProofs (maxDischargeDepth := 6)
  exact hK _ _ ⟨rfl, rfl⟩
 rintro a σ ⟨rfl, rfl⟩
 refine AWP_sr tok [] [2] (fun a σ => a = [(2, .ptr N0 0 0)] ∧ σ = hp E0 [(N0, some ⟨131, 5, [[.int .i64 12, .int .i64 11, .int .i64 0, .int .i64 0, .int .i64 p0]]⟩)] (N0 + 4)) (fun K hK => ?_) ?_
 ·
  skip
  simp -dsimp -implicitDefEqProofs (maxDischargeDepth := 6)
  exact hK _ _ ⟨rfl, rfl⟩
 rintro a σ ⟨rfl, rfl⟩
 replace H := Option.some.inj H; subst H
 refine AWP_kp [2] [(2, .ptr N0 0 0)] rfl ?_
 refine AWP_ret ?_
 exact ⟨[.agg [.int .i64 12, .int .i64 11, .int .i64 0, .int .i64 0, .int .i64 p0]], by simp, 4, by simp [encL_nil]⟩
theorem c109_o {p0 : Int} {p1 : Int} {r : (List gInstr)} (H : s_l43Give_o p0 p1 = some r) {σ : AHeap} : ACalls Try.prog G 109 [.int .i64 p0, .int .i64 p1] σ (fun v σ' => ∃ M n0 : Nat, σ.next ≤ M ∧ σ.next ≤ n0 ∧ n0 < M ∧ v = .sl n0 0 r.length ∧ σ' = hp σ.objs [(n0, some ⟨131, 5, encL rInstr r⟩)] M) := by
 refine ACalls_fr (L := []) (Q1 := fun v σ' => ∃ M n0 : Nat, σ.next ≤ M ∧ σ.next ≤ n0 ∧ n0 < M ∧ v = .sl n0 0 r.length ∧ σ' = hp E0 [(n0, some ⟨131, 5, encL rInstr r⟩)] M) (by simp []) (fun hlt => ?_) ?_ ⟨_, Try.func109, rfl, rfl⟩
 rotate_left
 ·
  rintro v σ1 ⟨M, n0, h0, h1, h2, rfl, rfl⟩
  exact ⟨_, M, rfl, by simp, by simp; try omega, M, n0, h0, h1, h2, rfl, rfl⟩
 generalize σ.next = N0 at hlt ⊢
 refine ACalls_fn tok Try.func109 (by kernel_rfl) rfl Try.ntmps109 Try.results109 rfl ?_
 simp only [argsA, Nat.reduceAdd, hp_next]
 unfold s_l43Give_o at H
 refine AWP_sr tok [] [0, 1] (fun a σ => a = [(0, .int .i64 p0), (1, .int .i64 p1)] ∧ σ = hp E0 [] (N0 + 1)) (fun K hK => ?_) ?_
 ·
  skip
  simp -dsimp -implicitDefEqProofs (maxDischargeDepth := 6)
  exact hK _ _ ⟨rfl, rfl⟩
 rintro a σ ⟨rfl, rfl⟩
 obtain ⟨r1, hr1, H⟩ := bindE H
 obtain ⟨r2, hr2, H⟩ := bindE H
 obtain ⟨r3, hr3, H⟩ := bindE H
 obtain ⟨l4, hl4, H⟩ := bindE H
 have q0 : ∀ σ i, buildSliceA T 100 true i 1 [(0, .agg [.int .i64 r3.Op, .int .i64 r3.Rd, .int .i64 r3.Rs, .int .i64 r3.Rt, .int .i64 r3.Imm])] σ = some (.fsl (encL rInstr ([r3] : List gInstr)), σ) := fun _ _ => rfl
 refine AWP_sr tok [7] [4] (fun a σ => ∃ M1 o1 : Nat, N0 + 11 ≤ M1 ∧ N0 + 11 ≤ o1 ∧ o1 < M1 ∧ a = [(4, .sl (N0 + 9) 0 l4.length)] ∧ σ = hp E0 [(N0 + 9, some ⟨131, 5, encL rInstr l4⟩)] M1) (fun K hK => ?_) ?_
 ·
  skip
  simp -dsimp -implicitDefEqProofs (maxDischargeDepth := 6) [q0, app100 hl4]
  refine (c104_o (H := hr1) ).mono ?_; rintro _ _ ⟨M1, o1, fM1_0, fM1_1, fM1_2, rfl, rfl⟩; simp only [hp_next] at fM1_0 fM1_1 fM1_2
  have eM1_0 := nq (a := o1) (b := N0 + 9) (by omega)
  try simp -dsimp -implicitDefEqProofs (maxDischargeDepth := 6) [q0, app100 hl4, eM1_0, hp_over_some, hp_over_none]
  refine (c101 hr2).app ?_; try simp -dsimp -implicitDefEqProofs (maxDischargeDepth := 6) [q0, app100 hl4, eM1_0, hp_over_some, hp_over_none]
  refine (c105 hr3).app ?_; try simp -dsimp -implicitDefEqProofs (maxDischargeDepth := 6) [q0, app100 hl4, eM1_0, hp_over_some, hp_over_none]
  exact hK _ _ ⟨M1, o1, (by omega), (by omega), (by omega), rfl, rfl⟩
 rintro a σ ⟨M1, o1, fM1_0, fM1_1, fM1_2, rfl, rfl⟩
 replace H := Option.some.inj H; subst H
 refine AWP_kp [4] [(4, .sl (N0 + 9) 0 l4.length)] rfl ?_
 refine AWP_ret ?_
 refine ⟨[.sl (N0 + 9) 0 l4.length], by simp, M1, N0 + 9, by omega, by omega, by omega, ?_, ?_⟩
 ·
  simp [encL_nil]
 ·
  first | rfl | simp [List.set_set]
theorem c108 {p0 : (List gInstr)} {p1 : Int} {r : (List gInstr)} (H : s_l43Call p0 p1 = some r) {σ : AHeap} {w0 : Nat} (q0 : σ.objs w0 = some ⟨131, 5, encL rInstr p0⟩) : ACalls Try.prog G 108 [.sl w0 0 p0.length, .int .i64 p1] σ (fun v σ' => ∃ M : Nat, σ.next ≤ M ∧ v = .fsl (encL rInstr r) ∧ σ' = hp σ.objs [(w0, none)] M) := by
 refine ACalls_fr (L := [(w0, some ⟨131, 5, encL rInstr p0⟩)]) (Q1 := fun v σ' => ∃ M : Nat, σ.next ≤ M ∧ v = .fsl (encL rInstr r) ∧ σ' = hp E0 [(w0, none)] M) (by simp [q0]) (fun hlt => ?_) ?_ ⟨_, Try.func108, rfl, rfl⟩
 rotate_left
 ·
  rintro v σ1 ⟨M, h0, rfl, rfl⟩
  exact ⟨_, M, rfl, by simp, by simp; try omega, M, h0, rfl, rfl⟩
 generalize σ.next = N0 at hlt ⊢
 have lw0 : w0 < N0 := hlt _ (.head _) rfl
 refine ACalls_fn tok Try.func108 (by kernel_rfl) rfl Try.ntmps108 Try.results108 rfl ?_
 simp only [argsA, Nat.reduceAdd, hp_next]
 unfold s_l43Call at H
 refine AWP_sr tok [] [0, 1] (fun a σ => a = [(0, .sl w0 0 p0.length), (1, .int .i64 p1)] ∧ σ = hp E0 [(w0, some ⟨131, 5, encL rInstr p0⟩)] (N0 + 1)) (fun K hK => ?_) ?_
 ·
  skip
  simp -dsimp -implicitDefEqProofs (maxDischargeDepth := 6)
  exact hK _ _ ⟨rfl, rfl⟩
 rintro a σ ⟨rfl, rfl⟩
 obtain ⟨l1, hl1, H⟩ := bindE H
 have q0 : ∀ σ i, buildSliceA T 100 true i 1 [(0, .agg [.int .i64 12, .int .i64 17, .int .i64 0, .int .i64 0, .int .i64 p1])] σ = some (.fsl (encL rInstr ([(⟨12, 17, 0, 0, p1⟩ : gInstr)] : List gInstr)), σ) := fun _ _ => rfl
 refine AWP_sr tok [3] [0] (fun a σ => a = [(0, .sl (N0 + 5) 0 l1.length)] ∧ σ = hp E0 [(N0 + 5, some ⟨131, 5, encL rInstr l1⟩)] (N0 + 7)) (fun K hK => ?_) ?_
 ·
  skip
  have e0 := nq (a := w0) (b := N0 + 5) (by omega)
  simp -dsimp -implicitDefEqProofs (maxDischargeDepth := 6) [e0, q0, app100 hl1]
  exact hK _ _ ⟨rfl, rfl⟩
 rintro a σ ⟨rfl, rfl⟩
 obtain ⟨l2, hl2, H⟩ := bindE H
 have q1 : ∀ σ i, buildSliceA T 100 true i 1 [(0, .agg [.int .i64 15, .int .i64 1, .int .i64 0, .int .i64 0, .int .i64 0])] σ = some (.fsl (encL rInstr ([(⟨15, 1, 0, 0, 0⟩ : gInstr)] : List gInstr)), σ) := fun _ _ => rfl
 refine AWP_sr tok [2] [4] (fun a σ => a = [(4, .sl (N0 + 10) 0 l2.length)] ∧ σ = hp E0 [(N0 + 10, some ⟨131, 5, encL rInstr l2⟩)] (N0 + 12)) (fun K hK => ?_) ?_
 ·
  skip
  simp -dsimp -implicitDefEqProofs (maxDischargeDepth := 6) [q1, app100 hl2]
  exact hK _ _ ⟨rfl, rfl⟩
 rintro a σ ⟨rfl, rfl⟩
 refine gFrz AWP_ref 4 [N0 + 10] [] [(4, .fsl (encL rInstr l2))] (by simp) (cutD (by simp)) ?_
 replace H := Option.some.inj H; subst H
 refine AWP_kp [4] [(4, .fsl (encL rInstr l2))] rfl ?_
 refine AWP_ret ?_
 refine ⟨[.fsl (encL rInstr l2)], by simp, N0 + 12, by omega, ?_, ?_⟩
 ·
  simp [encL_nil]
 ·
  symm; first | exact hp_tail (L := []) | (simp only [List.set_set]; exact hp_tail (L := []))
theorem c108_o {p0 : (List gInstr)} {p1 : Int} {r : (List gInstr)} (H : s_l43Call_o p0 p1 = some r) {σ : AHeap} {w0 : Nat} (q0 : σ.objs w0 = some ⟨131, 5, encL rInstr p0⟩) : ACalls Try.prog G 108 [.sl w0 0 p0.length, .int .i64 p1] σ (fun v σ' => ∃ M n0 : Nat, σ.next ≤ M ∧ σ.next ≤ n0 ∧ n0 < M ∧ v = .sl n0 0 r.length ∧ σ' = hp σ.objs [(n0, some ⟨131, 5, encL rInstr r⟩), (w0, none)] M) := by
 refine ACalls_fr (L := [(w0, some ⟨131, 5, encL rInstr p0⟩)]) (Q1 := fun v σ' => ∃ M n0 : Nat, σ.next ≤ M ∧ σ.next ≤ n0 ∧ n0 < M ∧ v = .sl n0 0 r.length ∧ σ' = hp E0 [(n0, some ⟨131, 5, encL rInstr r⟩), (w0, none)] M) (by simp [q0]) (fun hlt => ?_) ?_ ⟨_, Try.func108, rfl, rfl⟩
 rotate_left
 ·
  rintro v σ1 ⟨M, n0, h0, h1, h2, rfl, rfl⟩
  exact ⟨_, M, rfl, by simp, by simp; try omega, M, n0, h0, h1, h2, rfl, rfl⟩
 generalize σ.next = N0 at hlt ⊢
 have lw0 : w0 < N0 := hlt _ (.head _) rfl
 refine ACalls_fn tok Try.func108 (by kernel_rfl) rfl Try.ntmps108 Try.results108 rfl ?_
 simp only [argsA, Nat.reduceAdd, hp_next]
 unfold s_l43Call_o at H
 refine AWP_sr tok [] [0, 1] (fun a σ => a = [(0, .sl w0 0 p0.length), (1, .int .i64 p1)] ∧ σ = hp E0 [(w0, some ⟨131, 5, encL rInstr p0⟩)] (N0 + 1)) (fun K hK => ?_) ?_
 ·
  skip
  simp -dsimp -implicitDefEqProofs (maxDischargeDepth := 6)
  exact hK _ _ ⟨rfl, rfl⟩
 rintro a σ ⟨rfl, rfl⟩
 obtain ⟨l1, hl1, H⟩ := bindE H
 have q0 : ∀ σ i, buildSliceA T 100 true i 1 [(0, .agg [.int .i64 12, .int .i64 17, .int .i64 0, .int .i64 0, .int .i64 p1])] σ = some (.fsl (encL rInstr ([(⟨12, 17, 0, 0, p1⟩ : gInstr)] : List gInstr)), σ) := fun _ _ => rfl
 refine AWP_sr tok [3] [0] (fun a σ => a = [(0, .sl (N0 + 5) 0 l1.length)] ∧ σ = hp E0 [(N0 + 5, some ⟨131, 5, encL rInstr l1⟩)] (N0 + 7)) (fun K hK => ?_) ?_
 ·
  skip
  have e0 := nq (a := w0) (b := N0 + 5) (by omega)
  simp -dsimp -implicitDefEqProofs (maxDischargeDepth := 6) [e0, q0, app100 hl1]
  exact hK _ _ ⟨rfl, rfl⟩
 rintro a σ ⟨rfl, rfl⟩
 obtain ⟨l2, hl2, H⟩ := bindE H
 have q1 : ∀ σ i, buildSliceA T 100 true i 1 [(0, .agg [.int .i64 15, .int .i64 1, .int .i64 0, .int .i64 0, .int .i64 0])] σ = some (.fsl (encL rInstr ([(⟨15, 1, 0, 0, 0⟩ : gInstr)] : List gInstr)), σ) := fun _ _ => rfl
 refine AWP_sr tok [2] [4] (fun a σ => a = [(4, .sl (N0 + 10) 0 l2.length)] ∧ σ = hp E0 [(N0 + 10, some ⟨131, 5, encL rInstr l2⟩)] (N0 + 12)) (fun K hK => ?_) ?_
 ·
  skip
  simp -dsimp -implicitDefEqProofs (maxDischargeDepth := 6) [q1, app100 hl2]
  exact hK _ _ ⟨rfl, rfl⟩
 rintro a σ ⟨rfl, rfl⟩
 replace H := Option.some.inj H; subst H
 refine AWP_kp [4] [(4, .sl (N0 + 10) 0 l2.length)] rfl ?_
 refine AWP_ret ?_
 refine ⟨[.sl (N0 + 10) 0 l2.length], by simp, N0 + 12, N0 + 10, by omega, by omega, by omega, ?_, ?_⟩
 ·
  simp [encL_nil]
 ·
  symm; first | exact hp_tail (L := [(N0 + 10, some ⟨131, 5, encL rInstr l2⟩)]) | (simp only [List.set_set]; exact hp_tail (L := [(N0 + 10, some ⟨131, 5, encL rInstr l2⟩)]))
theorem c93 {p0 : gQuad} {p1 : Int} {p2 : Int} {r : (List gInstr)} (H : s_l43Quad p0 p1 p2 = some r) : APure Try.prog G 93 [.agg [.int .i64 p0.Op, .int .i64 p0.Dst, .int .i64 p0.A, .int .i64 p0.B, .int .i64 p0.N], .int .i64 p1, .int .i64 p2] (.fsl (encL rInstr r)) := by
 refine APure_fn (fun N0 => ?_) (by simp)
 refine ACalls_fn tok Try.func93 (by kernel_rfl) rfl Try.ntmps93 Try.results93 rfl ?_
 simp only [argsA, Nat.reduceAdd, hp_next]
 unfold s_l43Quad at H
 refine AWP_sr tok [0] [1, 2, 3] (fun a σ => a = [(1, .int .i64 p1), (2, .int .i64 p2), (3, .fptr [.int .i64 p0.Op, .int .i64 p0.Dst, .int .i64 p0.A, .int .i64 p0.B, .int .i64 p0.N] 0)] ∧ σ = hp E0 [] (N0 + 2)) (fun K hK => ?_) ?_
 ·
  skip
  simp -dsimp -implicitDefEqProofs (maxDischargeDepth := 6)
  exact hK _ _ ⟨rfl, rfl⟩
 rintro a σ ⟨rfl, rfl⟩
 obtain ⟨r1, hr1, H⟩ := bindE H
 refine AWP_sr tok [] [1, 2, 3, 7] (fun a σ => a = [(1, .int .i64 p1), (2, .int .i64 p2), (3, .fptr [.int .i64 p0.Op, .int .i64 p0.Dst, .int .i64 p0.A, .int .i64 p0.B, .int .i64 p0.N] 0), (7, .int .i64 r1)] ∧ σ = hp E0 [] (N0 + 7)) (fun K hK => ?_) ?_
 ·
  skip
  simp -dsimp -implicitDefEqProofs (maxDischargeDepth := 6)
  refine (c101 hr1).app ?_; try simp -dsimp -implicitDefEqProofs (maxDischargeDepth := 6)
  exact hK _ _ ⟨rfl, rfl⟩
 rintro a σ ⟨rfl, rfl⟩
 refine AWP_sq [] fun K1 hK1 => ?_
 refine AWP_sr tok [] [1, 2, 3, 7, 14] (fun a σ => a = [(1, .int .i64 p1), (2, .int .i64 p2), (3, .fptr [.int .i64 p0.Op, .int .i64 p0.Dst, .int .i64 p0.A, .int .i64 p0.B, .int .i64 p0.N] 0), (7, .int .i64 r1), (14, .int .i64 p0.Op)] ∧ σ = hp E0 [] (N0 + 9)) (fun K hK => ?_) ?_
 ·
  skip
  simp -dsimp -implicitDefEqProofs (maxDischargeDepth := 6)
  exact hK _ _ ⟨rfl, rfl⟩
 rintro a σ ⟨rfl, rfl⟩
 refine AWP_block (AWP_thenB ?_)
 refine AWP_sr tok [] [1, 2, 3, 7, 14, 15] (fun a σ => a = [(1, .int .i64 p1), (2, .int .i64 p2), (3, .fptr [.int .i64 p0.Op, .int .i64 p0.Dst, .int .i64 p0.A, .int .i64 p0.B, .int .i64 p0.N] 0), (7, .int .i64 r1), (14, .int .i64 p0.Op), (15, .bool (ieq p0.Op 1))] ∧ σ = hp E0 [] (N0 + 11)) (fun K hK => ?_) ?_
 ·
  skip
  simp -dsimp -implicitDefEqProofs (maxDischargeDepth := 6)
  exact hK _ _ ⟨rfl, rfl⟩
 rintro a σ ⟨rfl, rfl⟩
 refine AWP_cond (ieq p0.Op 1) rfl (fun C1 => ?_) (fun C1 => ?_)
 ·
  replace H := ifT C1 H
  obtain ⟨r2, hr2, H⟩ := bindE H
  obtain ⟨r3, hr3, H⟩ := bindE H
  refine AWP_sd tok tokM [] [3, 7] [0, 1, 2, 4, 5, 6, 3, 7, 8] [6] (fun a σ => ∃ M1 o1 : Nat, ∃ M2 : Nat, N0 + 20 ≤ M1 ∧ N0 + 20 ≤ o1 ∧ o1 < M1 ∧ M1 ≤ M2 ∧ a = [(6, .fsl (encL rInstr r3))] ∧ σ = hp E0 [] M2) (by decide) (fun K hK => ?_) ?_
  ·
   simp only [pickL, nthO_succ, nthO_zero]
   simp -dsimp -implicitDefEqProofs (maxDischargeDepth := 6)
   refine (c103_o (H := hr2) ).mono ?_; rintro _ _ ⟨M1, o1, fM1_0, fM1_1, fM1_2, rfl, rfl⟩; simp only [hp_next] at fM1_0 fM1_1 fM1_2
   try simp -dsimp -implicitDefEqProofs (maxDischargeDepth := 6) [hp_over_some, hp_over_none]
   refine (c102 (H := hr3) (by simp [hp_over_some, hp_over_none])).mono ?_; rintro _ _ ⟨M2, fM2_0, rfl, rfl⟩; simp only [hp_next] at fM2_0
   try simp -dsimp -implicitDefEqProofs (maxDischargeDepth := 6) [hp_over_some, hp_over_none, hp_over_some, hp_over_none]
   exact hK _ _ ⟨M1, o1, M2, (by omega), (by omega), (by omega), (by omega), rfl, rfl⟩
  rintro a σ ⟨M1, o1, M2, fM1_0, fM1_1, fM1_2, fM2_0, rfl, rfl⟩
  replace H := Option.some.inj H; subst H
  refine AWP_kp [6] [(6, .fsl (encL rInstr r3))] rfl ?_
  refine AWP_ret ?_
  exact ⟨[.fsl (encL rInstr r3)], by simp, 4, by simp [encL_nil]⟩
 ·
  replace H := ifF C1 H
  refine AWP_sr tok [] [1, 2, 3, 7, 14, 25] (fun a σ => a = [(1, .int .i64 p1), (2, .int .i64 p2), (3, .fptr [.int .i64 p0.Op, .int .i64 p0.Dst, .int .i64 p0.A, .int .i64 p0.B, .int .i64 p0.N] 0), (7, .int .i64 r1), (14, .int .i64 p0.Op), (25, .bool (ieq p0.Op 2))] ∧ σ = hp E0 [] (N0 + 13)) (fun K hK => ?_) ?_
  ·
   skip
   simp -dsimp -implicitDefEqProofs (maxDischargeDepth := 6)
   exact hK _ _ ⟨rfl, rfl⟩
  rintro a σ ⟨rfl, rfl⟩
  refine AWP_cond (ieq p0.Op 2) rfl (fun C2 => ?_) (fun C2 => ?_)
  ·
   replace H := ifT C2 H
   obtain ⟨r4, hr4, H⟩ := bindE H
   obtain ⟨r5, hr5, H⟩ := bindE H
   obtain ⟨r6, hr6, H⟩ := bindE H
   obtain ⟨l7, hl7, H⟩ := bindE H
   obtain ⟨r8, hr8, H⟩ := bindE H
   have q0 : ∀ σ i, buildSliceA T 100 true i 1 [(0, .agg [.int .i64 r6.Op, .int .i64 r6.Rd, .int .i64 r6.Rs, .int .i64 r6.Rt, .int .i64 r6.Imm])] σ = some (.fsl (encL rInstr ([r6] : List gInstr)), σ) := fun _ _ => rfl
   refine AWP_sd tok tokM [10] [3, 11, 15] [0, 1, 2, 4, 5, 6, 7, 12, 13, 14, 3, 8, 9, 10, 11, 15, 16] [6] (fun a σ => ∃ M3 o2 : Nat, ∃ M4 : Nat, N0 + 30 ≤ M3 ∧ N0 + 30 ≤ o2 ∧ o2 < M3 ∧ M3 ≤ M4 ∧ a = [(6, .fsl (encL rInstr r8))] ∧ σ = hp E0 [] M4) (by decide) (fun K hK => ?_) ?_
   ·
    simp only [pickL, nthO_succ, nthO_zero]
    simp -dsimp -implicitDefEqProofs (maxDischargeDepth := 6) [q0, app100 hl7]
    refine (c104_o (H := hr4) ).mono ?_; rintro _ _ ⟨M3, o2, fM3_0, fM3_1, fM3_2, rfl, rfl⟩; simp only [hp_next] at fM3_0 fM3_1 fM3_2
    have eM3_0 := nq (a := o2) (b := N0 + 24) (by omega)
    try simp -dsimp -implicitDefEqProofs (maxDischargeDepth := 6) [q0, app100 hl7, eM3_0, hp_over_some, hp_over_none]
    refine Pc.mk (c101 hr5) ?_; try simp -dsimp -implicitDefEqProofs (maxDischargeDepth := 6) [q0, app100 hl7, eM3_0, hp_over_some, hp_over_none]
    refine Pc.mk (c105 hr6) ?_; try simp -dsimp -implicitDefEqProofs (maxDischargeDepth := 6) [q0, app100 hl7, eM3_0, hp_over_some, hp_over_none]
    refine (c102 (H := hr8) (by simp [q0, app100 hl7, eM3_0, hp_over_some, hp_over_none])).mono ?_; rintro _ _ ⟨M4, fM4_0, rfl, rfl⟩; simp only [hp_next] at fM4_0
    try simp -dsimp -implicitDefEqProofs (maxDischargeDepth := 6) [q0, app100 hl7, eM3_0, hp_over_some, hp_over_none, hp_over_some, hp_over_none]
    exact hK _ _ ⟨M3, o2, M4, (by omega), (by omega), (by omega), (by omega), rfl, rfl⟩
   rintro a σ ⟨M3, o2, M4, fM3_0, fM3_1, fM3_2, fM4_0, rfl, rfl⟩
   refine gFrz AWP_ref 4 [] [] [(6, .fsl (encL rInstr r8))] (by simp) (cutD (by simp)) ?_
   replace H := Option.some.inj H; subst H
   refine AWP_kp [6] [(6, .fsl (encL rInstr r8))] rfl ?_
   refine AWP_ret ?_
   exact ⟨[.fsl (encL rInstr r8)], by simp, 4, by simp [encL_nil]⟩
  ·
   replace H := ifF C2 H
   refine AWP_sr tok [] [1, 2, 3, 7, 14, 43] (fun a σ => a = [(1, .int .i64 p1), (2, .int .i64 p2), (3, .fptr [.int .i64 p0.Op, .int .i64 p0.Dst, .int .i64 p0.A, .int .i64 p0.B, .int .i64 p0.N] 0), (7, .int .i64 r1), (14, .int .i64 p0.Op), (43, .bool (ieq p0.Op 3))] ∧ σ = hp E0 [] (N0 + 15)) (fun K hK => ?_) ?_
   ·
    skip
    simp -dsimp -implicitDefEqProofs (maxDischargeDepth := 6)
    exact hK _ _ ⟨rfl, rfl⟩
   rintro a σ ⟨rfl, rfl⟩
   refine AWP_cond (ieq p0.Op 3) rfl (fun C3 => ?_) (fun C3 => ?_)
   ·
    replace H := ifT C3 H
    obtain ⟨r9, hr9, H⟩ := bindE H
    refine AWP_sr tok [] [6] (fun a σ => a = [(6, .fsl (encL rInstr r9))] ∧ σ = hp E0 [] (N0 + 19)) (fun K hK => ?_) ?_
    ·
     skip
     simp -dsimp -implicitDefEqProofs (maxDischargeDepth := 6)
     refine (c106 hr9).app ?_; try simp -dsimp -implicitDefEqProofs (maxDischargeDepth := 6)
     exact hK _ _ ⟨rfl, rfl⟩
    rintro a σ ⟨rfl, rfl⟩
    replace H := Option.some.inj H; subst H
    refine AWP_kp [6] [(6, .fsl (encL rInstr r9))] rfl ?_
    refine AWP_ret ?_
    exact ⟨[.fsl (encL rInstr r9)], by simp, 4, by simp [encL_nil]⟩
   ·
    replace H := ifF C3 H
    refine AWP_sr tok [] [1, 2, 3, 7, 14, 48] (fun a σ => a = [(1, .int .i64 p1), (2, .int .i64 p2), (3, .fptr [.int .i64 p0.Op, .int .i64 p0.Dst, .int .i64 p0.A, .int .i64 p0.B, .int .i64 p0.N] 0), (7, .int .i64 r1), (14, .int .i64 p0.Op), (48, .bool (ieq p0.Op 4))] ∧ σ = hp E0 [] (N0 + 17)) (fun K hK => ?_) ?_
    ·
     skip
     simp -dsimp -implicitDefEqProofs (maxDischargeDepth := 6)
     exact hK _ _ ⟨rfl, rfl⟩
    rintro a σ ⟨rfl, rfl⟩
    refine AWP_cond (ieq p0.Op 4) rfl (fun C4 => ?_) (fun C4 => ?_)
    ·
     replace H := ifT C4 H
     have q1 : ∀ σ i, buildSliceA T 100 true i 1 [(0, .agg [.int .i64 20, .int .i64 0, .int .i64 0, .int .i64 0, .int .i64 p2])] σ = some (.fsl (encL rInstr ([(⟨20, 0, 0, 0, p2⟩ : gInstr)] : List gInstr)), σ) := fun _ _ => rfl
     refine AWP_sr tok [2] [6] (fun a σ => a = [(6, .fsl (encL rInstr ([(⟨20, 0, 0, 0, p2⟩ : gInstr)] : List gInstr)))] ∧ σ = hp E0 [] (N0 + 21)) (fun K hK => ?_) ?_
     ·
      skip
      simp -dsimp -implicitDefEqProofs (maxDischargeDepth := 6) [q1]
      exact hK _ _ ⟨rfl, rfl⟩
     rintro a σ ⟨rfl, rfl⟩
     replace H := Option.some.inj H; subst H
     refine AWP_kp [6] [(6, .fsl (encL rInstr ([(⟨20, 0, 0, 0, p2⟩ : gInstr)] : List gInstr)))] rfl ?_
     refine AWP_ret ?_
     exact ⟨[.fsl (encL rInstr ([(⟨20, 0, 0, 0, p2⟩ : gInstr)] : List gInstr))], by simp, 4, by simp [encL_nil]⟩
    ·
     replace H := ifF C4 H
     refine AWP_sr tok [] [1, 2, 3, 7, 14, 53] (fun a σ => a = [(1, .int .i64 p1), (2, .int .i64 p2), (3, .fptr [.int .i64 p0.Op, .int .i64 p0.Dst, .int .i64 p0.A, .int .i64 p0.B, .int .i64 p0.N] 0), (7, .int .i64 r1), (14, .int .i64 p0.Op), (53, .bool (ieq p0.Op 5))] ∧ σ = hp E0 [] (N0 + 19)) (fun K hK => ?_) ?_
     ·
      skip
      simp -dsimp -implicitDefEqProofs (maxDischargeDepth := 6)
      exact hK _ _ ⟨rfl, rfl⟩
     rintro a σ ⟨rfl, rfl⟩
     refine AWP_cond (ieq p0.Op 5) rfl (fun C5 => ?_) (fun C5 => ?_)
     ·
      replace H := ifT C5 H
      obtain ⟨r10, hr10, H⟩ := bindE H
      refine AWP_sr tok [] [6] (fun a σ => a = [(6, .fsl (encL rInstr r10))] ∧ σ = hp E0 [] (N0 + 24)) (fun K hK => ?_) ?_
      ·
       skip
       simp -dsimp -implicitDefEqProofs (maxDischargeDepth := 6)
       refine (c107 hr10).app ?_; try simp -dsimp -implicitDefEqProofs (maxDischargeDepth := 6)
       exact hK _ _ ⟨rfl, rfl⟩
      rintro a σ ⟨rfl, rfl⟩
      replace H := Option.some.inj H; subst H
      refine AWP_kp [6] [(6, .fsl (encL rInstr r10))] rfl ?_
      refine AWP_ret ?_
      exact ⟨[.fsl (encL rInstr r10)], by simp, 4, by simp [encL_nil]⟩
     ·
      replace H := ifF C5 H
      refine AWP_sr tok [] [1, 3, 7, 14, 59] (fun a σ => a = [(1, .int .i64 p1), (3, .fptr [.int .i64 p0.Op, .int .i64 p0.Dst, .int .i64 p0.A, .int .i64 p0.B, .int .i64 p0.N] 0), (7, .int .i64 r1), (14, .int .i64 p0.Op), (59, .bool (ieq p0.Op 6))] ∧ σ = hp E0 [] (N0 + 21)) (fun K hK => ?_) ?_
      ·
       skip
       simp -dsimp -implicitDefEqProofs (maxDischargeDepth := 6)
       exact hK _ _ ⟨rfl, rfl⟩
      rintro a σ ⟨rfl, rfl⟩
      refine AWP_cond (ieq p0.Op 6) rfl (fun C6 => ?_) (fun C6 => ?_)
      ·
       replace H := ifT C6 H
       obtain ⟨r11, hr11, H⟩ := bindE H
       obtain ⟨r12, hr12, H⟩ := bindE H
       obtain ⟨l13, hl13, H⟩ := bindE H
       obtain ⟨r14, hr14, H⟩ := bindE H
       have q2 : ∀ σ i, buildSliceA T 100 true i 1 [(0, .agg [.int .i64 r12.Op, .int .i64 r12.Rd, .int .i64 r12.Rs, .int .i64 r12.Rt, .int .i64 r12.Imm])] σ = some (.fsl (encL rInstr ([r12] : List gInstr)), σ) := fun _ _ => rfl
       refine AWP_sd tok tokM [7] [3, 8, 9] [0, 1, 2, 4, 5, 3, 6, 7, 8, 9, 10] [6] (fun a σ => ∃ M5 o3 : Nat, ∃ M6 : Nat, N0 + 32 ≤ M5 ∧ N0 + 32 ≤ o3 ∧ o3 < M5 ∧ M5 ≤ M6 ∧ a = [(6, .fsl (encL rInstr r14))] ∧ σ = hp E0 [] M6) (by decide) (fun K hK => ?_) ?_
       ·
        simp only [pickL, nthO_succ, nthO_zero]
        simp -dsimp -implicitDefEqProofs (maxDischargeDepth := 6) [q2, app100 hl13]
        refine (c109_o (H := hr11) ).mono ?_; rintro _ _ ⟨M5, o3, fM5_0, fM5_1, fM5_2, rfl, rfl⟩; simp only [hp_next] at fM5_0 fM5_1 fM5_2
        have eM5_0 := nq (a := o3) (b := N0 + 29) (by omega)
        try simp -dsimp -implicitDefEqProofs (maxDischargeDepth := 6) [q2, app100 hl13, eM5_0, hp_over_some, hp_over_none]
        refine Pc.mk (c110 hr12) ?_; try simp -dsimp -implicitDefEqProofs (maxDischargeDepth := 6) [q2, app100 hl13, eM5_0, hp_over_some, hp_over_none]
        refine (c108 (H := hr14) (by simp [q2, app100 hl13, eM5_0, hp_over_some, hp_over_none])).mono ?_; rintro _ _ ⟨M6, fM6_0, rfl, rfl⟩; simp only [hp_next] at fM6_0
        try simp -dsimp -implicitDefEqProofs (maxDischargeDepth := 6) [q2, app100 hl13, eM5_0, hp_over_some, hp_over_none, hp_over_some, hp_over_none]
        exact hK _ _ ⟨M5, o3, M6, (by omega), (by omega), (by omega), (by omega), rfl, rfl⟩
       rintro a σ ⟨M5, o3, M6, fM5_0, fM5_1, fM5_2, fM6_0, rfl, rfl⟩
       refine gFrz AWP_ref 4 [] [] [(6, .fsl (encL rInstr r14))] (by simp) (cutD (by simp)) ?_
       replace H := Option.some.inj H; subst H
       refine AWP_kp [6] [(6, .fsl (encL rInstr r14))] rfl ?_
       refine AWP_ret ?_
       exact ⟨[.fsl (encL rInstr r14)], by simp, 4, by simp [encL_nil]⟩
      ·
       replace H := ifF C6 H
       refine AWP_sr tok [] [1, 3, 7, 14, 71] (fun a σ => a = [(1, .int .i64 p1), (3, .fptr [.int .i64 p0.Op, .int .i64 p0.Dst, .int .i64 p0.A, .int .i64 p0.B, .int .i64 p0.N] 0), (7, .int .i64 r1), (14, .int .i64 p0.Op), (71, .bool (ieq p0.Op 7))] ∧ σ = hp E0 [] (N0 + 23)) (fun K hK => ?_) ?_
       ·
        skip
        simp -dsimp -implicitDefEqProofs (maxDischargeDepth := 6)
        exact hK _ _ ⟨rfl, rfl⟩
       rintro a σ ⟨rfl, rfl⟩
       refine AWP_cond (ieq p0.Op 7) rfl (fun C7 => ?_) (fun C7 => ?_)
       ·
        replace H := ifT C7 H
        obtain ⟨r15, hr15, H⟩ := bindE H
        obtain ⟨l16, hl16, H⟩ := bindE H
        obtain ⟨r17, hr17, H⟩ := bindE H
        have q3 : ∀ σ i, buildSliceA T 100 false i 1 [(0, .agg [.int .i64 r15.Op, .int .i64 r15.Rd, .int .i64 r15.Rs, .int .i64 r15.Rt, .int .i64 r15.Imm])] σ = some (.sl i 0 (List.length l16), σ.put i ⟨131, 5, encL rInstr l16⟩) := by rw [← Option.some.inj hl16]; intro _ _; rfl
        refine AWP_sr tok [] [1, 3, 7, 8] (fun a σ => ∃ M7 o4 : Nat, N0 + 29 ≤ M7 ∧ N0 + 29 ≤ o4 ∧ o4 < M7 ∧ a = [(1, .int .i64 p1), (3, .fptr [.int .i64 p0.Op, .int .i64 p0.Dst, .int .i64 p0.A, .int .i64 p0.B, .int .i64 p0.N] 0), (7, .int .i64 r1), (8, .sl o4 0 r17.length)] ∧ σ = hp E0 [(o4, some ⟨131, 5, encL rInstr r17⟩)] M7) (fun K hK => ?_) ?_
        ·
         skip
         simp -dsimp -implicitDefEqProofs (maxDischargeDepth := 6) [q3]
         refine (c110 hr15).app ?_; try simp -dsimp -implicitDefEqProofs (maxDischargeDepth := 6) [q3]
         refine (c108_o (H := hr17) (by simp [q3])).mono ?_; rintro _ _ ⟨M7, o4, fM7_0, fM7_1, fM7_2, rfl, rfl⟩; simp only [hp_next] at fM7_0 fM7_1 fM7_2
         have eM7_0 := nq (a := o4) (b := N0 + 26) (by omega)
         try simp -dsimp -implicitDefEqProofs (maxDischargeDepth := 6) [q3, eM7_0, hp_over_some, hp_over_none]
         exact hK _ _ ⟨M7, o4, (by omega), (by omega), (by omega), rfl, rfl⟩
        rintro a σ ⟨M7, o4, fM7_0, fM7_1, fM7_2, rfl, rfl⟩
        obtain ⟨r18, hr18, H⟩ := bindE H
        obtain ⟨l19, hl19, H⟩ := bindE H
        obtain ⟨r20, hr20, H⟩ := bindE H
        have q4 : ∀ σ i, buildSliceA T 100 true i 1 [(0, .agg [.int .i64 r18.Op, .int .i64 r18.Rd, .int .i64 r18.Rs, .int .i64 r18.Rt, .int .i64 r18.Imm])] σ = some (.fsl (encL rInstr ([r18] : List gInstr)), σ) := fun _ _ => rfl
        refine AWP_sd tok tokM [3] [4, 8] [0, 1, 2, 3, 5, 6, 7, 4, 8, 9] [6] (fun a σ => ∃ M8 : Nat, M7 + 10 ≤ M8 ∧ a = [(6, .fsl (encL rInstr r20))] ∧ σ = hp E0 [] M8) (by decide) (fun K hK => ?_) ?_
        ·
         simp only [pickL, nthO_succ, nthO_zero]
         have e0 := nq (a := o4) (b := M7 + 4) (by omega)
         simp -dsimp -implicitDefEqProofs (maxDischargeDepth := 6) [e0, q4, app100 hl19]
         refine Pc.mk (c105 hr18) ?_; try simp -dsimp -implicitDefEqProofs (maxDischargeDepth := 6) [e0, q4, app100 hl19]
         refine (c102 (H := hr20) (by simp [e0, q4, app100 hl19])).mono ?_; rintro _ _ ⟨M8, fM8_0, rfl, rfl⟩; simp only [hp_next] at fM8_0
         try simp -dsimp -implicitDefEqProofs (maxDischargeDepth := 6) [e0, q4, app100 hl19, hp_over_some, hp_over_none]
         exact hK _ _ ⟨M8, (by omega), rfl, rfl⟩
        rintro a σ ⟨M8, fM8_0, rfl, rfl⟩
        refine gFrz AWP_ref 4 [] [] [(6, .fsl (encL rInstr r20))] (by simp) (cutD (by simp)) ?_
        replace H := Option.some.inj H; subst H
        refine AWP_kp [6] [(6, .fsl (encL rInstr r20))] rfl ?_
        refine AWP_ret ?_
        exact ⟨[.fsl (encL rInstr r20)], by simp, 4, by simp [encL_nil]⟩
       ·
        replace H := ifF C7 H
        refine AWP_sr tok [] [1, 3, 14, 87] (fun a σ => a = [(1, .int .i64 p1), (3, .fptr [.int .i64 p0.Op, .int .i64 p0.Dst, .int .i64 p0.A, .int .i64 p0.B, .int .i64 p0.N] 0), (14, .int .i64 p0.Op), (87, .bool (ieq p0.Op 8))] ∧ σ = hp E0 [] (N0 + 25)) (fun K hK => ?_) ?_
        ·
         skip
         simp -dsimp -implicitDefEqProofs (maxDischargeDepth := 6)
         exact hK _ _ ⟨rfl, rfl⟩
        rintro a σ ⟨rfl, rfl⟩
        refine AWP_cond (ieq p0.Op 8) rfl (fun C8 => ?_) (fun C8 => ?_)
        ·
         replace H := ifT C8 H
         obtain ⟨l21, hl21, H⟩ := bindE H
         obtain ⟨r22, hr22, H⟩ := bindE H
         have q5 : ∀ σ i, buildSliceA T 100 false i 0 [] σ = some (.sl i 0 (List.length l21), σ.put i ⟨131, 5, encL rInstr l21⟩) := by rw [← Option.some.inj hl21]; intro _ _; rfl
         refine AWP_sr tok [] [6] (fun a σ => ∃ M9 : Nat, N0 + 28 ≤ M9 ∧ a = [(6, .fsl (encL rInstr r22))] ∧ σ = hp E0 [] M9) (fun K hK => ?_) ?_
         ·
          skip
          simp -dsimp -implicitDefEqProofs (maxDischargeDepth := 6) [q5]
          refine (c108 (H := hr22) (by simp [q5])).mono ?_; rintro _ _ ⟨M9, fM9_0, rfl, rfl⟩; simp only [hp_next] at fM9_0
          try simp -dsimp -implicitDefEqProofs (maxDischargeDepth := 6) [q5, hp_over_some, hp_over_none]
          exact hK _ _ ⟨M9, (by omega), rfl, rfl⟩
         rintro a σ ⟨M9, fM9_0, rfl, rfl⟩
         replace H := Option.some.inj H; subst H
         refine AWP_kp [6] [(6, .fsl (encL rInstr r22))] rfl ?_
         refine AWP_ret ?_
         exact ⟨[.fsl (encL rInstr r22)], by simp, 4, by simp [encL_nil]⟩
        ·
         replace H := ifF C8 H
         refine AWP_sr tok [] [1, 3, 91] (fun a σ => a = [(1, .int .i64 p1), (3, .fptr [.int .i64 p0.Op, .int .i64 p0.Dst, .int .i64 p0.A, .int .i64 p0.B, .int .i64 p0.N] 0), (91, .bool (ieq p0.Op 9))] ∧ σ = hp E0 [] (N0 + 27)) (fun K hK => ?_) ?_
         ·
          skip
          simp -dsimp -implicitDefEqProofs (maxDischargeDepth := 6)
          exact hK _ _ ⟨rfl, rfl⟩
         rintro a σ ⟨rfl, rfl⟩
         refine AWP_cond (ieq p0.Op 9) rfl (fun C9 => ?_) (fun C9 => ?_)
         ·
          replace H := ifT C9 H
          obtain ⟨r23, hr23, H⟩ := bindE H
          obtain ⟨r24, hr24, H⟩ := bindE H
          refine AWP_sr tok [] [6] (fun a σ => ∃ M10 o5 : Nat, ∃ M11 : Nat, N0 + 33 ≤ M10 ∧ N0 + 33 ≤ o5 ∧ o5 < M10 ∧ M10 ≤ M11 ∧ a = [(6, .fsl (encL rInstr r24))] ∧ σ = hp E0 [] M11) (fun K hK => ?_) ?_
          ·
           skip
           simp -dsimp -implicitDefEqProofs (maxDischargeDepth := 6)
           refine (c109_o (H := hr23) ).mono ?_; rintro _ _ ⟨M10, o5, fM10_0, fM10_1, fM10_2, rfl, rfl⟩; simp only [hp_next] at fM10_0 fM10_1 fM10_2
           try simp -dsimp -implicitDefEqProofs (maxDischargeDepth := 6) [hp_over_some, hp_over_none]
           refine (c108 (H := hr24) (by simp [hp_over_some, hp_over_none])).mono ?_; rintro _ _ ⟨M11, fM11_0, rfl, rfl⟩; simp only [hp_next] at fM11_0
           try simp -dsimp -implicitDefEqProofs (maxDischargeDepth := 6) [hp_over_some, hp_over_none, hp_over_some, hp_over_none]
           exact hK _ _ ⟨M10, o5, M11, (by omega), (by omega), (by omega), (by omega), rfl, rfl⟩
          rintro a σ ⟨M10, o5, M11, fM10_0, fM10_1, fM10_2, fM11_0, rfl, rfl⟩
          replace H := Option.some.inj H; subst H
          refine AWP_kp [6] [(6, .fsl (encL rInstr r24))] rfl ?_
          refine AWP_ret ?_
          exact ⟨[.fsl (encL rInstr r24)], by simp, 4, by simp [encL_nil]⟩
         ·
          replace H := ifF C9 H
          refine AWP_skip ?_
          show K1 _ _
          refine keepE (l := []) (x := []) rfl fun a' ha => ?_
          refine hK1 _ _ ?_; rw [ha]
          refine Rc.mk ?_
          obtain ⟨l25, hl25, H⟩ := bindE H
          obtain ⟨r26, hr26, H⟩ := bindE H
          have q6 : ∀ σ i, buildSliceA T 100 false i 0 [] σ = some (.sl i 0 (List.length l25), σ.put i ⟨131, 5, encL rInstr l25⟩) := by rw [← Option.some.inj hl25]; intro _ _; rfl
          refine AWP_sr tok [] [6] (fun a σ => ∃ M12 : Nat, N0 + 30 ≤ M12 ∧ a = [(6, .fsl (encL rInstr r26))] ∧ σ = hp E0 [] M12) (fun K hK => ?_) ?_
          ·
           skip
           simp -dsimp -implicitDefEqProofs (maxDischargeDepth := 6) [q6]
           refine (c108 (H := hr26) (by simp [q6])).mono ?_; rintro _ _ ⟨M12, fM12_0, rfl, rfl⟩; simp only [hp_next] at fM12_0
           try simp -dsimp -implicitDefEqProofs (maxDischargeDepth := 6) [q6, hp_over_some, hp_over_none]
           exact hK _ _ ⟨M12, (by omega), rfl, rfl⟩
          rintro a σ ⟨M12, fM12_0, rfl, rfl⟩
          replace H := Option.some.inj H; subst H
          refine AWP_kp [6] [(6, .fsl (encL rInstr r26))] rfl ?_
          refine AWP_ret ?_
          exact ⟨[.fsl (encL rInstr r26)], by simp, 4, by simp [encL_nil]⟩
theorem c92 {p0 : (List gQuad)} {p1 : Int} {r : (List Int)} (H : s_l43Places p0 p1 = some r) : APure Try.prog G 92 [.fsl (encL rQuad p0), .int .i64 p1] (.fsl (encL rI r)) := by
 refine APure_fn (fun N0 => ?_) (by simp)
 refine ACalls_fn tok Try.func92 (by kernel_rfl) rfl Try.ntmps92 Try.results92 rfl ?_
 simp only [argsA, Nat.reduceAdd, hp_next]
 unfold s_l43Places at H
 refine AWP_sr tok [] [0, 1] (fun a σ => a = [(0, .fsl (encL rQuad p0)), (1, .int .i64 p1)] ∧ σ = hp E0 [] (N0 + 1)) (fun K hK => ?_) ?_
 ·
  skip
  simp -dsimp -implicitDefEqProofs (maxDischargeDepth := 6)
  exact hK _ _ ⟨rfl, rfl⟩
 rintro a σ ⟨rfl, rfl⟩
 have q0 : ∀ σ i, buildSliceA T 22 true i 0 [] σ = some (.esl, σ) := fun _ _ => rfl
 refine AWP_sr tok [0] [0, 1, 5] (fun a σ => a = [(0, .fsl (encL rQuad p0)), (1, .int .i64 p1), (5, .esl)] ∧ σ = hp E0 [] (N0 + 3)) (fun K hK => ?_) ?_
 ·
  skip
  simp -dsimp -implicitDefEqProofs (maxDischargeDepth := 6) [q0]
  exact hK _ _ ⟨rfl, rfl⟩
 rintro a σ ⟨rfl, rfl⟩
 refine AWP_sr tok [] [0, 1, 5, 6] (fun a σ => a = [(0, .fsl (encL rQuad p0)), (1, .int .i64 p1), (5, .esl), (6, .int .i64 0)] ∧ σ = hp E0 [] (N0 + 4)) (fun K hK => ?_) ?_
 ·
  skip
  simp -dsimp -implicitDefEqProofs (maxDischargeDepth := 6)
  exact hK _ _ ⟨rfl, rfl⟩
 rintro a σ ⟨rfl, rfl⟩
 refine AWP_sq [5] fun K1 hK1 => ?_
 refine AWP_sr tok [] [0, 1, 5, 6, 7] (fun a σ => a = [(0, .fsl (encL rQuad p0)), (1, .int .i64 p1), (5, .esl), (6, .int .i64 0), (7, .int .i64 0)] ∧ σ = hp E0 [] (N0 + 5)) (fun K hK => ?_) ?_
 ·
  skip
  simp -dsimp -implicitDefEqProofs (maxDischargeDepth := 6)
  exact hK _ _ ⟨rfl, rfl⟩
 rintro a σ ⟨rfl, rfl⟩
 refine AWP_block (AWP_thenB ?_)
 obtain ⟨e1, hse1, H⟩ := bindE H
 refine AWP_lp [0, 1, 5, 6, 7] (fun s a σ => ∃ M1 o1 : Nat, N0 ≤ M1 ∧ N0 ≤ o1 ∧ o1 < M1 ∧ a = [(0, .fsl (encL rQuad p0)), (1, .int .i64 p1), (5, .sl o1 0 s.2.2.length), (6, .int .i64 s.1), (7, .int .i64 s.2.1)] ∧ σ = hp E0 [(o1, some ⟨3, 1, encL rI s.2.2⟩)] M1) (fun s x a σ => x = .exit 0 ∧ Rc G 29 N0 (fun a σ => ∃ M2 o2 : Nat, N0 ≤ M2 ∧ N0 ≤ o2 ∧ o2 < M2 ∧ a = [(5, .sl o2 0 s.length)] ∧ σ = hp E0 [(o2, some ⟨3, 1, encL rI s⟩)] M2) (AAct.keep a [5]) σ) hse1 ?_ ?_ ?_
 ·
  refine Rc.kp [0, 1, 5, 6, 7] [(0, .fsl (encL rQuad p0)), (1, .int .i64 p1), (5, .esl), (6, .int .i64 0), (7, .int .i64 0)] rfl ?_
  refine gNilS Rc_ref 5 3 1 [(N0 + 5, some ⟨3, 1, encL rI ([] : List Int)⟩)] [(0, .fsl (encL rQuad p0)), (1, .int .i64 p1), (5, .sl (N0 + 5) 0 ([] : List Int).length), (6, .int .i64 0), (7, .int .i64 0)] (by simp (disch := omega)) (by simp (disch := omega) [encL_nil]) [0, 1, 5, 6, 7] rfl ?_
  exact Rc.fin (AHeap.Sub.refl _) ⟨N0 + 6, (N0 + 5), (by omega), (by omega), (by omega), rfl, rfl⟩
 ·
  clear H hse1
  rintro ⟨s1, s2, s3⟩ fl a σ H ⟨M1, o1, fM1_0, fM1_1, fM1_2, rfl, rfl⟩ K2 O2 hK2 hO2
  unfold s_l43Places_L1 at H; dsimp only at H
  refine AWP_sq [0, 1, 5, 6, 7] fun K3 hK3 => ?_
  refine AWP_sr tok [] [0, 1, 5, 6, 7, 12] (fun a σ => a = [(0, .fsl (encL rQuad p0)), (1, .int .i64 p1), (5, .sl o1 0 s3.length), (6, .int .i64 s1), (7, .int .i64 s2), (12, .bool (ilt s2 (ilen p0)))] ∧ σ = hp E0 [(o1, some ⟨3, 1, encL rI s3⟩)] (M1 + 4)) (fun K hK => ?_) ?_
  ·
   skip
   simp -dsimp -implicitDefEqProofs (maxDischargeDepth := 6)
   exact hK _ _ ⟨rfl, rfl⟩
  rintro a σ ⟨rfl, rfl⟩
  refine AWP_cond (ilt s2 (ilen p0)) rfl (fun C1 => ?_) (fun C1 => ?_)
  ·
   replace H := ifT C1 H
   refine AWP_skip ?_
   show K3 _ _
   refine keepE (l := [0, 1, 5, 6, 7]) (x := [(0, .fsl (encL rQuad p0)), (1, .int .i64 p1), (5, .sl o1 0 s3.length), (6, .int .i64 s1), (7, .int .i64 s2)]) rfl fun a' ha => ?_
   refine hK3 _ _ ?_; rw [ha]
   refine Rc.mk ?_
   refine AWP_sq [0, 1, 5, 6, 7] fun K4 hK4 => ?_
   refine AWP_block (AWP_thenB ?_)
   obtain ⟨l5, hl5, H⟩ := bindE H
   have q1 : ∀ σ i, buildSliceA T 22 true i 1 [(0, .int .i64 s1)] σ = some (.fsl (encL rI ([s1] : List Int)), σ) := fun _ _ => rfl
   refine AWP_sr tok [2] [0, 1, 5, 6, 7] (fun a σ => a = [(0, .fsl (encL rQuad p0)), (1, .int .i64 p1), (5, .sl (M1 + 7) 0 l5.length), (6, .int .i64 s1), (7, .int .i64 s2)] ∧ σ = hp E0 [(M1 + 7, some ⟨3, 1, encL rI l5⟩)] (M1 + 9)) (fun K hK => ?_) ?_
   ·
    skip
    have e0 := nq (a := o1) (b := M1 + 7) (by omega)
    simp -dsimp -implicitDefEqProofs (maxDischargeDepth := 6) [e0, q1, app22 hl5]
    exact hK _ _ ⟨rfl, rfl⟩
   rintro a σ ⟨rfl, rfl⟩
   obtain ⟨v6, hv6, H⟩ := bindE H
   obtain ⟨r7, hr7, H⟩ := bindE H
   refine AWP_rt tok [] [0, 1, 5, 6, 7] (fun a σ => a = [(0, .fsl (encL rQuad p0)), (1, .int .i64 p1), (5, .sl (M1 + 7) 0 l5.length), (6, .int .i64 (iadd .i64 s1 (ilen r7))), (7, .int .i64 s2)] ∧ σ = hp E0 [(M1 + 7, some ⟨3, 1, encL rI l5⟩)] (M1 + 19)) (fun K hK => ?_) ?_
   ·
    skip
    simp -dsimp -implicitDefEqProofs (maxDischargeDepth := 6) [ix102 hv6]
    refine (c93 hr7).app ?_; try simp -dsimp -implicitDefEqProofs (maxDischargeDepth := 6) [ix102 hv6]
    exact hK _ _ ⟨rfl, rfl⟩
   rintro a σ ⟨ha, rfl⟩
   refine hK4 _ _ ?_; rw [ha]
   refine Rc.mk ?_
   refine AWP_rt tok [] [0, 1, 5, 6, 7] (fun a σ => a = [(0, .fsl (encL rQuad p0)), (1, .int .i64 p1), (5, .sl (M1 + 7) 0 l5.length), (6, .int .i64 (iadd .i64 s1 (ilen r7))), (7, .int .i64 (iadd .i64 s2 1))] ∧ σ = hp E0 [(M1 + 7, some ⟨3, 1, encL rI l5⟩)] (M1 + 22)) (fun K hK => ?_) ?_
   ·
    skip
    simp -dsimp -implicitDefEqProofs (maxDischargeDepth := 6)
    exact hK _ _ ⟨rfl, rfl⟩
   rintro a σ ⟨ha, rfl⟩
   replace H := Option.some.inj H; subst H
   refine hK2 _ _ _ rfl ?_; rw [ha]
   exact Rc.fin (AHeap.Sub.refl _) ⟨M1 + 22, (M1 + 7), (by omega), (by omega), (by omega), rfl, rfl⟩
  ·
   replace H := ifF C1 H
   replace H := Option.some.inj H; subst H
   refine AWP_exit (hO2 _ _ _ _ rfl ⟨rfl, ?_⟩)
   refine Rc.rw (l := [5]) (X := [(5, .sl o1 0 s3.length)]) rfl ?_
   exact Rc.fin (AHeap.Sub.refl _) ⟨M1 + 4, o1, (by omega), (by omega), (by omega), rfl, rfl⟩
 ·
  intro x a σ hx
  obtain ⟨y4, rfl⟩ : ∃ x, x = e1 := ⟨_, rfl⟩
  obtain ⟨rfl, b, τ, hr, M2, o2, fM2_0, fM2_1, fM2_2, rfl, rfl⟩ := hx
  dsimp only at H
  show K1 _ _
  refine hK1 _ _ (Rc_ref hr ?_)
  refine Rc.mk ?_
  refine AWP_sr tok [] [4] (fun a σ => a = [(4, .sl o2 0 y4.length)] ∧ σ = hp E0 [(o2, some ⟨3, 1, encL rI y4⟩)] (M2 + 2)) (fun K hK => ?_) ?_
  ·
   skip
   simp -dsimp -implicitDefEqProofs (maxDischargeDepth := 6)
   exact hK _ _ ⟨rfl, rfl⟩
  rintro a σ ⟨rfl, rfl⟩
  replace H := Option.some.inj H; subst H
  refine AWP_kp [4] [(4, .sl o2 0 y4.length)] rfl ?_
  refine AWP_ret ?_
  exact ⟨[.sl o2 0 y4.length], by simp, 4, by simp [encL_nil]⟩
theorem c72 {p0 : (List gQuad)} {p1 : Int} {r : (List gInstr)} (H : s_l43Task p0 p1 = some r) : APure Try.prog G 72 [.fsl (encL rQuad p0), .int .i64 p1] (.fsl (encL rInstr r)) := by
 refine APure_fn (fun N0 => ?_) (by simp)
 refine ACalls_fn tok Try.func72 (by kernel_rfl) rfl Try.ntmps72 Try.results72 rfl ?_
 simp only [argsA, Nat.reduceAdd, hp_next]
 unfold s_l43Task at H
 refine AWP_sr tok [] [0, 1] (fun a σ => a = [(0, .fsl (encL rQuad p0)), (1, .int .i64 p1)] ∧ σ = hp E0 [] (N0 + 1)) (fun K hK => ?_) ?_
 ·
  skip
  simp -dsimp -implicitDefEqProofs (maxDischargeDepth := 6)
  exact hK _ _ ⟨rfl, rfl⟩
 rintro a σ ⟨rfl, rfl⟩
 obtain ⟨r1, hr1, H⟩ := bindE H
 refine AWP_sr tok [] [0, 1, 5] (fun a σ => a = [(0, .fsl (encL rQuad p0)), (1, .int .i64 p1), (5, .fsl (encL rI r1))] ∧ σ = hp E0 [] (N0 + 5)) (fun K hK => ?_) ?_
 ·
  skip
  simp -dsimp -implicitDefEqProofs (maxDischargeDepth := 6)
  refine (c92 hr1).app ?_; try simp -dsimp -implicitDefEqProofs (maxDischargeDepth := 6)
  exact hK _ _ ⟨rfl, rfl⟩
 rintro a σ ⟨rfl, rfl⟩
 have q0 : ∀ σ i, buildSliceA T 100 true i 0 [] σ = some (.esl, σ) := fun _ _ => rfl
 refine AWP_sr tok [0] [0, 1, 5, 6] (fun a σ => a = [(0, .fsl (encL rQuad p0)), (1, .int .i64 p1), (5, .fsl (encL rI r1)), (6, .esl)] ∧ σ = hp E0 [] (N0 + 7)) (fun K hK => ?_) ?_
 ·
  skip
  simp -dsimp -implicitDefEqProofs (maxDischargeDepth := 6) [q0]
  exact hK _ _ ⟨rfl, rfl⟩
 rintro a σ ⟨rfl, rfl⟩
 refine AWP_sq [6] fun K1 hK1 => ?_
 refine AWP_sr tok [] [0, 1, 5, 6, 7] (fun a σ => a = [(0, .fsl (encL rQuad p0)), (1, .int .i64 p1), (5, .fsl (encL rI r1)), (6, .esl), (7, .int .i64 0)] ∧ σ = hp E0 [] (N0 + 8)) (fun K hK => ?_) ?_
 ·
  skip
  simp -dsimp -implicitDefEqProofs (maxDischargeDepth := 6)
  exact hK _ _ ⟨rfl, rfl⟩
 rintro a σ ⟨rfl, rfl⟩
 refine AWP_block (AWP_thenB ?_)
 obtain ⟨e2, hse2, H⟩ := bindE H
 refine AWP_lp [0, 1, 5, 6, 7] (fun s a σ => ∃ M1 o1 : Nat, N0 ≤ M1 ∧ N0 ≤ o1 ∧ o1 < M1 ∧ a = [(0, .fsl (encL rQuad p0)), (1, .int .i64 p1), (5, .fsl (encL rI r1)), (6, .sl o1 0 s.2.length), (7, .int .i64 s.1)] ∧ σ = hp E0 [(o1, some ⟨131, 5, encL rInstr s.2⟩)] M1) (fun s x a σ => x = .exit 0 ∧ Rc G 57 N0 (fun a σ => ∃ M2 o2 : Nat, N0 ≤ M2 ∧ N0 ≤ o2 ∧ o2 < M2 ∧ a = [(6, .sl o2 0 s.length)] ∧ σ = hp E0 [(o2, some ⟨131, 5, encL rInstr s⟩)] M2) (AAct.keep a [6]) σ) hse2 ?_ ?_ ?_
 ·
  refine Rc.kp [0, 1, 5, 6, 7] [(0, .fsl (encL rQuad p0)), (1, .int .i64 p1), (5, .fsl (encL rI r1)), (6, .esl), (7, .int .i64 0)] rfl ?_
  refine gNilS Rc_ref 6 131 5 [(N0 + 8, some ⟨131, 5, encL rInstr ([] : List gInstr)⟩)] [(0, .fsl (encL rQuad p0)), (1, .int .i64 p1), (5, .fsl (encL rI r1)), (6, .sl (N0 + 8) 0 ([] : List gInstr).length), (7, .int .i64 0)] (by simp (disch := omega)) (by simp (disch := omega) [encL_nil]) [0, 1, 5, 6, 7] rfl ?_
  exact Rc.fin (AHeap.Sub.refl _) ⟨N0 + 9, (N0 + 8), (by omega), (by omega), (by omega), rfl, rfl⟩
 ·
  clear H hse2
  rintro ⟨s2, s3⟩ fl a σ H ⟨M1, o1, fM1_0, fM1_1, fM1_2, rfl, rfl⟩ K2 O2 hK2 hO2
  unfold s_l43Task_L1 at H; dsimp only at H
  refine AWP_sq [0, 1, 5, 6, 7] fun K3 hK3 => ?_
  refine AWP_sr tok [] [0, 1, 5, 6, 7, 16] (fun a σ => a = [(0, .fsl (encL rQuad p0)), (1, .int .i64 p1), (5, .fsl (encL rI r1)), (6, .sl o1 0 s3.length), (7, .int .i64 s2), (16, .bool (ilt s2 (ilen p0)))] ∧ σ = hp E0 [(o1, some ⟨131, 5, encL rInstr s3⟩)] (M1 + 4)) (fun K hK => ?_) ?_
  ·
   skip
   simp -dsimp -implicitDefEqProofs (maxDischargeDepth := 6)
   exact hK _ _ ⟨rfl, rfl⟩
  rintro a σ ⟨rfl, rfl⟩
  refine AWP_cond (ilt s2 (ilen p0)) rfl (fun C1 => ?_) (fun C1 => ?_)
  ·
   replace H := ifT C1 H
   refine AWP_skip ?_
   show K3 _ _
   refine keepE (l := [0, 1, 5, 6, 7]) (x := [(0, .fsl (encL rQuad p0)), (1, .int .i64 p1), (5, .fsl (encL rI r1)), (6, .sl o1 0 s3.length), (7, .int .i64 s2)]) rfl fun a' ha => ?_
   refine hK3 _ _ ?_; rw [ha]
   refine Rc.mk ?_
   refine AWP_sq [0, 1, 5, 6, 7] fun K4 hK4 => ?_
   refine AWP_block (AWP_thenB ?_)
   refine AWP_sr tok [] [0, 1, 5, 6, 7, 8] (fun a σ => a = [(0, .fsl (encL rQuad p0)), (1, .int .i64 p1), (5, .fsl (encL rI r1)), (6, .sl o1 0 s3.length), (7, .int .i64 s2), (8, .int .i64 0)] ∧ σ = hp E0 [(o1, some ⟨131, 5, encL rInstr s3⟩)] (M1 + 5)) (fun K hK => ?_) ?_
   ·
    skip
    simp -dsimp -implicitDefEqProofs (maxDischargeDepth := 6)
    exact hK _ _ ⟨rfl, rfl⟩
   rintro a σ ⟨rfl, rfl⟩
   obtain ⟨j1, hj1, H⟩ := bindE H
   refine AWP_seq (AWP_named fun K5 hK5 => ?_)
   have hJ1 : ∀ a σ, Rc G 57 N0 (fun a σ => ∃ M3 : Nat, N0 ≤ M3 ∧ o1 < M3 ∧ a = [(0, .fsl (encL rQuad p0)), (1, .int .i64 p1), (5, .fsl (encL rI r1)), (6, .sl o1 0 s3.length), (7, .int .i64 s2), (8, .int .i64 j1)] ∧ σ = hp E0 [(o1, some ⟨131, 5, encL rInstr s3⟩)] M3) (a.keep [0, 1, 5, 6, 7, 8]) σ → K5 a σ := by
    rintro a σ ⟨b, τ, hr, M3, fM3_0, fM3_1, rfl, rfl⟩
    refine hK5 _ _ (AWP_keep [0, 1, 5, 6, 7, 8] (AWP_ref hr ?_))
    obtain ⟨v6, hv6, H⟩ := bindE H
    obtain ⟨r7, hr7, H⟩ := bindE H
    obtain ⟨l8, hl8, H⟩ := bindE H
    refine AWP_rt tok [] [0, 1, 5, 6, 7] (fun a σ => a = [(0, .fsl (encL rQuad p0)), (1, .int .i64 p1), (5, .fsl (encL rI r1)), (6, .sl (M3 + 8) 0 l8.length), (7, .int .i64 s2)] ∧ σ = hp E0 [(M3 + 8, some ⟨131, 5, encL rInstr l8⟩)] (M3 + 10)) (fun K hK => ?_) ?_
    ·
     skip
     have e0 := nq (a := o1) (b := M3 + 8) (by omega)
     simp -dsimp -implicitDefEqProofs (maxDischargeDepth := 6) [e0, ix102 hv6, app100 hl8]
     refine (c93 hr7).app ?_; try simp -dsimp -implicitDefEqProofs (maxDischargeDepth := 6) [e0, ix102 hv6, app100 hl8]
     exact hK _ _ ⟨rfl, rfl⟩
    rintro a σ ⟨ha, rfl⟩
    refine hK4 _ _ ?_; rw [ha]
    refine Rc.mk ?_
    refine AWP_rt tok [] [0, 1, 5, 6, 7] (fun a σ => a = [(0, .fsl (encL rQuad p0)), (1, .int .i64 p1), (5, .fsl (encL rI r1)), (6, .sl (M3 + 8) 0 l8.length), (7, .int .i64 (iadd .i64 s2 1))] ∧ σ = hp E0 [(M3 + 8, some ⟨131, 5, encL rInstr l8⟩)] (M3 + 13)) (fun K hK => ?_) ?_
    ·
     skip
     simp -dsimp -implicitDefEqProofs (maxDischargeDepth := 6)
     exact hK _ _ ⟨rfl, rfl⟩
    rintro a σ ⟨ha, rfl⟩
    replace H := Option.some.inj H; subst H
    refine hK2 _ _ _ rfl ?_; rw [ha]
    exact Rc.fin (AHeap.Sub.refl _) ⟨M3 + 13, (M3 + 8), (by omega), (by omega), (by omega), rfl, rfl⟩
   replace H := hj1
   obtain ⟨v9, hv9, H⟩ := bindE H
   obtain ⟨g10, hg10, H⟩ := bindE H
   refine AWP_sr tok [] [0, 1, 5, 6, 7, 8, 32] (fun a σ => a = [(0, .fsl (encL rQuad p0)), (1, .int .i64 p1), (5, .fsl (encL rI r1)), (6, .sl o1 0 s3.length), (7, .int .i64 s2), (8, .int .i64 0), (32, .bool g10)] ∧ σ = hp E0 [(o1, some ⟨131, 5, encL rInstr s3⟩)] (M1 + 19)) (fun K hK => ?_) ?_
   ·
    skip
    simp -dsimp -implicitDefEqProofs (maxDischargeDepth := 6) [ix102 hv9]
    cases hbg10 : ieq v9.Op 4
    ·
     replace hg10 := ifF hbg10 hg10
     replace hg10 := Option.some.inj hg10; subst hg10
     try simp -dsimp -implicitDefEqProofs (maxDischargeDepth := 6) [ix102 hv9, hbg10, ix102 hv9]
     exact hK _ _ ⟨rfl, rfl⟩
    ·
     replace hg10 := ifT hbg10 hg10
     replace hg10 := Option.some.inj hg10; subst hg10
     try simp -dsimp -implicitDefEqProofs (maxDischargeDepth := 6) [ix102 hv9, hbg10]
     exact hK _ _ ⟨rfl, rfl⟩
   rintro a σ ⟨rfl, rfl⟩
   refine AWP_cond g10 rfl (fun C2 => ?_) (fun C2 => ?_)
   ·
    replace H := ifT C2 H
    obtain ⟨v11, hv11, H⟩ := bindE H
    obtain ⟨v12, hv12, H⟩ := bindE H
    refine AWP_rd tok tokM [] [] [0, 1, 2, 3, 4, 5, 6, 7, 8, 9, 10, 11, 12, 13, 14] [0, 1, 5, 6, 7, 8] (fun a σ => a = [(0, .fsl (encL rQuad p0)), (1, .int .i64 p1), (5, .fsl (encL rI r1)), (6, .sl o1 0 s3.length), (7, .int .i64 s2), (8, .int .i64 (imul .i64 4 (isub .i64 v11 v12)))] ∧ σ = hp E0 [(o1, some ⟨131, 5, encL rInstr s3⟩)] (M1 + 34)) (by decide) (fun K hK => ?_) ?_
    ·
     simp only [pickL, nthO_succ, nthO_zero]
     simp -dsimp -implicitDefEqProofs (maxDischargeDepth := 6) [ix102 hv9, ix22 hv11, ix22 hv12]
     exact hK _ _ ⟨rfl, rfl⟩
    rintro a σ ⟨ha, rfl⟩
    replace H := Option.some.inj H; subst H
    refine hJ1 _ _ ?_; rw [ha]
    exact Rc.fin (AHeap.Sub.refl _) ⟨M1 + 34, (by omega), (by omega), rfl, rfl⟩
   ·
    replace H := ifF C2 H
    refine AWP_skip ?_
    show K5 _ _
    refine keepE (l := [0, 1, 5, 6, 7, 8]) (x := [(0, .fsl (encL rQuad p0)), (1, .int .i64 p1), (5, .fsl (encL rI r1)), (6, .sl o1 0 s3.length), (7, .int .i64 s2), (8, .int .i64 0)]) rfl fun a' ha => ?_
    replace H := Option.some.inj H; subst H
    refine hJ1 _ _ ?_; rw [ha]
    exact Rc.fin (AHeap.Sub.refl _) ⟨M1 + 19, (by omega), (by omega), rfl, rfl⟩
  ·
   replace H := ifF C1 H
   replace H := Option.some.inj H; subst H
   refine AWP_exit (hO2 _ _ _ _ rfl ⟨rfl, ?_⟩)
   refine Rc.rw (l := [6]) (X := [(6, .sl o1 0 s3.length)]) rfl ?_
   exact Rc.fin (AHeap.Sub.refl _) ⟨M1 + 4, o1, (by omega), (by omega), (by omega), rfl, rfl⟩
 ·
  intro x a σ hx
  obtain ⟨y4, rfl⟩ : ∃ x, x = e2 := ⟨_, rfl⟩
  obtain ⟨rfl, b, τ, hr, M2, o2, fM2_0, fM2_1, fM2_2, rfl, rfl⟩ := hx
  dsimp only at H
  show K1 _ _
  refine hK1 _ _ (Rc_ref hr ?_)
  refine Rc.mk ?_
  refine AWP_sr tok [] [4] (fun a σ => a = [(4, .sl o2 0 y4.length)] ∧ σ = hp E0 [(o2, some ⟨131, 5, encL rInstr y4⟩)] (M2 + 2)) (fun K hK => ?_) ?_
  ·
   skip
   simp -dsimp -implicitDefEqProofs (maxDischargeDepth := 6)
   exact hK _ _ ⟨rfl, rfl⟩
  rintro a σ ⟨rfl, rfl⟩
  replace H := Option.some.inj H; subst H
  refine AWP_kp [4] [(4, .sl o2 0 y4.length)] rfl ?_
  refine AWP_ret ?_
  exact ⟨[.sl o2 0 y4.length], by simp, 4, by simp [encL_nil]⟩
theorem c119 {p0 : gInstr} {p1 : Int} {p2 : Int} {p3 : Int} {r : Bool} (H : s_l42Regs p0 p1 p2 p3 = some r) : APure Try.prog G 119 [.agg [.int .i64 p0.Op, .int .i64 p0.Rd, .int .i64 p0.Rs, .int .i64 p0.Rt, .int .i64 p0.Imm], .int .i64 p1, .int .i64 p2, .int .i64 p3] (.bool r) := by
 refine APure_fn (fun N0 => ?_) (by simp)
 refine ACalls_fn tok Try.func119 (by kernel_rfl) rfl Try.ntmps119 Try.results119 rfl ?_
 simp only [argsA, Nat.reduceAdd, hp_next]
 unfold s_l42Regs at H
 refine AWP_sr tok [0] [1, 2, 3, 4] (fun a σ => a = [(1, .int .i64 p1), (2, .int .i64 p2), (3, .int .i64 p3), (4, .fptr [.int .i64 p0.Op, .int .i64 p0.Rd, .int .i64 p0.Rs, .int .i64 p0.Rt, .int .i64 p0.Imm] 0)] ∧ σ = hp E0 [] (N0 + 2)) (fun K hK => ?_) ?_
 ·
  skip
  simp -dsimp -implicitDefEqProofs (maxDischargeDepth := 6)
  exact hK _ _ ⟨rfl, rfl⟩
 rintro a σ ⟨rfl, rfl⟩
 obtain ⟨r1, hr1, H⟩ := bindE H
 obtain ⟨g3, hg3, H⟩ := bindE H
 obtain ⟨g5, hg5, H⟩ := bindE H
 refine AWP_sr tok [] [8] (fun a σ => a = [(8, .bool g5)] ∧ σ = hp E0 [] (N0 + 22)) (fun K hK => ?_) ?_
 ·
  skip
  simp -dsimp -implicitDefEqProofs (maxDischargeDepth := 6)
  refine (c83 hr1).app ?_; try simp -dsimp -implicitDefEqProofs (maxDischargeDepth := 6)
  cases hbg3 : r1
  ·
   replace hg3 := ifF hbg3 hg3
   replace hg3 := Option.some.inj hg3; subst hg3
   try simp -dsimp -implicitDefEqProofs (maxDischargeDepth := 6) [hbg3]
   replace hg5 := ifF rfl hg5
   replace hg5 := Option.some.inj hg5; subst hg5
   try simp -dsimp -implicitDefEqProofs (maxDischargeDepth := 6) [hbg3]
   exact hK _ _ ⟨rfl, rfl⟩
  ·
   replace hg3 := ifT hbg3 hg3
   obtain ⟨r2, hr2, hg3⟩ := bindE hg3
   replace hg3 := Option.some.inj hg3; subst hg3
   try simp -dsimp -implicitDefEqProofs (maxDischargeDepth := 6) [hbg3]
   refine (c83 hr2).app ?_; try simp -dsimp -implicitDefEqProofs (maxDischargeDepth := 6) [hbg3]
   cases hbg5 : r2
   ·
    replace hg5 := ifF hbg5 hg5
    replace hg5 := Option.some.inj hg5; subst hg5
    try simp -dsimp -implicitDefEqProofs (maxDischargeDepth := 6) [hbg3, hbg5]
    exact hK _ _ ⟨rfl, rfl⟩
   ·
    replace hg5 := ifT hbg5 hg5
    obtain ⟨r4, hr4, hg5⟩ := bindE hg5
    replace hg5 := Option.some.inj hg5; subst hg5
    try simp -dsimp -implicitDefEqProofs (maxDischargeDepth := 6) [hbg3, hbg5]
    refine (c83 hr4).app ?_; try simp -dsimp -implicitDefEqProofs (maxDischargeDepth := 6) [hbg3, hbg5]
    exact hK _ _ ⟨rfl, rfl⟩
 rintro a σ ⟨rfl, rfl⟩
 replace H := Option.some.inj H; subst H
 refine AWP_kp [8] [(8, .bool g5)] rfl ?_
 refine AWP_ret ?_
 exact ⟨[.bool g5], by simp, 4, by simp [encL_nil]⟩
theorem c120 {p0 : Int} {p1 : Int} {p2 : Int} {r : Bool} (H : s_l42Even p0 p1 p2 = some r) : APure Try.prog G 120 [.int .i64 p0, .int .i64 p1, .int .i64 p2] (.bool r) := by
 refine APure_fn (fun N0 => ?_) (by simp)
 refine ACalls_fn tok Try.func120 (by kernel_rfl) rfl Try.ntmps120 Try.results120 rfl ?_
 simp only [argsA, Nat.reduceAdd, hp_next]
 unfold s_l42Even at H
 refine AWP_sr tok [] [0, 1, 2] (fun a σ => a = [(0, .int .i64 p0), (1, .int .i64 p1), (2, .int .i64 p2)] ∧ σ = hp E0 [] (N0 + 1)) (fun K hK => ?_) ?_
 ·
  skip
  simp -dsimp -implicitDefEqProofs (maxDischargeDepth := 6)
  exact hK _ _ ⟨rfl, rfl⟩
 rintro a σ ⟨rfl, rfl⟩
 obtain ⟨r1, hr1, H⟩ := bindE H
 obtain ⟨g3, hg3, H⟩ := bindE H
 refine AWP_sr tok [] [6] (fun a σ => a = [(6, .bool g3)] ∧ σ = hp E0 [] (N0 + 11)) (fun K hK => ?_) ?_
 ·
  skip
  simp -dsimp -implicitDefEqProofs (maxDischargeDepth := 6)
  refine (c83 hr1).app ?_; try simp -dsimp -implicitDefEqProofs (maxDischargeDepth := 6)
  cases hbg3 : r1
  ·
   replace hg3 := ifF hbg3 hg3
   replace hg3 := Option.some.inj hg3; subst hg3
   try simp -dsimp -implicitDefEqProofs (maxDischargeDepth := 6) [hbg3]
   exact hK _ _ ⟨rfl, rfl⟩
  ·
   replace hg3 := ifT hbg3 hg3
   obtain ⟨v2, hv2, hg3⟩ := bindE hg3
   replace hg3 := Option.some.inj hg3; subst hg3
   try simp -dsimp -implicitDefEqProofs (maxDischargeDepth := 6) [hbg3, hv2]
   exact hK _ _ ⟨rfl, rfl⟩
 rintro a σ ⟨rfl, rfl⟩
 replace H := Option.some.inj H; subst H
 refine AWP_kp [6] [(6, .bool g3)] rfl ?_
 refine AWP_ret ?_
 exact ⟨[.bool g3], by simp, 4, by simp [encL_nil]⟩
theorem c113 {p0 : gInstr} {r : Bool} (H : s_InstrValid p0 = some r) : APure Try.prog G 113 [.agg [.int .i64 p0.Op, .int .i64 p0.Rd, .int .i64 p0.Rs, .int .i64 p0.Rt, .int .i64 p0.Imm]] (.bool r) := by
 refine APure_fn (fun N0 => ?_) (by simp)
 refine ACalls_fn tok Try.func113 (by kernel_rfl) rfl Try.ntmps113 Try.results113 rfl ?_
 simp only [argsA, Nat.reduceAdd, hp_next]
 unfold s_InstrValid at H
 refine AWP_sr tok [0] [1] (fun a σ => a = [(1, .fptr [.int .i64 p0.Op, .int .i64 p0.Rd, .int .i64 p0.Rs, .int .i64 p0.Rt, .int .i64 p0.Imm] 0)] ∧ σ = hp E0 [] (N0 + 2)) (fun K hK => ?_) ?_
 ·
  skip
  simp -dsimp -implicitDefEqProofs (maxDischargeDepth := 6)
  exact hK _ _ ⟨rfl, rfl⟩
 rintro a σ ⟨rfl, rfl⟩
 refine AWP_sq [1] fun K1 hK1 => ?_
 refine AWP_block (AWP_thenB ?_)
 obtain ⟨r1, hr1, H⟩ := bindE H
 refine AWP_sr tok [] [1, 3] (fun a σ => a = [(1, .fptr [.int .i64 p0.Op, .int .i64 p0.Rd, .int .i64 p0.Rs, .int .i64 p0.Rt, .int .i64 p0.Imm] 0), (3, .bool r1)] ∧ σ = hp E0 [] (N0 + 6)) (fun K hK => ?_) ?_
 ·
  skip
  simp -dsimp -implicitDefEqProofs (maxDischargeDepth := 6)
  refine (c83 hr1).app ?_; try simp -dsimp -implicitDefEqProofs (maxDischargeDepth := 6)
  exact hK _ _ ⟨rfl, rfl⟩
 rintro a σ ⟨rfl, rfl⟩
 refine AWP_cond r1 rfl (fun C1 => ?_) (fun C1 => ?_)
 ·
  replace H := ifT C1 H
  obtain ⟨r2, hr2, H⟩ := bindE H
  obtain ⟨g3, hg3, H⟩ := bindE H
  refine AWP_sr tok [] [2] (fun a σ => a = [(2, .bool g3)] ∧ σ = hp E0 [] (N0 + 14)) (fun K hK => ?_) ?_
  ·
   skip
   simp -dsimp -implicitDefEqProofs (maxDischargeDepth := 6)
   refine (c119 hr2).app ?_; try simp -dsimp -implicitDefEqProofs (maxDischargeDepth := 6)
   cases hbg3 : r2
   ·
    replace hg3 := ifF hbg3 hg3
    replace hg3 := Option.some.inj hg3; subst hg3
    try simp -dsimp -implicitDefEqProofs (maxDischargeDepth := 6) [hbg3]
    exact hK _ _ ⟨rfl, rfl⟩
   ·
    replace hg3 := ifT hbg3 hg3
    replace hg3 := Option.some.inj hg3; subst hg3
    try simp -dsimp -implicitDefEqProofs (maxDischargeDepth := 6) [hbg3]
    exact hK _ _ ⟨rfl, rfl⟩
  rintro a σ ⟨rfl, rfl⟩
  replace H := Option.some.inj H; subst H
  refine AWP_kp [2] [(2, .bool g3)] rfl ?_
  refine AWP_ret ?_
  exact ⟨[.bool g3], by simp, 4, by simp [encL_nil]⟩
 ·
  replace H := ifF C1 H
  obtain ⟨r4, hr4, H⟩ := bindE H
  refine AWP_sr tok [] [1, 14] (fun a σ => a = [(1, .fptr [.int .i64 p0.Op, .int .i64 p0.Rd, .int .i64 p0.Rs, .int .i64 p0.Rt, .int .i64 p0.Imm] 0), (14, .bool r4)] ∧ σ = hp E0 [] (N0 + 10)) (fun K hK => ?_) ?_
  ·
   skip
   simp -dsimp -implicitDefEqProofs (maxDischargeDepth := 6)
   refine (c83 hr4).app ?_; try simp -dsimp -implicitDefEqProofs (maxDischargeDepth := 6)
   exact hK _ _ ⟨rfl, rfl⟩
  rintro a σ ⟨rfl, rfl⟩
  refine AWP_cond r4 rfl (fun C2 => ?_) (fun C2 => ?_)
  ·
   replace H := ifT C2 H
   obtain ⟨r5, hr5, H⟩ := bindE H
   obtain ⟨g7, hg7, H⟩ := bindE H
   refine AWP_sr tok [] [2] (fun a σ => a = [(2, .bool g7)] ∧ σ = hp E0 [] (N0 + 18)) (fun K hK => ?_) ?_
   ·
    skip
    simp -dsimp -implicitDefEqProofs (maxDischargeDepth := 6)
    refine (c119 hr5).app ?_; try simp -dsimp -implicitDefEqProofs (maxDischargeDepth := 6)
    cases hbg7 : r5
    ·
     replace hg7 := ifF hbg7 hg7
     replace hg7 := Option.some.inj hg7; subst hg7
     try simp -dsimp -implicitDefEqProofs (maxDischargeDepth := 6) [hbg7]
     exact hK _ _ ⟨rfl, rfl⟩
    ·
     replace hg7 := ifT hbg7 hg7
     obtain ⟨r6, hr6, hg7⟩ := bindE hg7
     replace hg7 := Option.some.inj hg7; subst hg7
     try simp -dsimp -implicitDefEqProofs (maxDischargeDepth := 6) [hbg7]
     refine (c83 hr6).app ?_; try simp -dsimp -implicitDefEqProofs (maxDischargeDepth := 6) [hbg7]
     exact hK _ _ ⟨rfl, rfl⟩
   rintro a σ ⟨rfl, rfl⟩
   replace H := Option.some.inj H; subst H
   refine AWP_kp [2] [(2, .bool g7)] rfl ?_
   refine AWP_ret ?_
   exact ⟨[.bool g7], by simp, 4, by simp [encL_nil]⟩
  ·
   replace H := ifF C2 H
   refine AWP_sr tok [] [1, 25] (fun a σ => a = [(1, .fptr [.int .i64 p0.Op, .int .i64 p0.Rd, .int .i64 p0.Rs, .int .i64 p0.Rt, .int .i64 p0.Imm] 0), (25, .bool (ieq p0.Op 16))] ∧ σ = hp E0 [] (N0 + 14)) (fun K hK => ?_) ?_
   ·
    skip
    simp -dsimp -implicitDefEqProofs (maxDischargeDepth := 6)
    exact hK _ _ ⟨rfl, rfl⟩
   rintro a σ ⟨rfl, rfl⟩
   refine AWP_cond (ieq p0.Op 16) rfl (fun C3 => ?_) (fun C3 => ?_)
   ·
    replace H := ifT C3 H
    obtain ⟨r8, hr8, H⟩ := bindE H
    obtain ⟨g10, hg10, H⟩ := bindE H
    refine AWP_sr tok [] [2] (fun a σ => a = [(2, .bool g10)] ∧ σ = hp E0 [] (N0 + 22)) (fun K hK => ?_) ?_
    ·
     skip
     simp -dsimp -implicitDefEqProofs (maxDischargeDepth := 6)
     refine (c119 hr8).app ?_; try simp -dsimp -implicitDefEqProofs (maxDischargeDepth := 6)
     cases hbg10 : r8
     ·
      replace hg10 := ifF hbg10 hg10
      replace hg10 := Option.some.inj hg10; subst hg10
      try simp -dsimp -implicitDefEqProofs (maxDischargeDepth := 6) [hbg10]
      exact hK _ _ ⟨rfl, rfl⟩
     ·
      replace hg10 := ifT hbg10 hg10
      obtain ⟨r9, hr9, hg10⟩ := bindE hg10
      replace hg10 := Option.some.inj hg10; subst hg10
      try simp -dsimp -implicitDefEqProofs (maxDischargeDepth := 6) [hbg10]
      refine (c83 hr9).app ?_; try simp -dsimp -implicitDefEqProofs (maxDischargeDepth := 6) [hbg10]
      exact hK _ _ ⟨rfl, rfl⟩
    rintro a σ ⟨rfl, rfl⟩
    replace H := Option.some.inj H; subst H
    refine AWP_kp [2] [(2, .bool g10)] rfl ?_
    refine AWP_ret ?_
    exact ⟨[.bool g10], by simp, 4, by simp [encL_nil]⟩
   ·
    replace H := ifF C3 H
    obtain ⟨g11, hg11, H⟩ := bindE H
    refine AWP_sr tok [] [1, 36] (fun a σ => a = [(1, .fptr [.int .i64 p0.Op, .int .i64 p0.Rd, .int .i64 p0.Rs, .int .i64 p0.Rt, .int .i64 p0.Imm] 0), (36, .bool g11)] ∧ σ = hp E0 [] (N0 + 23)) (fun K hK => ?_) ?_
    ·
     skip
     simp -dsimp -implicitDefEqProofs (maxDischargeDepth := 6)
     cases hbg11 : ieq p0.Op 17
     ·
      replace hg11 := ifF hbg11 hg11
      replace hg11 := Option.some.inj hg11; subst hg11
      try simp -dsimp -implicitDefEqProofs (maxDischargeDepth := 6) [hbg11]
      exact hK _ _ ⟨rfl, rfl⟩
     ·
      replace hg11 := ifT hbg11 hg11
      replace hg11 := Option.some.inj hg11; subst hg11
      try simp -dsimp -implicitDefEqProofs (maxDischargeDepth := 6) [hbg11]
      exact hK _ _ ⟨rfl, rfl⟩
    rintro a σ ⟨rfl, rfl⟩
    refine AWP_cond g11 rfl (fun C4 => ?_) (fun C4 => ?_)
    ·
     replace H := ifT C4 H
     obtain ⟨r12, hr12, H⟩ := bindE H
     obtain ⟨g14, hg14, H⟩ := bindE H
     refine AWP_sr tok [] [2] (fun a σ => a = [(2, .bool g14)] ∧ σ = hp E0 [] (N0 + 31)) (fun K hK => ?_) ?_
     ·
      skip
      simp -dsimp -implicitDefEqProofs (maxDischargeDepth := 6)
      refine (c119 hr12).app ?_; try simp -dsimp -implicitDefEqProofs (maxDischargeDepth := 6)
      cases hbg14 : r12
      ·
       replace hg14 := ifF hbg14 hg14
       replace hg14 := Option.some.inj hg14; subst hg14
       try simp -dsimp -implicitDefEqProofs (maxDischargeDepth := 6) [hbg14]
       exact hK _ _ ⟨rfl, rfl⟩
      ·
       replace hg14 := ifT hbg14 hg14
       obtain ⟨r13, hr13, hg14⟩ := bindE hg14
       replace hg14 := Option.some.inj hg14; subst hg14
       try simp -dsimp -implicitDefEqProofs (maxDischargeDepth := 6) [hbg14]
       refine (c120 hr13).app ?_; try simp -dsimp -implicitDefEqProofs (maxDischargeDepth := 6) [hbg14]
       exact hK _ _ ⟨rfl, rfl⟩
     rintro a σ ⟨rfl, rfl⟩
     replace H := Option.some.inj H; subst H
     refine AWP_kp [2] [(2, .bool g14)] rfl ?_
     refine AWP_ret ?_
     exact ⟨[.bool g14], by simp, 4, by simp [encL_nil]⟩
    ·
     replace H := ifF C4 H
     refine AWP_sr tok [] [1, 52] (fun a σ => a = [(1, .fptr [.int .i64 p0.Op, .int .i64 p0.Rd, .int .i64 p0.Rs, .int .i64 p0.Rt, .int .i64 p0.Imm] 0), (52, .bool (ieq p0.Op 19))] ∧ σ = hp E0 [] (N0 + 27)) (fun K hK => ?_) ?_
     ·
      skip
      simp -dsimp -implicitDefEqProofs (maxDischargeDepth := 6)
      exact hK _ _ ⟨rfl, rfl⟩
     rintro a σ ⟨rfl, rfl⟩
     refine AWP_cond (ieq p0.Op 19) rfl (fun C5 => ?_) (fun C5 => ?_)
     ·
      replace H := ifT C5 H
      obtain ⟨r15, hr15, H⟩ := bindE H
      obtain ⟨g17, hg17, H⟩ := bindE H
      refine AWP_sr tok [] [2] (fun a σ => a = [(2, .bool g17)] ∧ σ = hp E0 [] (N0 + 35)) (fun K hK => ?_) ?_
      ·
       skip
       simp -dsimp -implicitDefEqProofs (maxDischargeDepth := 6)
       refine (c119 hr15).app ?_; try simp -dsimp -implicitDefEqProofs (maxDischargeDepth := 6)
       cases hbg17 : r15
       ·
        replace hg17 := ifF hbg17 hg17
        replace hg17 := Option.some.inj hg17; subst hg17
        try simp -dsimp -implicitDefEqProofs (maxDischargeDepth := 6) [hbg17]
        exact hK _ _ ⟨rfl, rfl⟩
       ·
        replace hg17 := ifT hbg17 hg17
        obtain ⟨r16, hr16, hg17⟩ := bindE hg17
        replace hg17 := Option.some.inj hg17; subst hg17
        try simp -dsimp -implicitDefEqProofs (maxDischargeDepth := 6) [hbg17]
        refine (c83 hr16).app ?_; try simp -dsimp -implicitDefEqProofs (maxDischargeDepth := 6) [hbg17]
        exact hK _ _ ⟨rfl, rfl⟩
      rintro a σ ⟨rfl, rfl⟩
      replace H := Option.some.inj H; subst H
      refine AWP_kp [2] [(2, .bool g17)] rfl ?_
      refine AWP_ret ?_
      exact ⟨[.bool g17], by simp, 4, by simp [encL_nil]⟩
     ·
      replace H := ifF C5 H
      refine AWP_sr tok [] [1, 63] (fun a σ => a = [(1, .fptr [.int .i64 p0.Op, .int .i64 p0.Rd, .int .i64 p0.Rs, .int .i64 p0.Rt, .int .i64 p0.Imm] 0), (63, .bool (ieq p0.Op 20))] ∧ σ = hp E0 [] (N0 + 31)) (fun K hK => ?_) ?_
      ·
       skip
       simp -dsimp -implicitDefEqProofs (maxDischargeDepth := 6)
       exact hK _ _ ⟨rfl, rfl⟩
      rintro a σ ⟨rfl, rfl⟩
      refine AWP_cond (ieq p0.Op 20) rfl (fun C6 => ?_) (fun C6 => ?_)
      ·
       replace H := ifT C6 H
       obtain ⟨r18, hr18, H⟩ := bindE H
       obtain ⟨g20, hg20, H⟩ := bindE H
       refine AWP_sr tok [] [2] (fun a σ => a = [(2, .bool g20)] ∧ σ = hp E0 [] (N0 + 39)) (fun K hK => ?_) ?_
       ·
        skip
        simp -dsimp -implicitDefEqProofs (maxDischargeDepth := 6)
        refine (c119 hr18).app ?_; try simp -dsimp -implicitDefEqProofs (maxDischargeDepth := 6)
        cases hbg20 : r18
        ·
         replace hg20 := ifF hbg20 hg20
         replace hg20 := Option.some.inj hg20; subst hg20
         try simp -dsimp -implicitDefEqProofs (maxDischargeDepth := 6) [hbg20]
         exact hK _ _ ⟨rfl, rfl⟩
        ·
         replace hg20 := ifT hbg20 hg20
         obtain ⟨r19, hr19, hg20⟩ := bindE hg20
         replace hg20 := Option.some.inj hg20; subst hg20
         try simp -dsimp -implicitDefEqProofs (maxDischargeDepth := 6) [hbg20]
         refine (c120 hr19).app ?_; try simp -dsimp -implicitDefEqProofs (maxDischargeDepth := 6) [hbg20]
         exact hK _ _ ⟨rfl, rfl⟩
       rintro a σ ⟨rfl, rfl⟩
       replace H := Option.some.inj H; subst H
       refine AWP_kp [2] [(2, .bool g20)] rfl ?_
       refine AWP_ret ?_
       exact ⟨[.bool g20], by simp, 4, by simp [encL_nil]⟩
      ·
       replace H := ifF C6 H
       refine AWP_skip ?_
       show K1 _ _
       refine keepE (l := [1]) (x := [(1, .fptr [.int .i64 p0.Op, .int .i64 p0.Rd, .int .i64 p0.Rs, .int .i64 p0.Rt, .int .i64 p0.Imm] 0)]) rfl fun a' ha => ?_
       refine hK1 _ _ ?_; rw [ha]
       refine Rc.mk ?_
       obtain ⟨g22, hg22, H⟩ := bindE H
       obtain ⟨g23, hg23, H⟩ := bindE H
       refine AWP_sr tok [] [2] (fun a σ => a = [(2, .bool g23)] ∧ σ = hp E0 [] (N0 + 44)) (fun K hK => ?_) ?_
       ·
        skip
        simp -dsimp -implicitDefEqProofs (maxDischargeDepth := 6)
        cases hbg22 : ieq p0.Op 21
        ·
         replace hg22 := ifF hbg22 hg22
         replace hg22 := Option.some.inj hg22; subst hg22
         try simp -dsimp -implicitDefEqProofs (maxDischargeDepth := 6) [hbg22]
         replace hg23 := ifF rfl hg23
         replace hg23 := Option.some.inj hg23; subst hg23
         try simp -dsimp -implicitDefEqProofs (maxDischargeDepth := 6) [hbg22]
         exact hK _ _ ⟨rfl, rfl⟩
        ·
         replace hg22 := ifT hbg22 hg22
         obtain ⟨r21, hr21, hg22⟩ := bindE hg22
         replace hg22 := Option.some.inj hg22; subst hg22
         try simp -dsimp -implicitDefEqProofs (maxDischargeDepth := 6) [hbg22]
         refine (c119 hr21).app ?_; try simp -dsimp -implicitDefEqProofs (maxDischargeDepth := 6) [hbg22]
         cases hbg23 : r21
         ·
          replace hg23 := ifF hbg23 hg23
          replace hg23 := Option.some.inj hg23; subst hg23
          try simp -dsimp -implicitDefEqProofs (maxDischargeDepth := 6) [hbg22, hbg23]
          exact hK _ _ ⟨rfl, rfl⟩
         ·
          replace hg23 := ifT hbg23 hg23
          replace hg23 := Option.some.inj hg23; subst hg23
          try simp -dsimp -implicitDefEqProofs (maxDischargeDepth := 6) [hbg22, hbg23]
          exact hK _ _ ⟨rfl, rfl⟩
       rintro a σ ⟨rfl, rfl⟩
       replace H := Option.some.inj H; subst H
       refine AWP_kp [2] [(2, .bool g23)] rfl ?_
       refine AWP_ret ?_
       exact ⟨[.bool g23], by simp, 4, by simp [encL_nil]⟩
theorem c122 {p0 : Int} {p1 : Int} {r : Int} (H : s_l42Mod p0 p1 = some r) : APure Try.prog G 122 [.int .i64 p0, .int .i64 p1] (.int .i64 r) := by
 refine APure_fn (fun N0 => ?_) (by simp)
 refine ACalls_fn tok Try.func122 (by kernel_rfl) rfl Try.ntmps122 Try.results122 rfl ?_
 simp only [argsA, Nat.reduceAdd, hp_next]
 unfold s_l42Mod at H
 refine AWP_sr tok [] [0, 1] (fun a σ => a = [(0, .int .i64 p0), (1, .int .i64 p1)] ∧ σ = hp E0 [] (N0 + 1)) (fun K hK => ?_) ?_
 ·
  skip
  simp -dsimp -implicitDefEqProofs (maxDischargeDepth := 6)
  exact hK _ _ ⟨rfl, rfl⟩
 rintro a σ ⟨rfl, rfl⟩
 refine AWP_sq [0] fun K1 hK1 => ?_
 refine AWP_sr tok [] [0, 1, 6] (fun a σ => a = [(0, .int .i64 p0), (1, .int .i64 p1), (6, .bool (ilt p0 0))] ∧ σ = hp E0 [] (N0 + 3)) (fun K hK => ?_) ?_
 ·
  skip
  simp -dsimp -implicitDefEqProofs (maxDischargeDepth := 6)
  exact hK _ _ ⟨rfl, rfl⟩
 rintro a σ ⟨rfl, rfl⟩
 refine AWP_cond (ilt p0 0) rfl (fun C1 => ?_) (fun C1 => ?_)
 ·
  replace H := ifT C1 H
  refine AWP_sr tok [] [4] (fun a σ => a = [(4, .int .i64 (iadd .i64 p0 p1))] ∧ σ = hp E0 [] (N0 + 7)) (fun K hK => ?_) ?_
  ·
   skip
   simp -dsimp -implicitDefEqProofs (maxDischargeDepth := 6)
   exact hK _ _ ⟨rfl, rfl⟩
  rintro a σ ⟨rfl, rfl⟩
  replace H := Option.some.inj H; subst H
  refine AWP_kp [4] [(4, .int .i64 (iadd .i64 p0 p1))] rfl ?_
  refine AWP_ret ?_
  exact ⟨[.int .i64 (iadd .i64 p0 p1)], by simp, 4, by simp [encL_nil]⟩
 ·
  replace H := ifF C1 H
  refine AWP_skip ?_
  show K1 _ _
  refine keepE (l := [0]) (x := [(0, .int .i64 p0)]) rfl fun a' ha => ?_
  refine hK1 _ _ ?_; rw [ha]
  refine Rc.mk ?_
  refine AWP_sr tok [] [4] (fun a σ => a = [(4, .int .i64 p0)] ∧ σ = hp E0 [] (N0 + 5)) (fun K hK => ?_) ?_
  ·
   skip
   simp -dsimp -implicitDefEqProofs (maxDischargeDepth := 6)
   exact hK _ _ ⟨rfl, rfl⟩
  rintro a σ ⟨rfl, rfl⟩
  replace H := Option.some.inj H; subst H
  refine AWP_kp [4] [(4, .int .i64 p0)] rfl ?_
  refine AWP_ret ?_
  exact ⟨[.int .i64 p0], by simp, 4, by simp [encL_nil]⟩
theorem c123 {p0 : Int} {p1 : Int} {r : Int} (H : s_l42Put p0 p1 = some r) : APure Try.prog G 123 [.int .i64 p0, .int .i64 p1] (.int .i64 r) := by
 refine APure_fn (fun N0 => ?_) (by simp)
 refine ACalls_fn tok Try.func123 (by kernel_rfl) rfl Try.ntmps123 Try.results123 rfl ?_
 simp only [argsA, Nat.reduceAdd, hp_next]
 unfold s_l42Put at H
 refine AWP_sr tok [] [0, 1] (fun a σ => a = [(0, .int .i64 p0), (1, .int .i64 p1)] ∧ σ = hp E0 [] (N0 + 1)) (fun K hK => ?_) ?_
 ·
  skip
  simp -dsimp -implicitDefEqProofs (maxDischargeDepth := 6)
  exact hK _ _ ⟨rfl, rfl⟩
 rintro a σ ⟨rfl, rfl⟩
 obtain ⟨r1, hr1, H⟩ := bindE H
 refine AWP_sr tok [] [4] (fun a σ => a = [(4, .int .i64 (imul .i64 p0 r1))] ∧ σ = hp E0 [] (N0 + 6)) (fun K hK => ?_) ?_
 ·
  skip
  simp -dsimp -implicitDefEqProofs (maxDischargeDepth := 6)
  refine (c128 hr1).app ?_; try simp -dsimp -implicitDefEqProofs (maxDischargeDepth := 6)
  exact hK _ _ ⟨rfl, rfl⟩
 rintro a σ ⟨rfl, rfl⟩
 replace H := Option.some.inj H; subst H
 refine AWP_kp [4] [(4, .int .i64 (imul .i64 p0 r1))] rfl ?_
 refine AWP_ret ?_
 exact ⟨[.int .i64 (imul .i64 p0 r1)], by simp, 4, by simp [encL_nil]⟩
theorem c129 {p0 : Int} {r : Int} (H : s_l42Three p0 = some r) : APure Try.prog G 129 [.int .i64 p0] (.int .i64 r) := by
 refine APure_fn (fun N0 => ?_) (by simp)
 refine ACalls_fn tok Try.func129 (by kernel_rfl) rfl Try.ntmps129 Try.results129 rfl ?_
 simp only [argsA, Nat.reduceAdd, hp_next]
 unfold s_l42Three at H
 refine AWP_sr tok [] [0] (fun a σ => a = [(0, .int .i64 p0)] ∧ σ = hp E0 [] (N0 + 1)) (fun K hK => ?_) ?_
 ·
  skip
  simp -dsimp -implicitDefEqProofs (maxDischargeDepth := 6)
  exact hK _ _ ⟨rfl, rfl⟩
 rintro a σ ⟨rfl, rfl⟩
 obtain ⟨v1, hv1, H⟩ := bindE H
 have q0 : ∀ σ i, buildSliceA T 22 true i 21 [(0, .int .i64 0), (1, .int .i64 0), (2, .int .i64 0), (3, .int .i64 4), (4, .int .i64 6), (5, .int .i64 7), (6, .int .i64 6), (7, .int .i64 4), (8, .int .i64 1), (9, .int .i64 5), (10, .int .i64 2), (11, .int .i64 0), (12, .int .i64 3), (13, .int .i64 2), (14, .int .i64 0), (15, .int .i64 2), (16, .int .i64 0), (17, .int .i64 1), (18, .int .i64 0), (19, .int .i64 0), (20, .int .i64 0)] σ = some (.fsl (encL rI ([0, 0, 0, 4, 6, 7, 6, 4, 1, 5, 2, 0, 3, 2, 0, 2, 0, 1, 0, 0, 0] : List Int)), σ) := fun _ _ => rfl
 refine AWP_sr tok [0] [2] (fun a σ => a = [(2, .int .i64 v1)] ∧ σ = hp E0 [] (N0 + 7)) (fun K hK => ?_) ?_
 ·
  skip
  simp -dsimp -implicitDefEqProofs (maxDischargeDepth := 6) [q0, ix22 hv1]
  exact hK _ _ ⟨rfl, rfl⟩
 rintro a σ ⟨rfl, rfl⟩
 replace H := Option.some.inj H; subst H
 refine AWP_kp [2] [(2, .int .i64 v1)] rfl ?_
 refine AWP_ret ?_
 exact ⟨[.int .i64 v1], by simp, 4, by simp [encL_nil]⟩
theorem c124 {p0 : gInstr} {p1 : Int} {r : Int} (H : s_l42Mid p0 p1 = some r) : APure Try.prog G 124 [.agg [.int .i64 p0.Op, .int .i64 p0.Rd, .int .i64 p0.Rs, .int .i64 p0.Rt, .int .i64 p0.Imm], .int .i64 p1] (.int .i64 r) := by
 refine APure_fn (fun N0 => ?_) (by simp)
 refine ACalls_fn tok Try.func124 (by kernel_rfl) rfl Try.ntmps124 Try.results124 rfl ?_
 simp only [argsA, Nat.reduceAdd, hp_next]
 unfold s_l42Mid at H
 refine AWP_sr tok [0] [1, 2] (fun a σ => a = [(1, .int .i64 p1), (2, .fptr [.int .i64 p0.Op, .int .i64 p0.Rd, .int .i64 p0.Rs, .int .i64 p0.Rt, .int .i64 p0.Imm] 0)] ∧ σ = hp E0 [] (N0 + 2)) (fun K hK => ?_) ?_
 ·
  skip
  simp -dsimp -implicitDefEqProofs (maxDischargeDepth := 6)
  exact hK _ _ ⟨rfl, rfl⟩
 rintro a σ ⟨rfl, rfl⟩
 obtain ⟨r1, hr1, H⟩ := bindE H
 obtain ⟨r2, hr2, H⟩ := bindE H
 obtain ⟨r3, hr3, H⟩ := bindE H
 refine AWP_sd tok tokM [] [] [0, 1, 2, 3, 4, 5, 6, 7, 8, 9, 10] [4] (fun a σ => a = [(4, .int .i64 (iadd .i64 (iadd .i64 r1 r3) p1))] ∧ σ = hp E0 [] (N0 + 13)) (by decide) (fun K hK => ?_) ?_
 ·
  simp only [pickL, nthO_succ, nthO_zero]
  simp -dsimp -implicitDefEqProofs (maxDischargeDepth := 6)
  refine Pc.mk (c123 hr1) ?_; try simp -dsimp -implicitDefEqProofs (maxDischargeDepth := 6)
  refine Pc.mk (c129 hr2) ?_; try simp -dsimp -implicitDefEqProofs (maxDischargeDepth := 6)
  refine Pc.mk (c123 hr3) ?_; try simp -dsimp -implicitDefEqProofs (maxDischargeDepth := 6)
  exact hK _ _ ⟨rfl, rfl⟩
 rintro a σ ⟨rfl, rfl⟩
 replace H := Option.some.inj H; subst H
 refine AWP_kp [4] [(4, .int .i64 (iadd .i64 (iadd .i64 r1 r3) p1))] rfl ?_
 refine AWP_ret ?_
 exact ⟨[.int .i64 (iadd .i64 (iadd .i64 r1 r3) p1)], by simp, 4, by simp [encL_nil]⟩
theorem c121 {p0 : gInstr} {p1 : Int} {r : Int} (H : s_l42Imm p0 p1 = some r) : APure Try.prog G 121 [.agg [.int .i64 p0.Op, .int .i64 p0.Rd, .int .i64 p0.Rs, .int .i64 p0.Rt, .int .i64 p0.Imm], .int .i64 p1] (.int .i64 r) := by
 refine APure_fn (fun N0 => ?_) (by simp)
 refine ACalls_fn tok Try.func121 (by kernel_rfl) rfl Try.ntmps121 Try.results121 rfl ?_
 simp only [argsA, Nat.reduceAdd, hp_next]
 unfold s_l42Imm at H
 refine AWP_sr tok [0] [1, 2] (fun a σ => a = [(1, .int .i64 p1), (2, .fptr [.int .i64 p0.Op, .int .i64 p0.Rd, .int .i64 p0.Rs, .int .i64 p0.Rt, .int .i64 p0.Imm] 0)] ∧ σ = hp E0 [] (N0 + 2)) (fun K hK => ?_) ?_
 ·
  skip
  simp -dsimp -implicitDefEqProofs (maxDischargeDepth := 6)
  exact hK _ _ ⟨rfl, rfl⟩
 rintro a σ ⟨rfl, rfl⟩
 obtain ⟨r1, hr1, H⟩ := bindE H
 obtain ⟨r2, hr2, H⟩ := bindE H
 obtain ⟨r3, hr3, H⟩ := bindE H
 obtain ⟨r4, hr4, H⟩ := bindE H
 refine AWP_sd tok tokM [] [] [0, 1, 2, 3, 4, 5, 6, 7, 8, 9, 10, 11, 12] [4] (fun a σ => a = [(4, .int .i64 (iadd .i64 (iadd .i64 r2 r3) r4))] ∧ σ = hp E0 [] (N0 + 15)) (by decide) (fun K hK => ?_) ?_
 ·
  simp only [pickL, nthO_succ, nthO_zero]
  simp -dsimp -implicitDefEqProofs (maxDischargeDepth := 6)
  refine Pc.mk (c122 hr1) ?_; try simp -dsimp -implicitDefEqProofs (maxDischargeDepth := 6)
  refine Pc.mk (c123 hr2) ?_; try simp -dsimp -implicitDefEqProofs (maxDischargeDepth := 6)
  refine Pc.mk (c124 hr3) ?_; try simp -dsimp -implicitDefEqProofs (maxDischargeDepth := 6)
  refine Pc.mk (c123 hr4) ?_; try simp -dsimp -implicitDefEqProofs (maxDischargeDepth := 6)
  exact hK _ _ ⟨rfl, rfl⟩
 rintro a σ ⟨rfl, rfl⟩
 replace H := Option.some.inj H; subst H
 refine AWP_kp [4] [(4, .int .i64 (iadd .i64 (iadd .i64 r2 r3) r4))] rfl ?_
 refine AWP_ret ?_
 exact ⟨[.int .i64 (iadd .i64 (iadd .i64 r2 r3) r4)], by simp, 4, by simp [encL_nil]⟩
theorem c125 {p0 : gInstr} {r : Int} (H : s_l42Branch p0 = some r) : APure Try.prog G 125 [.agg [.int .i64 p0.Op, .int .i64 p0.Rd, .int .i64 p0.Rs, .int .i64 p0.Rt, .int .i64 p0.Imm]] (.int .i64 r) := by
 refine APure_fn (fun N0 => ?_) (by simp)
 refine ACalls_fn tok Try.func125 (by kernel_rfl) rfl Try.ntmps125 Try.results125 rfl ?_
 simp only [argsA, Nat.reduceAdd, hp_next]
 unfold s_l42Branch at H
 refine AWP_sr tok [0] [1] (fun a σ => a = [(1, .fptr [.int .i64 p0.Op, .int .i64 p0.Rd, .int .i64 p0.Rs, .int .i64 p0.Rt, .int .i64 p0.Imm] 0)] ∧ σ = hp E0 [] (N0 + 2)) (fun K hK => ?_) ?_
 ·
  skip
  simp -dsimp -implicitDefEqProofs (maxDischargeDepth := 6)
  exact hK _ _ ⟨rfl, rfl⟩
 rintro a σ ⟨rfl, rfl⟩
 obtain ⟨r1, hr1, H⟩ := bindE H
 refine AWP_sr tok [] [1, 3] (fun a σ => a = [(1, .fptr [.int .i64 p0.Op, .int .i64 p0.Rd, .int .i64 p0.Rs, .int .i64 p0.Rt, .int .i64 p0.Imm] 0), (3, .int .i64 r1)] ∧ σ = hp E0 [] (N0 + 6)) (fun K hK => ?_) ?_
 ·
  skip
  simp -dsimp -implicitDefEqProofs (maxDischargeDepth := 6)
  refine (c122 hr1).app ?_; try simp -dsimp -implicitDefEqProofs (maxDischargeDepth := 6)
  exact hK _ _ ⟨rfl, rfl⟩
 rintro a σ ⟨rfl, rfl⟩
 obtain ⟨r2, hr2, H⟩ := bindE H
 obtain ⟨r3, hr3, H⟩ := bindE H
 obtain ⟨r4, hr4, H⟩ := bindE H
 obtain ⟨r5, hr5, H⟩ := bindE H
 obtain ⟨r6, hr6, H⟩ := bindE H
 refine AWP_sd tok tokM [] [] [0, 1, 2, 3, 4, 5, 6, 7, 8, 9, 10, 11] [1, 3, 4] (fun a σ => a = [(1, .fptr [.int .i64 p0.Op, .int .i64 p0.Rd, .int .i64 p0.Rs, .int .i64 p0.Rt, .int .i64 p0.Imm] 0), (3, .int .i64 r1), (4, .int .i64 (iadd .i64 (iadd .i64 r3 r5) r6))] ∧ σ = hp E0 [] (N0 + 18)) (by decide) (fun K hK => ?_) ?_
 ·
  simp only [pickL, nthO_succ, nthO_zero]
  simp -dsimp -implicitDefEqProofs (maxDischargeDepth := 6)
  refine Pc.mk (c116 hr2) ?_; try simp -dsimp -implicitDefEqProofs (maxDischargeDepth := 6)
  refine Pc.mk (c123 hr3) ?_; try simp -dsimp -implicitDefEqProofs (maxDischargeDepth := 6)
  refine Pc.mk (c116 hr4) ?_; try simp -dsimp -implicitDefEqProofs (maxDischargeDepth := 6)
  refine Pc.mk (c123 hr5) ?_; try simp -dsimp -implicitDefEqProofs (maxDischargeDepth := 6)
  refine Pc.mk (c123 hr6) ?_; try simp -dsimp -implicitDefEqProofs (maxDischargeDepth := 6)
  exact hK _ _ ⟨rfl, rfl⟩
 rintro a σ ⟨rfl, rfl⟩
 obtain ⟨r7, hr7, H⟩ := bindE H
 obtain ⟨r8, hr8, H⟩ := bindE H
 obtain ⟨r9, hr9, H⟩ := bindE H
 obtain ⟨r10, hr10, H⟩ := bindE H
 obtain ⟨r11, hr11, H⟩ := bindE H
 refine AWP_sr tok [] [2] (fun a σ => a = [(2, .int .i64 (iadd .i64 (iadd .i64 (iadd .i64 (iadd .i64 (iadd .i64 r3 r5) r6) r7) r9) r11))] ∧ σ = hp E0 [] (N0 + 31)) (fun K hK => ?_) ?_
 ·
  skip
  simp -dsimp -implicitDefEqProofs (maxDischargeDepth := 6)
  refine (c124 hr7).app ?_; try simp -dsimp -implicitDefEqProofs (maxDischargeDepth := 6)
  refine (c116 hr8).app ?_; try simp -dsimp -implicitDefEqProofs (maxDischargeDepth := 6)
  refine (c123 hr9).app ?_; try simp -dsimp -implicitDefEqProofs (maxDischargeDepth := 6)
  refine (c116 hr10).app ?_; try simp -dsimp -implicitDefEqProofs (maxDischargeDepth := 6)
  refine (c123 hr11).app ?_; try simp -dsimp -implicitDefEqProofs (maxDischargeDepth := 6)
  exact hK _ _ ⟨rfl, rfl⟩
 rintro a σ ⟨rfl, rfl⟩
 replace H := Option.some.inj H; subst H
 refine AWP_kp [2] [(2, .int .i64 (iadd .i64 (iadd .i64 (iadd .i64 (iadd .i64 (iadd .i64 r3 r5) r6) r7) r9) r11))] rfl ?_
 refine AWP_ret ?_
 exact ⟨[.int .i64 (iadd .i64 (iadd .i64 (iadd .i64 (iadd .i64 (iadd .i64 r3 r5) r6) r7) r9) r11)], by simp, 4, by simp [encL_nil]⟩
theorem c126 {p0 : gInstr} {r : Int} (H : s_l42Jump p0 = some r) : APure Try.prog G 126 [.agg [.int .i64 p0.Op, .int .i64 p0.Rd, .int .i64 p0.Rs, .int .i64 p0.Rt, .int .i64 p0.Imm]] (.int .i64 r) := by
 refine APure_fn (fun N0 => ?_) (by simp)
 refine ACalls_fn tok Try.func126 (by kernel_rfl) rfl Try.ntmps126 Try.results126 rfl ?_
 simp only [argsA, Nat.reduceAdd, hp_next]
 unfold s_l42Jump at H
 refine AWP_sr tok [0] [1] (fun a σ => a = [(1, .fptr [.int .i64 p0.Op, .int .i64 p0.Rd, .int .i64 p0.Rs, .int .i64 p0.Rt, .int .i64 p0.Imm] 0)] ∧ σ = hp E0 [] (N0 + 2)) (fun K hK => ?_) ?_
 ·
  skip
  simp -dsimp -implicitDefEqProofs (maxDischargeDepth := 6)
  exact hK _ _ ⟨rfl, rfl⟩
 rintro a σ ⟨rfl, rfl⟩
 obtain ⟨r1, hr1, H⟩ := bindE H
 refine AWP_sr tok [] [1, 3] (fun a σ => a = [(1, .fptr [.int .i64 p0.Op, .int .i64 p0.Rd, .int .i64 p0.Rs, .int .i64 p0.Rt, .int .i64 p0.Imm] 0), (3, .int .i64 r1)] ∧ σ = hp E0 [] (N0 + 6)) (fun K hK => ?_) ?_
 ·
  skip
  simp -dsimp -implicitDefEqProofs (maxDischargeDepth := 6)
  refine (c122 hr1).app ?_; try simp -dsimp -implicitDefEqProofs (maxDischargeDepth := 6)
  exact hK _ _ ⟨rfl, rfl⟩
 rintro a σ ⟨rfl, rfl⟩
 obtain ⟨r2, hr2, H⟩ := bindE H
 obtain ⟨r3, hr3, H⟩ := bindE H
 obtain ⟨r4, hr4, H⟩ := bindE H
 obtain ⟨r5, hr5, H⟩ := bindE H
 obtain ⟨r6, hr6, H⟩ := bindE H
 obtain ⟨r7, hr7, H⟩ := bindE H
 refine AWP_sr tok [] [1, 3, 4] (fun a σ => a = [(1, .fptr [.int .i64 p0.Op, .int .i64 p0.Rd, .int .i64 p0.Rs, .int .i64 p0.Rt, .int .i64 p0.Imm] 0), (3, .int .i64 r1), (4, .int .i64 (iadd .i64 (iadd .i64 r3 r5) r7))] ∧ σ = hp E0 [] (N0 + 18)) (fun K hK => ?_) ?_
 ·
  skip
  simp -dsimp -implicitDefEqProofs (maxDischargeDepth := 6)
  refine (c116 hr2).app ?_; try simp -dsimp -implicitDefEqProofs (maxDischargeDepth := 6)
  refine (c123 hr3).app ?_; try simp -dsimp -implicitDefEqProofs (maxDischargeDepth := 6)
  refine (c116 hr4).app ?_; try simp -dsimp -implicitDefEqProofs (maxDischargeDepth := 6)
  refine (c123 hr5).app ?_; try simp -dsimp -implicitDefEqProofs (maxDischargeDepth := 6)
  refine (c116 hr6).app ?_; try simp -dsimp -implicitDefEqProofs (maxDischargeDepth := 6)
  refine (c123 hr7).app ?_; try simp -dsimp -implicitDefEqProofs (maxDischargeDepth := 6)
  exact hK _ _ ⟨rfl, rfl⟩
 rintro a σ ⟨rfl, rfl⟩
 obtain ⟨r8, hr8, H⟩ := bindE H
 obtain ⟨r9, hr9, H⟩ := bindE H
 obtain ⟨r10, hr10, H⟩ := bindE H
 refine AWP_sd tok tokM [] [] [0, 1, 2, 3, 4, 5, 6, 7, 8, 9, 10] [2] (fun a σ => a = [(2, .int .i64 (iadd .i64 (iadd .i64 (iadd .i64 (iadd .i64 (iadd .i64 r3 r5) r7) r9) r10) 111))] ∧ σ = hp E0 [] (N0 + 29)) (by decide) (fun K hK => ?_) ?_
 ·
  simp only [pickL, nthO_succ, nthO_zero]
  simp -dsimp -implicitDefEqProofs (maxDischargeDepth := 6)
  refine Pc.mk (c116 hr8) ?_; try simp -dsimp -implicitDefEqProofs (maxDischargeDepth := 6)
  refine Pc.mk (c123 hr9) ?_; try simp -dsimp -implicitDefEqProofs (maxDischargeDepth := 6)
  refine Pc.mk (c123 hr10) ?_; try simp -dsimp -implicitDefEqProofs (maxDischargeDepth := 6)
  exact hK _ _ ⟨rfl, rfl⟩
 rintro a σ ⟨rfl, rfl⟩
 replace H := Option.some.inj H; subst H
 refine AWP_kp [2] [(2, .int .i64 (iadd .i64 (iadd .i64 (iadd .i64 (iadd .i64 (iadd .i64 r3 r5) r7) r9) r10) 111))] rfl ?_
 refine AWP_ret ?_
 exact ⟨[.int .i64 (iadd .i64 (iadd .i64 (iadd .i64 (iadd .i64 (iadd .i64 r3 r5) r7) r9) r10) 111)], by simp, 4, by simp [encL_nil]⟩
theorem c127 {p0 : Int} {r : Int} (H : s_l42Seven p0 = some r) : APure Try.prog G 127 [.int .i64 p0] (.int .i64 r) := by
 refine APure_fn (fun N0 => ?_) (by simp)
 refine ACalls_fn tok Try.func127 (by kernel_rfl) rfl Try.ntmps127 Try.results127 rfl ?_
 simp only [argsA, Nat.reduceAdd, hp_next]
 unfold s_l42Seven at H
 refine AWP_sr tok [] [0] (fun a σ => a = [(0, .int .i64 p0)] ∧ σ = hp E0 [] (N0 + 1)) (fun K hK => ?_) ?_
 ·
  skip
  simp -dsimp -implicitDefEqProofs (maxDischargeDepth := 6)
  exact hK _ _ ⟨rfl, rfl⟩
 rintro a σ ⟨rfl, rfl⟩
 obtain ⟨v1, hv1, H⟩ := bindE H
 have q0 : ∀ σ i, buildSliceA T 22 true i 11 [(0, .int .i64 0), (1, .int .i64 32), (2, .int .i64 1), (3, .int .i64 1), (4, .int .i64 1), (5, .int .i64 0), (6, .int .i64 0), (7, .int .i64 0), (8, .int .i64 0), (9, .int .i64 32), (10, .int .i64 0)] σ = some (.fsl (encL rI ([0, 32, 1, 1, 1, 0, 0, 0, 0, 32, 0] : List Int)), σ) := fun _ _ => rfl
 refine AWP_sr tok [0] [2] (fun a σ => a = [(2, .int .i64 v1)] ∧ σ = hp E0 [] (N0 + 7)) (fun K hK => ?_) ?_
 ·
  skip
  simp -dsimp -implicitDefEqProofs (maxDischargeDepth := 6) [q0, ix22 hv1]
  exact hK _ _ ⟨rfl, rfl⟩
 rintro a σ ⟨rfl, rfl⟩
 replace H := Option.some.inj H; subst H
 refine AWP_kp [2] [(2, .int .i64 v1)] rfl ?_
 refine AWP_ret ?_
 exact ⟨[.int .i64 v1], by simp, 4, by simp [encL_nil]⟩
theorem c114 {p0 : gInstr} {r : Int} (H : s_l42Encode p0 = some r) : APure Try.prog G 114 [.agg [.int .i64 p0.Op, .int .i64 p0.Rd, .int .i64 p0.Rs, .int .i64 p0.Rt, .int .i64 p0.Imm]] (.int .i64 r) := by
 refine APure_fn (fun N0 => ?_) (by simp)
 refine ACalls_fn tok Try.func114 (by kernel_rfl) rfl Try.ntmps114 Try.results114 rfl ?_
 simp only [argsA, Nat.reduceAdd, hp_next]
 unfold s_l42Encode at H
 refine AWP_sr tok [0] [1] (fun a σ => a = [(1, .fptr [.int .i64 p0.Op, .int .i64 p0.Rd, .int .i64 p0.Rs, .int .i64 p0.Rt, .int .i64 p0.Imm] 0)] ∧ σ = hp E0 [] (N0 + 2)) (fun K hK => ?_) ?_
 ·
  skip
  simp -dsimp -implicitDefEqProofs (maxDischargeDepth := 6)
  exact hK _ _ ⟨rfl, rfl⟩
 rintro a σ ⟨rfl, rfl⟩
 refine AWP_sq [1] fun K1 hK1 => ?_
 refine AWP_sr tok [] [1, 5] (fun a σ => a = [(1, .fptr [.int .i64 p0.Op, .int .i64 p0.Rd, .int .i64 p0.Rs, .int .i64 p0.Rt, .int .i64 p0.Imm] 0), (5, .int .i64 p0.Op)] ∧ σ = hp E0 [] (N0 + 4)) (fun K hK => ?_) ?_
 ·
  skip
  simp -dsimp -implicitDefEqProofs (maxDischargeDepth := 6)
  exact hK _ _ ⟨rfl, rfl⟩
 rintro a σ ⟨rfl, rfl⟩
 refine AWP_block (AWP_thenB ?_)
 obtain ⟨j1, hj1, H⟩ := bindE H
 refine AWP_seq (AWP_named fun K3 hK3 => ?_)
 have hJ1 : ∀ a σ, Rc G 74 N0 (fun a σ => ∃ M1 : Nat, N0 ≤ M1 ∧ a = [(1, .fptr [.int .i64 p0.Op, .int .i64 p0.Rd, .int .i64 p0.Rs, .int .i64 p0.Rt, .int .i64 p0.Imm] 0), (5, .int .i64 p0.Op), (6, .bool j1)] ∧ σ = hp E0 [] M1) (a.keep [1, 5, 6]) σ → K3 a σ := by
  rintro a σ ⟨b, τ, hr, M1, fM1_0, rfl, rfl⟩
  refine hK3 _ _ (AWP_keep [1, 5, 6] (AWP_ref hr ?_))
  refine AWP_cond j1 rfl (fun C1 => ?_) (fun C1 => ?_)
  ·
   replace H := ifT C1 H
   obtain ⟨r2, hr2, H⟩ := bindE H
   refine AWP_sr tok [] [2] (fun a σ => a = [(2, .int .i64 r2)] ∧ σ = hp E0 [] (M1 + 3)) (fun K hK => ?_) ?_
   ·
    skip
    simp -dsimp -implicitDefEqProofs (maxDischargeDepth := 6)
    refine (c121 hr2).app ?_; try simp -dsimp -implicitDefEqProofs (maxDischargeDepth := 6)
    exact hK _ _ ⟨rfl, rfl⟩
   rintro a σ ⟨rfl, rfl⟩
   replace H := Option.some.inj H; subst H
   refine AWP_kp [2] [(2, .int .i64 r2)] rfl ?_
   refine AWP_ret ?_
   exact ⟨[.int .i64 r2], by simp, 4, by simp [encL_nil]⟩
  ·
   replace H := ifF C1 H
   refine AWP_sr tok [] [1, 5, 11] (fun a σ => a = [(1, .fptr [.int .i64 p0.Op, .int .i64 p0.Rd, .int .i64 p0.Rs, .int .i64 p0.Rt, .int .i64 p0.Imm] 0), (5, .int .i64 p0.Op), (11, .bool (ieq p0.Op 14))] ∧ σ = hp E0 [] (M1 + 2)) (fun K hK => ?_) ?_
   ·
    skip
    simp -dsimp -implicitDefEqProofs (maxDischargeDepth := 6)
    exact hK _ _ ⟨rfl, rfl⟩
   rintro a σ ⟨rfl, rfl⟩
   refine AWP_cond (ieq p0.Op 14) rfl (fun C2 => ?_) (fun C2 => ?_)
   ·
    replace H := ifT C2 H
    obtain ⟨r3, hr3, H⟩ := bindE H
    refine AWP_sr tok [] [2] (fun a σ => a = [(2, .int .i64 r3)] ∧ σ = hp E0 [] (M1 + 5)) (fun K hK => ?_) ?_
    ·
     skip
     simp -dsimp -implicitDefEqProofs (maxDischargeDepth := 6)
     refine (c121 hr3).app ?_; try simp -dsimp -implicitDefEqProofs (maxDischargeDepth := 6)
     exact hK _ _ ⟨rfl, rfl⟩
    rintro a σ ⟨rfl, rfl⟩
    replace H := Option.some.inj H; subst H
    refine AWP_kp [2] [(2, .int .i64 r3)] rfl ?_
    refine AWP_ret ?_
    exact ⟨[.int .i64 r3], by simp, 4, by simp [encL_nil]⟩
   ·
    replace H := ifF C2 H
    refine AWP_sr tok [] [1, 5, 15] (fun a σ => a = [(1, .fptr [.int .i64 p0.Op, .int .i64 p0.Rd, .int .i64 p0.Rs, .int .i64 p0.Rt, .int .i64 p0.Imm] 0), (5, .int .i64 p0.Op), (15, .bool (ieq p0.Op 15))] ∧ σ = hp E0 [] (M1 + 4)) (fun K hK => ?_) ?_
    ·
     skip
     simp -dsimp -implicitDefEqProofs (maxDischargeDepth := 6)
     exact hK _ _ ⟨rfl, rfl⟩
    rintro a σ ⟨rfl, rfl⟩
    refine AWP_cond (ieq p0.Op 15) rfl (fun C3 => ?_) (fun C3 => ?_)
    ·
     replace H := ifT C3 H
     obtain ⟨r4, hr4, H⟩ := bindE H
     refine AWP_sr tok [] [2] (fun a σ => a = [(2, .int .i64 r4)] ∧ σ = hp E0 [] (M1 + 7)) (fun K hK => ?_) ?_
     ·
      skip
      simp -dsimp -implicitDefEqProofs (maxDischargeDepth := 6)
      refine (c121 hr4).app ?_; try simp -dsimp -implicitDefEqProofs (maxDischargeDepth := 6)
      exact hK _ _ ⟨rfl, rfl⟩
     rintro a σ ⟨rfl, rfl⟩
     replace H := Option.some.inj H; subst H
     refine AWP_kp [2] [(2, .int .i64 r4)] rfl ?_
     refine AWP_ret ?_
     exact ⟨[.int .i64 r4], by simp, 4, by simp [encL_nil]⟩
    ·
     replace H := ifF C3 H
     refine AWP_sr tok [] [1, 5, 19] (fun a σ => a = [(1, .fptr [.int .i64 p0.Op, .int .i64 p0.Rd, .int .i64 p0.Rs, .int .i64 p0.Rt, .int .i64 p0.Imm] 0), (5, .int .i64 p0.Op), (19, .bool (ieq p0.Op 16))] ∧ σ = hp E0 [] (M1 + 6)) (fun K hK => ?_) ?_
     ·
      skip
      simp -dsimp -implicitDefEqProofs (maxDischargeDepth := 6)
      exact hK _ _ ⟨rfl, rfl⟩
     rintro a σ ⟨rfl, rfl⟩
     refine AWP_cond (ieq p0.Op 16) rfl (fun C4 => ?_) (fun C4 => ?_)
     ·
      replace H := ifT C4 H
      obtain ⟨r5, hr5, H⟩ := bindE H
      refine AWP_sr tok [] [1, 3] (fun a σ => a = [(1, .fptr [.int .i64 p0.Op, .int .i64 p0.Rd, .int .i64 p0.Rs, .int .i64 p0.Rt, .int .i64 p0.Imm] 0), (3, .int .i64 r5)] ∧ σ = hp E0 [] (M1 + 10)) (fun K hK => ?_) ?_
      ·
       skip
       simp -dsimp -implicitDefEqProofs (maxDischargeDepth := 6)
       refine (c122 hr5).app ?_; try simp -dsimp -implicitDefEqProofs (maxDischargeDepth := 6)
       exact hK _ _ ⟨rfl, rfl⟩
      rintro a σ ⟨rfl, rfl⟩
      obtain ⟨r6, hr6, H⟩ := bindE H
      obtain ⟨r7, hr7, H⟩ := bindE H
      obtain ⟨r8, hr8, H⟩ := bindE H
      obtain ⟨r9, hr9, H⟩ := bindE H
      obtain ⟨r10, hr10, H⟩ := bindE H
      obtain ⟨r11, hr11, H⟩ := bindE H
      refine AWP_sd tok tokM [] [] [0, 1, 2, 3, 4, 5, 6, 7, 8, 9, 10, 11, 12, 13, 14] [2] (fun a σ => a = [(2, .int .i64 (iadd .i64 (iadd .i64 (iadd .i64 r7 r8) r9) r11))] ∧ σ = hp E0 [] (M1 + 25)) (by decide) (fun K hK => ?_) ?_
      ·
       simp only [pickL, nthO_succ, nthO_zero]
       simp -dsimp -implicitDefEqProofs (maxDischargeDepth := 6)
       refine Pc.mk (c116 hr6) ?_; try simp -dsimp -implicitDefEqProofs (maxDischargeDepth := 6)
       refine Pc.mk (c123 hr7) ?_; try simp -dsimp -implicitDefEqProofs (maxDischargeDepth := 6)
       refine Pc.mk (c123 hr8) ?_; try simp -dsimp -implicitDefEqProofs (maxDischargeDepth := 6)
       refine Pc.mk (c124 hr9) ?_; try simp -dsimp -implicitDefEqProofs (maxDischargeDepth := 6)
       refine Pc.mk (c116 hr10) ?_; try simp -dsimp -implicitDefEqProofs (maxDischargeDepth := 6)
       refine Pc.mk (c123 hr11) ?_; try simp -dsimp -implicitDefEqProofs (maxDischargeDepth := 6)
       exact hK _ _ ⟨rfl, rfl⟩
      rintro a σ ⟨rfl, rfl⟩
      replace H := Option.some.inj H; subst H
      refine AWP_kp [2] [(2, .int .i64 (iadd .i64 (iadd .i64 (iadd .i64 r7 r8) r9) r11))] rfl ?_
      refine AWP_ret ?_
      exact ⟨[.int .i64 (iadd .i64 (iadd .i64 (iadd .i64 r7 r8) r9) r11)], by simp, 4, by simp [encL_nil]⟩
     ·
      replace H := ifF C4 H
      obtain ⟨j2, hj2, H⟩ := bindE H
      refine AWP_seq (AWP_named fun K2 hK2 => ?_)
      have hJ2 : ∀ a σ, Rc G 74 N0 (fun a σ => ∃ M2 : Nat, N0 ≤ M2 ∧ a = [(1, .fptr [.int .i64 p0.Op, .int .i64 p0.Rd, .int .i64 p0.Rs, .int .i64 p0.Rt, .int .i64 p0.Imm] 0), (5, .int .i64 p0.Op), (38, .bool j2)] ∧ σ = hp E0 [] M2) (a.keep [1, 5, 38]) σ → K2 a σ := by
       rintro a σ ⟨b, τ, hr, M2, fM2_0, rfl, rfl⟩
       refine hK2 _ _ (AWP_keep [1, 5, 38] (AWP_ref hr ?_))
       refine AWP_cond j2 rfl (fun C5 => ?_) (fun C5 => ?_)
       ·
        replace H := ifT C5 H
        obtain ⟨r13, hr13, H⟩ := bindE H
        refine AWP_sr tok [] [2] (fun a σ => a = [(2, .int .i64 r13)] ∧ σ = hp E0 [] (M2 + 3)) (fun K hK => ?_) ?_
        ·
         skip
         simp -dsimp -implicitDefEqProofs (maxDischargeDepth := 6)
         refine (c125 hr13).app ?_; try simp -dsimp -implicitDefEqProofs (maxDischargeDepth := 6)
         exact hK _ _ ⟨rfl, rfl⟩
        rintro a σ ⟨rfl, rfl⟩
        replace H := Option.some.inj H; subst H
        refine AWP_kp [2] [(2, .int .i64 r13)] rfl ?_
        refine AWP_ret ?_
        exact ⟨[.int .i64 r13], by simp, 4, by simp [encL_nil]⟩
       ·
        replace H := ifF C5 H
        refine AWP_sr tok [] [1, 5, 43] (fun a σ => a = [(1, .fptr [.int .i64 p0.Op, .int .i64 p0.Rd, .int .i64 p0.Rs, .int .i64 p0.Rt, .int .i64 p0.Imm] 0), (5, .int .i64 p0.Op), (43, .bool (ieq p0.Op 19))] ∧ σ = hp E0 [] (M2 + 2)) (fun K hK => ?_) ?_
        ·
         skip
         simp -dsimp -implicitDefEqProofs (maxDischargeDepth := 6)
         exact hK _ _ ⟨rfl, rfl⟩
        rintro a σ ⟨rfl, rfl⟩
        refine AWP_cond (ieq p0.Op 19) rfl (fun C6 => ?_) (fun C6 => ?_)
        ·
         replace H := ifT C6 H
         obtain ⟨r14, hr14, H⟩ := bindE H
         obtain ⟨r15, hr15, H⟩ := bindE H
         refine AWP_sd tok tokM [] [] [0, 1, 2, 3, 4, 5, 6, 7, 8] [2] (fun a σ => a = [(2, .int .i64 (iadd .i64 (iadd .i64 r14 r15) 55))] ∧ σ = hp E0 [] (M2 + 11)) (by decide) (fun K hK => ?_) ?_
         ·
          simp only [pickL, nthO_succ, nthO_zero]
          simp -dsimp -implicitDefEqProofs (maxDischargeDepth := 6)
          refine Pc.mk (c123 hr14) ?_; try simp -dsimp -implicitDefEqProofs (maxDischargeDepth := 6)
          refine Pc.mk (c123 hr15) ?_; try simp -dsimp -implicitDefEqProofs (maxDischargeDepth := 6)
          exact hK _ _ ⟨rfl, rfl⟩
         rintro a σ ⟨rfl, rfl⟩
         replace H := Option.some.inj H; subst H
         refine AWP_kp [2] [(2, .int .i64 (iadd .i64 (iadd .i64 r14 r15) 55))] rfl ?_
         refine AWP_ret ?_
         exact ⟨[.int .i64 (iadd .i64 (iadd .i64 r14 r15) 55)], by simp, 4, by simp [encL_nil]⟩
        ·
         replace H := ifF C6 H
         refine AWP_sr tok [] [1, 5, 53] (fun a σ => a = [(1, .fptr [.int .i64 p0.Op, .int .i64 p0.Rd, .int .i64 p0.Rs, .int .i64 p0.Rt, .int .i64 p0.Imm] 0), (5, .int .i64 p0.Op), (53, .bool (ieq p0.Op 20))] ∧ σ = hp E0 [] (M2 + 4)) (fun K hK => ?_) ?_
         ·
          skip
          simp -dsimp -implicitDefEqProofs (maxDischargeDepth := 6)
          exact hK _ _ ⟨rfl, rfl⟩
         rintro a σ ⟨rfl, rfl⟩
         refine AWP_cond (ieq p0.Op 20) rfl (fun C7 => ?_) (fun C7 => ?_)
         ·
          replace H := ifT C7 H
          obtain ⟨r16, hr16, H⟩ := bindE H
          refine AWP_sr tok [] [2] (fun a σ => a = [(2, .int .i64 r16)] ∧ σ = hp E0 [] (M2 + 7)) (fun K hK => ?_) ?_
          ·
           skip
           simp -dsimp -implicitDefEqProofs (maxDischargeDepth := 6)
           refine (c126 hr16).app ?_; try simp -dsimp -implicitDefEqProofs (maxDischargeDepth := 6)
           exact hK _ _ ⟨rfl, rfl⟩
          rintro a σ ⟨rfl, rfl⟩
          replace H := Option.some.inj H; subst H
          refine AWP_kp [2] [(2, .int .i64 r16)] rfl ?_
          refine AWP_ret ?_
          exact ⟨[.int .i64 r16], by simp, 4, by simp [encL_nil]⟩
         ·
          replace H := ifF C7 H
          refine AWP_sr tok [] [1, 57] (fun a σ => a = [(1, .fptr [.int .i64 p0.Op, .int .i64 p0.Rd, .int .i64 p0.Rs, .int .i64 p0.Rt, .int .i64 p0.Imm] 0), (57, .bool (ieq p0.Op 21))] ∧ σ = hp E0 [] (M2 + 6)) (fun K hK => ?_) ?_
          ·
           skip
           simp -dsimp -implicitDefEqProofs (maxDischargeDepth := 6)
           exact hK _ _ ⟨rfl, rfl⟩
          rintro a σ ⟨rfl, rfl⟩
          refine AWP_cond (ieq p0.Op 21) rfl (fun C8 => ?_) (fun C8 => ?_)
          ·
           replace H := ifT C8 H
           refine AWP_sr tok [] [2] (fun a σ => a = [(2, .int .i64 115)] ∧ σ = hp E0 [] (M2 + 7)) (fun K hK => ?_) ?_
           ·
            skip
            simp -dsimp -implicitDefEqProofs (maxDischargeDepth := 6)
            exact hK _ _ ⟨rfl, rfl⟩
           rintro a σ ⟨rfl, rfl⟩
           replace H := Option.some.inj H; subst H
           refine AWP_kp [2] [(2, .int .i64 115)] rfl ?_
           refine AWP_ret ?_
           exact ⟨[.int .i64 115], by simp, 4, by simp [encL_nil]⟩
          ·
           replace H := ifF C8 H
           refine AWP_skip ?_
           show K1 _ _
           refine keepE (l := [1]) (x := [(1, .fptr [.int .i64 p0.Op, .int .i64 p0.Rd, .int .i64 p0.Rs, .int .i64 p0.Rt, .int .i64 p0.Imm] 0)]) rfl fun a' ha => ?_
           refine hK1 _ _ ?_; rw [ha]
           refine Rc.mk ?_
           obtain ⟨r17, hr17, H⟩ := bindE H
           obtain ⟨r18, hr18, H⟩ := bindE H
           obtain ⟨r19, hr19, H⟩ := bindE H
           obtain ⟨r20, hr20, H⟩ := bindE H
           obtain ⟨r21, hr21, H⟩ := bindE H
           refine AWP_sd tok tokM [] [] [0, 1, 2, 3, 4, 5, 6, 7, 8, 9, 10, 11, 12, 13, 14, 15] [2] (fun a σ => a = [(2, .int .i64 (iadd .i64 (iadd .i64 (iadd .i64 r18 r19) r20) r21))] ∧ σ = hp E0 [] (M2 + 22)) (by decide) (fun K hK => ?_) ?_
           ·
            simp only [pickL, nthO_succ, nthO_zero]
            simp -dsimp -implicitDefEqProofs (maxDischargeDepth := 6)
            refine Pc.mk (c127 hr17) ?_; try simp -dsimp -implicitDefEqProofs (maxDischargeDepth := 6)
            refine Pc.mk (c123 hr18) ?_; try simp -dsimp -implicitDefEqProofs (maxDischargeDepth := 6)
            refine Pc.mk (c123 hr19) ?_; try simp -dsimp -implicitDefEqProofs (maxDischargeDepth := 6)
            refine Pc.mk (c124 hr20) ?_; try simp -dsimp -implicitDefEqProofs (maxDischargeDepth := 6)
            refine Pc.mk (c123 hr21) ?_; try simp -dsimp -implicitDefEqProofs (maxDischargeDepth := 6)
            exact hK _ _ ⟨rfl, rfl⟩
           rintro a σ ⟨rfl, rfl⟩
           replace H := Option.some.inj H; subst H
           refine AWP_kp [2] [(2, .int .i64 (iadd .i64 (iadd .i64 (iadd .i64 r18 r19) r20) r21))] rfl ?_
           refine AWP_ret ?_
           exact ⟨[.int .i64 (iadd .i64 (iadd .i64 (iadd .i64 r18 r19) r20) r21)], by simp, 4, by simp [encL_nil]⟩
      replace H := hj2
      refine AWP_sr tok [] [1, 5, 38] (fun a σ => a = [(1, .fptr [.int .i64 p0.Op, .int .i64 p0.Rd, .int .i64 p0.Rs, .int .i64 p0.Rt, .int .i64 p0.Imm] 0), (5, .int .i64 p0.Op), (38, .bool (ieq p0.Op 17))] ∧ σ = hp E0 [] (M1 + 8)) (fun K hK => ?_) ?_
      ·
       skip
       simp -dsimp -implicitDefEqProofs (maxDischargeDepth := 6)
       exact hK _ _ ⟨rfl, rfl⟩
      rintro a σ ⟨rfl, rfl⟩
      refine AWP_cond (ieq p0.Op 17) rfl (fun C9 => ?_) (fun C9 => ?_)
      ·
       replace H := ifT C9 H
       refine AWP_skip ?_
       show K2 _ _
       refine keepE (l := [1, 5, 38]) (x := [(1, .fptr [.int .i64 p0.Op, .int .i64 p0.Rd, .int .i64 p0.Rs, .int .i64 p0.Rt, .int .i64 p0.Imm] 0), (5, .int .i64 p0.Op), (38, .bool (ieq p0.Op 17))]) rfl fun a' ha => ?_
       replace H := Option.some.inj H; subst H
       refine hJ2 _ _ ?_; rw [ha]
       exact Rc.fin (AHeap.Sub.refl _) ⟨M1 + 8, (by omega), rfl, rfl⟩
      ·
       replace H := ifF C9 H
       refine AWP_rt tok [] [1, 5, 38] (fun a σ => a = [(1, .fptr [.int .i64 p0.Op, .int .i64 p0.Rd, .int .i64 p0.Rs, .int .i64 p0.Rt, .int .i64 p0.Imm] 0), (5, .int .i64 p0.Op), (38, .bool (ieq p0.Op 18))] ∧ σ = hp E0 [] (M1 + 10)) (fun K hK => ?_) ?_
       ·
        skip
        simp -dsimp -implicitDefEqProofs (maxDischargeDepth := 6)
        exact hK _ _ ⟨rfl, rfl⟩
       rintro a σ ⟨ha, rfl⟩
       replace H := Option.some.inj H; subst H
       refine hJ2 _ _ ?_; rw [ha]
       exact Rc.fin (AHeap.Sub.refl _) ⟨M1 + 10, (by omega), rfl, rfl⟩
 replace H := hj1
 refine AWP_sr tok [] [1, 5, 6] (fun a σ => a = [(1, .fptr [.int .i64 p0.Op, .int .i64 p0.Rd, .int .i64 p0.Rs, .int .i64 p0.Rt, .int .i64 p0.Imm] 0), (5, .int .i64 p0.Op), (6, .bool (ieq p0.Op 12))] ∧ σ = hp E0 [] (N0 + 6)) (fun K hK => ?_) ?_
 ·
  skip
  simp -dsimp -implicitDefEqProofs (maxDischargeDepth := 6)
  exact hK _ _ ⟨rfl, rfl⟩
 rintro a σ ⟨rfl, rfl⟩
 refine AWP_cond (ieq p0.Op 12) rfl (fun C10 => ?_) (fun C10 => ?_)
 ·
  replace H := ifT C10 H
  refine AWP_skip ?_
  show K3 _ _
  refine keepE (l := [1, 5, 6]) (x := [(1, .fptr [.int .i64 p0.Op, .int .i64 p0.Rd, .int .i64 p0.Rs, .int .i64 p0.Rt, .int .i64 p0.Imm] 0), (5, .int .i64 p0.Op), (6, .bool (ieq p0.Op 12))]) rfl fun a' ha => ?_
  replace H := Option.some.inj H; subst H
  refine hJ1 _ _ ?_; rw [ha]
  exact Rc.fin (AHeap.Sub.refl _) ⟨N0 + 6, (by omega), rfl, rfl⟩
 ·
  replace H := ifF C10 H
  refine AWP_rt tok [] [1, 5, 6] (fun a σ => a = [(1, .fptr [.int .i64 p0.Op, .int .i64 p0.Rd, .int .i64 p0.Rs, .int .i64 p0.Rt, .int .i64 p0.Imm] 0), (5, .int .i64 p0.Op), (6, .bool (ieq p0.Op 13))] ∧ σ = hp E0 [] (N0 + 8)) (fun K hK => ?_) ?_
  ·
   skip
   simp -dsimp -implicitDefEqProofs (maxDischargeDepth := 6)
   exact hK _ _ ⟨rfl, rfl⟩
  rintro a σ ⟨ha, rfl⟩
  replace H := Option.some.inj H; subst H
  refine hJ1 _ _ ?_; rw [ha]
  exact Rc.fin (AHeap.Sub.refl _) ⟨N0 + 8, (by omega), rfl, rfl⟩
theorem c100 {p0 : gInstr} {r : Int × Bool} (H : s_InstrEncode p0 = some r) : APure Try.prog G 100 [.agg [.int .i64 p0.Op, .int .i64 p0.Rd, .int .i64 p0.Rs, .int .i64 p0.Rt, .int .i64 p0.Imm]] (.tup [.int .i64 r.1, .bool r.2]) := by
 refine APure_fn (fun N0 => ?_) (by simp)
 refine ACalls_fn tok Try.func100 (by kernel_rfl) rfl Try.ntmps100 Try.results100 rfl ?_
 simp only [argsA, Nat.reduceAdd, hp_next]
 unfold s_InstrEncode at H
 refine AWP_sr tok [0] [1] (fun a σ => a = [(1, .fptr [.int .i64 p0.Op, .int .i64 p0.Rd, .int .i64 p0.Rs, .int .i64 p0.Rt, .int .i64 p0.Imm] 0)] ∧ σ = hp E0 [] (N0 + 3)) (fun K hK => ?_) ?_
 ·
  skip
  simp -dsimp -implicitDefEqProofs (maxDischargeDepth := 6)
  exact hK _ _ ⟨rfl, rfl⟩
 rintro a σ ⟨rfl, rfl⟩
 refine AWP_sq [1] fun K1 hK1 => ?_
 obtain ⟨r1, hr1, H⟩ := bindE H
 refine AWP_sr tok [] [1, 6] (fun a σ => a = [(1, .fptr [.int .i64 p0.Op, .int .i64 p0.Rd, .int .i64 p0.Rs, .int .i64 p0.Rt, .int .i64 p0.Imm] 0), (6, .bool (bnot r1))] ∧ σ = hp E0 [] (N0 + 6)) (fun K hK => ?_) ?_
 ·
  skip
  simp -dsimp -implicitDefEqProofs (maxDischargeDepth := 6)
  refine (c113 hr1).app ?_; try simp -dsimp -implicitDefEqProofs (maxDischargeDepth := 6)
  exact hK _ _ ⟨rfl, rfl⟩
 rintro a σ ⟨rfl, rfl⟩
 refine AWP_cond (bnot r1) rfl (fun C1 => ?_) (fun C1 => ?_)
 ·
  replace H := ifT C1 H
  refine AWP_sr tok [] [2, 3] (fun a σ => a = [(2, .int .i64 0), (3, .bool false)] ∧ σ = hp E0 [] (N0 + 8)) (fun K hK => ?_) ?_
  ·
   skip
   simp -dsimp -implicitDefEqProofs (maxDischargeDepth := 6)
   exact hK _ _ ⟨rfl, rfl⟩
  rintro a σ ⟨rfl, rfl⟩
  replace H := Option.some.inj H; subst H
  refine AWP_kp [2, 3] [(2, .int .i64 0), (3, .bool false)] rfl ?_
  refine AWP_ret ?_
  exact ⟨[.int .i64 0, .bool false], by simp, 4, by simp [encL_nil]⟩
 ·
  replace H := ifF C1 H
  refine AWP_skip ?_
  show K1 _ _
  refine keepE (l := [1]) (x := [(1, .fptr [.int .i64 p0.Op, .int .i64 p0.Rd, .int .i64 p0.Rs, .int .i64 p0.Rt, .int .i64 p0.Imm] 0)]) rfl fun a' ha => ?_
  refine hK1 _ _ ?_; rw [ha]
  refine Rc.mk ?_
  obtain ⟨r2, hr2, H⟩ := bindE H
  refine AWP_sr tok [] [2, 3] (fun a σ => a = [(2, .int .i64 r2), (3, .bool true)] ∧ σ = hp E0 [] (N0 + 10)) (fun K hK => ?_) ?_
  ·
   skip
   simp -dsimp -implicitDefEqProofs (maxDischargeDepth := 6)
   refine (c114 hr2).app ?_; try simp -dsimp -implicitDefEqProofs (maxDischargeDepth := 6)
   exact hK _ _ ⟨rfl, rfl⟩
  rintro a σ ⟨rfl, rfl⟩
  replace H := Option.some.inj H; subst H
  refine AWP_kp [2, 3] [(2, .int .i64 r2), (3, .bool true)] rfl ?_
  refine AWP_ret ?_
  exact ⟨[.int .i64 r2, .bool true], by simp, 4, by simp [encL_nil]⟩
theorem c91_o {p0 : (List Int)} {p1 : (List gInstr)} {r : (List Int) × Bool} (H : s_l45Code_o p0 p1 = some r) {σ : AHeap} {w0 : Nat} (q0 : σ.objs w0 = some ⟨3, 1, encL rI p0⟩) : ACalls Try.prog G 91 [.sl w0 0 p0.length, .fsl (encL rInstr p1)] σ (fun v σ' => ∃ M n0 : Nat, σ.next ≤ M ∧ σ.next ≤ n0 ∧ n0 < M ∧ v = .tup [.sl n0 0 r.1.length, .bool r.2] ∧ σ' = hp σ.objs [(n0, some ⟨3, 1, encL rI r.1⟩), (w0, none)] M) := by
 refine ACalls_fr (L := [(w0, some ⟨3, 1, encL rI p0⟩)]) (Q1 := fun v σ' => ∃ M n0 : Nat, σ.next ≤ M ∧ σ.next ≤ n0 ∧ n0 < M ∧ v = .tup [.sl n0 0 r.1.length, .bool r.2] ∧ σ' = hp E0 [(n0, some ⟨3, 1, encL rI r.1⟩), (w0, none)] M) (by simp [q0]) (fun hlt => ?_) ?_ ⟨_, Try.func91, rfl, rfl⟩
 rotate_left
 ·
  rintro v σ1 ⟨M, n0, h0, h1, h2, rfl, rfl⟩
  exact ⟨_, M, rfl, by simp, by simp; try omega, M, n0, h0, h1, h2, rfl, rfl⟩
 generalize σ.next = N0 at hlt ⊢
 have lw0 : w0 < N0 := hlt _ (.head _) rfl
 refine ACalls_fn tok Try.func91 (by kernel_rfl) rfl Try.ntmps91 Try.results91 rfl ?_
 simp only [argsA, Nat.reduceAdd, hp_next]
 unfold s_l45Code_o at H
 refine gRenS AWP_ref 0 (d := w0) (obd := ⟨3, 1, encL rI p0⟩) [(N0, some ⟨3, 1, encL rI p0⟩)] [(0, .sl N0 0 p0.length), (1, .fsl (encL rInstr p1))] rfl (by simp (disch := omega)) (by simp (disch := omega) <;> omega) (by simp (disch := omega)) [0, 1] rfl ?_
 refine AWP_sr tok [] [0, 1] (fun a σ => a = [(0, .sl N0 0 p0.length), (1, .fsl (encL rInstr p1))] ∧ σ = hp E0 [(N0, some ⟨3, 1, encL rI p0⟩)] (N0 + 3)) (fun K hK => ?_) ?_
 ·
  skip
  simp -dsimp -implicitDefEqProofs (maxDischargeDepth := 6)
  exact hK _ _ ⟨rfl, rfl⟩
 rintro a σ ⟨rfl, rfl⟩
 refine AWP_sq [0] fun K1 hK1 => ?_
 refine AWP_sr tok [] [0, 1, 6] (fun a σ => a = [(0, .sl N0 0 p0.length), (1, .fsl (encL rInstr p1)), (6, .int .i64 0)] ∧ σ = hp E0 [(N0, some ⟨3, 1, encL rI p0⟩)] (N0 + 4)) (fun K hK => ?_) ?_
 ·
  skip
  simp -dsimp -implicitDefEqProofs (maxDischargeDepth := 6)
  exact hK _ _ ⟨rfl, rfl⟩
 rintro a σ ⟨rfl, rfl⟩
 refine AWP_block (AWP_thenB ?_)
 obtain ⟨e1, hse1, H⟩ := bindE H
 refine AWP_lp [0, 1, 6] (fun s a σ => ∃ M1 o1 : Nat, N0 ≤ M1 ∧ N0 ≤ o1 ∧ o1 < M1 ∧ a = [(0, .sl o1 0 s.2.length), (1, .fsl (encL rInstr p1)), (6, .int .i64 s.1)] ∧ σ = hp E0 [(o1, some ⟨3, 1, encL rI s.2⟩)] M1) (fun e x a σ => match e with | .inl s => x = .exit 0 ∧ Rc G 32 N0 (fun a σ => ∃ M2 o2 : Nat, N0 ≤ M2 ∧ N0 ≤ o2 ∧ o2 < M2 ∧ a = [(0, .sl o2 0 s.length)] ∧ σ = hp E0 [(o2, some ⟨3, 1, encL rI s⟩)] M2) (AAct.keep a [0]) σ | .inr s => x = .ret ∧ ∃ vs, resA T σ a [.tmp 4, .tmp 5] = some vs ∧ ∃ M n0 : Nat, N0 ≤ M ∧ N0 ≤ n0 ∧ n0 < M ∧ (tupA vs) = .tup [.sl n0 0 s.1.length, .bool s.2] ∧ σ = hp E0 [(n0, some ⟨3, 1, encL rI s.1⟩), (w0, none)] M) hse1 ?_ ?_ ?_
 ·
  refine Rc.kp [0, 1, 6] [(0, .sl N0 0 p0.length), (1, .fsl (encL rInstr p1)), (6, .int .i64 0)] rfl ?_
  exact Rc.fin (AHeap.Sub.refl _) ⟨N0 + 4, N0, (by omega), (by omega), (by omega), rfl, rfl⟩
 ·
  clear H hse1
  rintro ⟨s1, s2⟩ fl a σ H ⟨M1, o1, fM1_0, fM1_1, fM1_2, rfl, rfl⟩ K2 O2 hK2 hO2
  unfold s_l45Code_o_L1 at H; dsimp only at H
  refine AWP_sq [0, 1, 6] fun K3 hK3 => ?_
  refine AWP_sr tok [] [0, 1, 6, 12] (fun a σ => a = [(0, .sl o1 0 s2.length), (1, .fsl (encL rInstr p1)), (6, .int .i64 s1), (12, .bool (ilt s1 (ilen p1)))] ∧ σ = hp E0 [(o1, some ⟨3, 1, encL rI s2⟩)] (M1 + 4)) (fun K hK => ?_) ?_
  ·
   skip
   simp -dsimp -implicitDefEqProofs (maxDischargeDepth := 6)
   exact hK _ _ ⟨rfl, rfl⟩
  rintro a σ ⟨rfl, rfl⟩
  refine AWP_cond (ilt s1 (ilen p1)) rfl (fun C1 => ?_) (fun C1 => ?_)
  ·
   replace H := ifT C1 H
   refine AWP_skip ?_
   show K3 _ _
   refine keepE (l := [0, 1, 6]) (x := [(0, .sl o1 0 s2.length), (1, .fsl (encL rInstr p1)), (6, .int .i64 s1)]) rfl fun a' ha => ?_
   refine hK3 _ _ ?_; rw [ha]
   refine Rc.mk ?_
   refine AWP_sq [0, 1, 6] fun K4 hK4 => ?_
   refine AWP_block (AWP_thenB ?_)
   obtain ⟨v4, hv4, H⟩ := bindE H
   obtain ⟨r5, hr5, H⟩ := bindE H
   refine AWP_sr tok [] [0, 1, 6, 7, 8] (fun a σ => a = [(0, .sl o1 0 s2.length), (1, .fsl (encL rInstr p1)), (6, .int .i64 s1), (7, .int .i64 r5.1), (8, .bool r5.2)] ∧ σ = hp E0 [(o1, some ⟨3, 1, encL rI s2⟩)] (M1 + 14)) (fun K hK => ?_) ?_
   ·
    skip
    simp -dsimp -implicitDefEqProofs (maxDischargeDepth := 6) [ix100 hv4]
    refine (c100 hr5).app ?_; try simp -dsimp -implicitDefEqProofs (maxDischargeDepth := 6) [ix100 hv4]
    exact hK _ _ ⟨rfl, rfl⟩
   rintro a σ ⟨rfl, rfl⟩
   refine AWP_sq [0, 1, 6, 7] fun K5 hK5 => ?_
   refine AWP_sr tok [] [0, 1, 6, 7, 24] (fun a σ => a = [(0, .sl o1 0 s2.length), (1, .fsl (encL rInstr p1)), (6, .int .i64 s1), (7, .int .i64 r5.1), (24, .bool (bnot r5.2))] ∧ σ = hp E0 [(o1, some ⟨3, 1, encL rI s2⟩)] (M1 + 16)) (fun K hK => ?_) ?_
   ·
    skip
    simp -dsimp -implicitDefEqProofs (maxDischargeDepth := 6)
    exact hK _ _ ⟨rfl, rfl⟩
   rintro a σ ⟨rfl, rfl⟩
   refine AWP_cond (bnot r5.2) rfl (fun C2 => ?_) (fun C2 => ?_)
   ·
    replace H := ifT C2 H
    refine AWP_sr tok [] [4, 5] (fun a σ => a = [(4, .sl o1 0 s2.length), (5, .bool false)] ∧ σ = hp E0 [(o1, some ⟨3, 1, encL rI s2⟩)] (M1 + 19)) (fun K hK => ?_) ?_
    ·
     skip
     simp -dsimp -implicitDefEqProofs (maxDischargeDepth := 6)
     exact hK _ _ ⟨rfl, rfl⟩
    rintro a σ ⟨rfl, rfl⟩
    replace H := Option.some.inj H; subst H
    refine AWP_kp [4, 5] [(4, .sl o1 0 s2.length), (5, .bool false)] rfl ?_
    refine AWP_ret (hO2 _ _ _ _ rfl ⟨rfl, ?_⟩)
    refine ⟨[.sl o1 0 s2.length, .bool false], by simp, M1 + 19, o1, by omega, by omega, by omega, ?_, ?_⟩
    ·
     simp [encL_nil]
    ·
     symm; first | exact hp_tail (L := [(o1, some ⟨3, 1, encL rI s2⟩)]) | (simp only [List.set_set]; exact hp_tail (L := [(o1, some ⟨3, 1, encL rI s2⟩)]))
   ·
    replace H := ifF C2 H
    refine AWP_skip ?_
    show K5 _ _
    refine keepE (l := [0, 1, 6, 7]) (x := [(0, .sl o1 0 s2.length), (1, .fsl (encL rInstr p1)), (6, .int .i64 s1), (7, .int .i64 r5.1)]) rfl fun a' ha => ?_
    refine hK5 _ _ ?_; rw [ha]
    refine Rc.mk ?_
    obtain ⟨r6, hr6, H⟩ := bindE H
    obtain ⟨l7, hl7, H⟩ := bindE H
    have q0 : ∀ σ i, buildSliceA T 22 true i 1 [(0, .int .i64 r6)] σ = some (.fsl (encL rI ([r6] : List Int)), σ) := fun _ _ => rfl
    refine AWP_rt tok [3] [0, 1, 6] (fun a σ => a = [(0, .sl (M1 + 20) 0 l7.length), (1, .fsl (encL rInstr p1)), (6, .int .i64 s1)] ∧ σ = hp E0 [(M1 + 20, some ⟨3, 1, encL rI l7⟩)] (M1 + 22)) (fun K hK => ?_) ?_
    ·
     skip
     have e0 := nq (a := o1) (b := M1 + 20) (by omega)
     simp -dsimp -implicitDefEqProofs (maxDischargeDepth := 6) [e0, q0, app22 hl7]
     refine (c95 hr6).app ?_; try simp -dsimp -implicitDefEqProofs (maxDischargeDepth := 6) [e0, q0, app22 hl7]
     exact hK _ _ ⟨rfl, rfl⟩
    rintro a σ ⟨ha, rfl⟩
    refine hK4 _ _ ?_; rw [ha]
    refine Rc.mk ?_
    refine AWP_rt tok [] [0, 1, 6] (fun a σ => a = [(0, .sl (M1 + 20) 0 l7.length), (1, .fsl (encL rInstr p1)), (6, .int .i64 (iadd .i64 s1 1))] ∧ σ = hp E0 [(M1 + 20, some ⟨3, 1, encL rI l7⟩)] (M1 + 25)) (fun K hK => ?_) ?_
    ·
     skip
     simp -dsimp -implicitDefEqProofs (maxDischargeDepth := 6)
     exact hK _ _ ⟨rfl, rfl⟩
    rintro a σ ⟨ha, rfl⟩
    replace H := Option.some.inj H; subst H
    refine hK2 _ _ _ rfl ?_; rw [ha]
    exact Rc.fin (AHeap.Sub.refl _) ⟨M1 + 25, (M1 + 20), (by omega), (by omega), (by omega), rfl, rfl⟩
  ·
   replace H := ifF C1 H
   replace H := Option.some.inj H; subst H
   refine AWP_exit (hO2 _ _ _ _ rfl ⟨rfl, ?_⟩)
   refine Rc.rw (l := [0]) (X := [(0, .sl o1 0 s2.length)]) rfl ?_
   exact Rc.fin (AHeap.Sub.refl _) ⟨M1 + 4, o1, (by omega), (by omega), (by omega), rfl, rfl⟩
 ·
  intro x a σ hx
  rcases e1 with y3 | r0
  ·
   obtain ⟨rfl, b, τ, hr, M2, o2, fM2_0, fM2_1, fM2_2, rfl, rfl⟩ := hx
   dsimp only at H
   show K1 _ _
   refine hK1 _ _ (Rc_ref hr ?_)
   refine Rc.mk ?_
   refine AWP_sr tok [] [4, 5] (fun a σ => a = [(4, .sl o2 0 y3.length), (5, .bool true)] ∧ σ = hp E0 [(o2, some ⟨3, 1, encL rI y3⟩)] (M2 + 3)) (fun K hK => ?_) ?_
   ·
    skip
    simp -dsimp -implicitDefEqProofs (maxDischargeDepth := 6)
    exact hK _ _ ⟨rfl, rfl⟩
   rintro a σ ⟨rfl, rfl⟩
   replace H := Option.some.inj H; subst H
   refine AWP_kp [4, 5] [(4, .sl o2 0 y3.length), (5, .bool true)] rfl ?_
   refine AWP_ret ?_
   refine ⟨[.sl o2 0 y3.length, .bool true], by simp, M2 + 3, o2, by omega, by omega, by omega, ?_, ?_⟩
   ·
    simp [encL_nil]
   ·
    symm; first | exact hp_tail (L := [(o2, some ⟨3, 1, encL rI y3⟩)]) | (simp only [List.set_set]; exact hp_tail (L := [(o2, some ⟨3, 1, encL rI y3⟩)]))
  ·
   obtain ⟨rfl, hx2⟩ := hx
   dsimp only at H
   replace H := Option.some.inj H; subst H; exact hx2
theorem c71_o {p0 : (List gInstr)} {r : gMachine × Bool} (H : s_HartNew_o p0 = some r) {σ : AHeap} : ACalls Try.prog G 71 [.fsl (encL rInstr p0)] σ (fun v σ' => ∃ M n0 : Nat, σ.next ≤ M ∧ σ.next ≤ n0 ∧ n0 < M ∧ v = .tup [.agg [.sl n0 0 r.1.Regs.length, .int .i64 r.1.Pc, .fsl (encL rI r.1.Mem)], .bool r.2] ∧ σ' = hp σ.objs [(n0, some ⟨3, 1, encL rI r.1.Regs⟩)] M) := by
 refine ACalls_fr (L := []) (Q1 := fun v σ' => ∃ M n0 : Nat, σ.next ≤ M ∧ σ.next ≤ n0 ∧ n0 < M ∧ v = .tup [.agg [.sl n0 0 r.1.Regs.length, .int .i64 r.1.Pc, .fsl (encL rI r.1.Mem)], .bool r.2] ∧ σ' = hp E0 [(n0, some ⟨3, 1, encL rI r.1.Regs⟩)] M) (by simp []) (fun hlt => ?_) ?_ ⟨_, Try.func71, rfl, rfl⟩
 rotate_left
 ·
  rintro v σ1 ⟨M, n0, h0, h1, h2, rfl, rfl⟩
  exact ⟨_, M, rfl, by simp, by simp; try omega, M, n0, h0, h1, h2, rfl, rfl⟩
 generalize σ.next = N0 at hlt ⊢
 refine ACalls_thaw 4 ?_
 refine ACalls_fn tok Try.func71 (by kernel_rfl) rfl Try.ntmps71 Try.results71 rfl ?_
 simp only [argsA, Nat.reduceAdd, hp_next]
 unfold s_HartNew_o at H
 refine AWP_sr tok [] [0, 2] (fun a σ => a = [(0, .fsl (encL rInstr p0)), (2, .ptr N0 0 0)] ∧ σ = hp E0 [(N0, some ⟨28, 3, [[.nilsl, .int .i64 0, .nilsl]]⟩)] (N0 + 2)) (fun K hK => ?_) ?_
 ·
  skip
  simp -dsimp -implicitDefEqProofs (maxDischargeDepth := 6)
  exact hK _ _ ⟨rfl, rfl⟩
 rintro a σ ⟨rfl, rfl⟩
 refine AWP_sq [0, 2] fun K1 hK1 => ?_
 refine AWP_sr tok [] [0, 2, 9] (fun a σ => a = [(0, .fsl (encL rInstr p0)), (2, .ptr N0 0 0), (9, .bool (igt (ilen p0) 9987))] ∧ σ = hp E0 [(N0, some ⟨28, 3, [[.nilsl, .int .i64 0, .nilsl]]⟩)] (N0 + 5)) (fun K hK => ?_) ?_
 ·
  skip
  simp -dsimp -implicitDefEqProofs (maxDischargeDepth := 6)
  exact hK _ _ ⟨rfl, rfl⟩
 rintro a σ ⟨rfl, rfl⟩
 refine AWP_cond (igt (ilen p0) 9987) rfl (fun C1 => ?_) (fun C1 => ?_)
 ·
  replace H := ifT C1 H
  refine AWP_sr tok [0] [2, 3] (fun a σ => a = [(2, .ptr N0 0 0), (3, .bool false)] ∧ σ = hp E0 [(N0, some ⟨28, 3, [[.nilsl, .int .i64 0, .nilsl]]⟩)] (N0 + 8)) (fun K hK => ?_) ?_
  ·
   skip
   simp -dsimp -implicitDefEqProofs (maxDischargeDepth := 6)
   exact hK _ _ ⟨rfl, rfl⟩
  rintro a σ ⟨rfl, rfl⟩
  replace H := Option.some.inj H; subst H
  refine AWP_kp [2, 3] [(2, .ptr N0 0 0), (3, .bool false)] rfl ?_
  refine gPk0 AWP_ref (o := N0) (ob := ⟨28, 3, [[.nilsl, .int .i64 0, .nilsl]]⟩) (row := [.nilsl, .int .i64 0, .nilsl]) (r := 0) (i := 0) 3 1 [(N0, some ⟨28, 3, [[.osl 3 1 (encL rI ([] : List Int)), .int .i64 0, .nilsl]]⟩)] (by simp (disch := omega)) rfl rfl (by simp (disch := omega)) (by simp (disch := omega) [encL_nil, List.set_set, app_set]) ?_
  refine gPk0 AWP_ref (o := N0) (ob := ⟨28, 3, [[.osl 3 1 (encL rI ([] : List Int)), .int .i64 0, .nilsl]]⟩) (row := [.osl 3 1 (encL rI ([] : List Int)), .int .i64 0, .nilsl]) (r := 0) (i := 2) 3 1 [(N0, some ⟨28, 3, [[.osl 3 1 (encL rI ([] : List Int)), .int .i64 0, .osl 3 1 (encL rI ([] : List Int))]]⟩)] (by simp (disch := omega)) rfl rfl (by simp (disch := omega)) (by simp (disch := omega) [encL_nil, List.set_set, app_set]) ?_
  refine gUnp AWP_ref (ty := 3) (sz := 1) (es := encL rI ([] : List Int)) (o := N0) (ob := ⟨28, 3, [[.osl 3 1 (encL rI ([] : List Int)), .int .i64 0, .osl 3 1 (encL rI ([] : List Int))]]⟩) (row := [.osl 3 1 (encL rI ([] : List Int)), .int .i64 0, .osl 3 1 (encL rI ([] : List Int))]) (r := 0) (i := 0) [(N0, some ⟨28, 3, [[.sl (N0 + 8) 0 ([] : List Int).length, .int .i64 0, .osl 3 1 (encL rI ([] : List Int))]]⟩), (N0 + 8, some ⟨3, 1, encL rI ([] : List Int)⟩)] (by simp (disch := omega)) rfl rfl (by simp (disch := omega) [List.set_set]) ?_
  refine gUnp AWP_ref (ty := 3) (sz := 1) (es := encL rI ([] : List Int)) (o := N0) (ob := ⟨28, 3, [[.sl (N0 + 8) 0 ([] : List Int).length, .int .i64 0, .osl 3 1 (encL rI ([] : List Int))]]⟩) (row := [.sl (N0 + 8) 0 ([] : List Int).length, .int .i64 0, .osl 3 1 (encL rI ([] : List Int))]) (r := 0) (i := 2) [(N0, some ⟨28, 3, [[.sl (N0 + 8) 0 ([] : List Int).length, .int .i64 0, .sl (N0 + 9) 0 ([] : List Int).length]]⟩), (N0 + 8, some ⟨3, 1, encL rI ([] : List Int)⟩), (N0 + 9, some ⟨3, 1, encL rI ([] : List Int)⟩)] (by simp (disch := omega)) rfl rfl (by simp (disch := omega) [List.set_set]) ?_
  refine AWP_ret ?_
  refine ⟨[.agg [.sl (N0 + 8) 0 ([] : List Int).length, .int .i64 0, .sl (N0 + 9) 0 ([] : List Int).length], .bool false], by simp, (fun o => [N0, N0 + 9].contains o), N0 + 10, N0 + 8, by omega, by omega, by omega, ?_, ?_⟩
  ·
   simp [encL_nil]
  ·
   rw [cutD (L' := [(N0 + 8, some ⟨3, 1, encL rI ([] : List Int)⟩)]) (by simp)]
   first | done | rfl | simp [List.set_set]
 ·
  replace H := ifF C1 H
  refine AWP_skip ?_
  show K1 _ _
  refine keepE (l := [0, 2]) (x := [(0, .fsl (encL rInstr p0)), (2, .ptr N0 0 0)]) rfl fun a' ha => ?_
  refine hK1 _ _ ?_; rw [ha]
  refine Rc.mk ?_
  refine gPk0 AWP_ref (o := N0) (ob := ⟨28, 3, [[.nilsl, .int .i64 0, .nilsl]]⟩) (row := [.nilsl, .int .i64 0, .nilsl]) (r := 0) (i := 0) 3 1 [(N0, some ⟨28, 3, [[.osl 3 1 (encL rI ([] : List Int)), .int .i64 0, .nilsl]]⟩)] (by simp (disch := omega)) rfl rfl (by simp (disch := omega)) (by simp (disch := omega) [encL_nil, List.set_set, app_set]) ?_
  refine gPk0 AWP_ref (o := N0) (ob := ⟨28, 3, [[.osl 3 1 (encL rI ([] : List Int)), .int .i64 0, .nilsl]]⟩) (row := [.osl 3 1 (encL rI ([] : List Int)), .int .i64 0, .nilsl]) (r := 0) (i := 2) 3 1 [(N0, some ⟨28, 3, [[.osl 3 1 (encL rI ([] : List Int)), .int .i64 0, .osl 3 1 (encL rI ([] : List Int))]]⟩)] (by simp (disch := omega)) rfl rfl (by simp (disch := omega)) (by simp (disch := omega) [encL_nil, List.set_set, app_set]) ?_
  obtain ⟨l1, hl1, H⟩ := bindE H
  obtain ⟨r2, hr2, H⟩ := bindE H
  have q0 : ∀ σ i, buildSliceA T 22 false i 1 [(0, .int .i64 0)] σ = some (.sl i 0 (List.length l1), σ.put i ⟨3, 1, encL rI l1⟩) := by rw [← Option.some.inj hl1]; intro _ _; rfl
  refine AWP_sr tok [] [2, 4, 5] (fun a σ => ∃ M1 o1 : Nat, N0 + 13 ≤ M1 ∧ N0 + 13 ≤ o1 ∧ o1 < M1 ∧ a = [(2, .ptr N0 0 0), (4, .sl o1 0 r2.1.length), (5, .bool r2.2)] ∧ σ = hp E0 [(N0, some ⟨28, 3, [[.osl 3 1 (encL rI ([] : List Int)), .int .i64 0, .osl 3 1 (encL rI ([] : List Int))]]⟩), (o1, some ⟨3, 1, encL rI r2.1⟩)] M1) (fun K hK => ?_) ?_
  ·
   skip
   simp -dsimp -implicitDefEqProofs (maxDischargeDepth := 6) [q0]
   refine (c91_o (H := hr2) (by simp [q0])).mono ?_; rintro _ _ ⟨M1, o1, fM1_0, fM1_1, fM1_2, rfl, rfl⟩; simp only [hp_next] at fM1_0 fM1_1 fM1_2
   have eM1_0 := nq (a := o1) (b := N0) (by omega)
   have eM1_1 := nq (a := o1) (b := N0 + 5) (by omega)
   try simp -dsimp -implicitDefEqProofs (maxDischargeDepth := 6) [q0, eM1_0, eM1_1, hp_over_some, hp_over_none]
   exact hK _ _ ⟨M1, o1, (by omega), (by omega), (by omega), rfl, rfl⟩
  rintro a σ ⟨M1, o1, fM1_0, fM1_1, fM1_2, rfl, rfl⟩
  refine AWP_sq [2, 4] fun K2 hK2 => ?_
  refine AWP_sr tok [] [2, 4, 18] (fun a σ => a = [(2, .ptr N0 0 0), (4, .sl o1 0 r2.1.length), (18, .bool (bnot r2.2))] ∧ σ = hp E0 [(N0, some ⟨28, 3, [[.osl 3 1 (encL rI ([] : List Int)), .int .i64 0, .osl 3 1 (encL rI ([] : List Int))]]⟩), (o1, some ⟨3, 1, encL rI r2.1⟩)] (M1 + 2)) (fun K hK => ?_) ?_
  ·
   skip
   have e0 := nq (a := N0) (b := o1) (by omega)
   simp -dsimp -implicitDefEqProofs (maxDischargeDepth := 6) [e0]
   exact hK _ _ ⟨rfl, rfl⟩
  rintro a σ ⟨rfl, rfl⟩
  refine AWP_cond (bnot r2.2) rfl (fun C2 => ?_) (fun C2 => ?_)
  ·
   replace H := ifT C2 H
   refine AWP_sr tok [0] [2, 3] (fun a σ => a = [(2, .ptr N0 0 0), (3, .bool false)] ∧ σ = hp E0 [(N0, some ⟨28, 3, [[.nilsl, .int .i64 0, .nilsl]]⟩), (o1, some ⟨3, 1, encL rI r2.1⟩)] (M1 + 5)) (fun K hK => ?_) ?_
   ·
    skip
    have e0 := nq (a := N0) (b := o1) (by omega)
    simp -dsimp -implicitDefEqProofs (maxDischargeDepth := 6) [e0]
    exact hK _ _ ⟨rfl, rfl⟩
   rintro a σ ⟨rfl, rfl⟩
   replace H := Option.some.inj H; subst H
   refine AWP_kp [2, 3] [(2, .ptr N0 0 0), (3, .bool false)] rfl ?_
   refine gPk0 AWP_ref (o := N0) (ob := ⟨28, 3, [[.nilsl, .int .i64 0, .nilsl]]⟩) (row := [.nilsl, .int .i64 0, .nilsl]) (r := 0) (i := 0) 3 1 [(N0, some ⟨28, 3, [[.osl 3 1 (encL rI ([] : List Int)), .int .i64 0, .nilsl]]⟩), (o1, some ⟨3, 1, encL rI r2.1⟩)] (by simp (disch := omega)) rfl rfl (by simp (disch := omega)) (by simp (disch := omega) [encL_nil, List.set_set, app_set]) ?_
   refine gPk0 AWP_ref (o := N0) (ob := ⟨28, 3, [[.osl 3 1 (encL rI ([] : List Int)), .int .i64 0, .nilsl]]⟩) (row := [.osl 3 1 (encL rI ([] : List Int)), .int .i64 0, .nilsl]) (r := 0) (i := 2) 3 1 [(N0, some ⟨28, 3, [[.osl 3 1 (encL rI ([] : List Int)), .int .i64 0, .osl 3 1 (encL rI ([] : List Int))]]⟩), (o1, some ⟨3, 1, encL rI r2.1⟩)] (by simp (disch := omega)) rfl rfl (by simp (disch := omega)) (by simp (disch := omega) [encL_nil, List.set_set, app_set]) ?_
   refine gUnp AWP_ref (ty := 3) (sz := 1) (es := encL rI ([] : List Int)) (o := N0) (ob := ⟨28, 3, [[.osl 3 1 (encL rI ([] : List Int)), .int .i64 0, .osl 3 1 (encL rI ([] : List Int))]]⟩) (row := [.osl 3 1 (encL rI ([] : List Int)), .int .i64 0, .osl 3 1 (encL rI ([] : List Int))]) (r := 0) (i := 0) [(N0, some ⟨28, 3, [[.sl (M1 + 5) 0 ([] : List Int).length, .int .i64 0, .osl 3 1 (encL rI ([] : List Int))]]⟩), (o1, some ⟨3, 1, encL rI r2.1⟩), (M1 + 5, some ⟨3, 1, encL rI ([] : List Int)⟩)] (by simp (disch := omega)) rfl rfl (by simp (disch := omega) [List.set_set]) ?_
   refine gUnp AWP_ref (ty := 3) (sz := 1) (es := encL rI ([] : List Int)) (o := N0) (ob := ⟨28, 3, [[.sl (M1 + 5) 0 ([] : List Int).length, .int .i64 0, .osl 3 1 (encL rI ([] : List Int))]]⟩) (row := [.sl (M1 + 5) 0 ([] : List Int).length, .int .i64 0, .osl 3 1 (encL rI ([] : List Int))]) (r := 0) (i := 2) [(N0, some ⟨28, 3, [[.sl (M1 + 5) 0 ([] : List Int).length, .int .i64 0, .sl (M1 + 6) 0 ([] : List Int).length]]⟩), (o1, some ⟨3, 1, encL rI r2.1⟩), (M1 + 5, some ⟨3, 1, encL rI ([] : List Int)⟩), (M1 + 6, some ⟨3, 1, encL rI ([] : List Int)⟩)] (by simp (disch := omega)) rfl rfl (by simp (disch := omega) [List.set_set]) ?_
   have z0 := nq (a := N0) (b := o1) (by omega)
   have z1 := nq (a := N0) (b := M1 + 5) (by omega)
   have z2 := nq (a := N0) (b := M1 + 6) (by omega)
   have z3 := nq (a := o1) (b := M1 + 5) (by omega)
   have z4 := nq (a := o1) (b := M1 + 6) (by omega)
   refine gDrop AWP_ref [(N0, some ⟨28, 3, [[.sl (M1 + 5) 0 ([] : List Int).length, .int .i64 0, .sl (M1 + 6) 0 ([] : List Int).length]]⟩), (M1 + 5, some ⟨3, 1, encL rI ([] : List Int)⟩), (M1 + 6, some ⟨3, 1, encL rI ([] : List Int)⟩)] (hp_skip (AHeap.Sub.trans (hp_skip (hp_skip (AHeap.Sub.refl _))) (hp_drop rfl (by simp; try omega)))) ?_
   refine AWP_ret ?_
   refine ⟨[.agg [.sl (M1 + 5) 0 ([] : List Int).length, .int .i64 0, .sl (M1 + 6) 0 ([] : List Int).length], .bool false], by simp [z0, z1, z2, z3, z4], (fun o => [N0, M1 + 6].contains o), M1 + 7, M1 + 5, by omega, by omega, by omega, ?_, ?_⟩
   ·
    simp [encL_nil, z0, z1, z2, z3, z4]
   ·
    rw [cutD (L' := [(M1 + 5, some ⟨3, 1, encL rI ([] : List Int)⟩)]) (by simp [z0, z1, z2, z3, z4])]
    first | done | rfl | simp [List.set_set]
  ·
   replace H := ifF C2 H
   refine AWP_skip ?_
   show K2 _ _
   refine keepE (l := [2, 4]) (x := [(2, .ptr N0 0 0), (4, .sl o1 0 r2.1.length)]) rfl fun a' ha => ?_
   refine hK2 _ _ ?_; rw [ha]
   refine Rc.mk ?_
   obtain ⟨l3, hl3, H⟩ := bindE H
   refine AWP_sr tok [] [2, 4, 6] (fun a σ => a = [(2, .ptr N0 0 0), (4, .sl o1 0 r2.1.length), (6, .ptr (M1 + 4) 0 0)] ∧ σ = hp E0 [(N0, some ⟨28, 3, [[.osl 3 1 (encL rI ([] : List Int)), .int .i64 0, .osl 3 1 (encL rI ([] : List Int))]]⟩), (o1, some ⟨3, 1, encL rI r2.1⟩), (M1 + 2, some ⟨3, 1, encL rI l3⟩), (M1 + 4, some ⟨28, 3, [[.sl (M1 + 2) 0 l3.length, .int .i64 4, .fsl []]]⟩)] (M1 + 6)) (fun K hK => ?_) ?_
   ·
    skip
    have e0 := nq (a := N0) (b := o1) (by omega)
    have e1 := nq (a := N0) (b := M1 + 2) (by omega)
    have e2 := nq (a := N0) (b := M1 + 4) (by omega)
    have e3 := nq (a := o1) (b := M1 + 2) (by omega)
    have e4 := nq (a := o1) (b := M1 + 4) (by omega)
    simp -dsimp -implicitDefEqProofs (maxDischargeDepth := 6) [e0, e1, e2, e3, e4, mak22 hl3]
    exact hK _ _ ⟨rfl, rfl⟩
   rintro a σ ⟨rfl, rfl⟩
   obtain ⟨v4, hv4, H⟩ := bindE H
   obtain ⟨l5, hl5, H⟩ := bindE H
   refine AWP_sr tok [] [2, 4, 6] (fun a σ => a = [(2, .ptr N0 0 0), (4, .sl o1 0 r2.1.length), (6, .ptr (M1 + 4) 0 0)] ∧ σ = hp E0 [(N0, some ⟨28, 3, [[.osl 3 1 (encL rI ([] : List Int)), .int .i64 0, .osl 3 1 (encL rI ([] : List Int))]]⟩), (o1, some ⟨3, 1, encL rI r2.1⟩), (M1 + 2, some ⟨3, 1, encL rI l5⟩), (M1 + 4, some ⟨28, 3, [[.sl (M1 + 2) 0 l3.length, .int .i64 4, .fsl []]]⟩)] (M1 + 13)) (fun K hK => ?_) ?_
   ·
    skip
    have e0 := nq (a := N0) (b := o1) (by omega)
    have e1 := nq (a := N0) (b := M1 + 2) (by omega)
    have e2 := nq (a := N0) (b := M1 + 4) (by omega)
    have e3 := nq (a := o1) (b := M1 + 2) (by omega)
    have e4 := nq (a := o1) (b := M1 + 4) (by omega)
    simp -dsimp -implicitDefEqProofs (maxDischargeDepth := 6) [e0, e1, e2, e3, e4, ixo22 hv4, (show _[2]? = some v4 from (idx_lt3 hv4).2.2), (show List.set _ 2 _ = l5 from (setx_iff.1 hl5).2.symm)]
    exact hK _ _ ⟨rfl, rfl⟩
   rintro a σ ⟨rfl, rfl⟩
   try rw [← setx_len hl5]
   obtain ⟨l6, hl6, H⟩ := bindE H
   refine AWP_sr tok [] [2, 6] (fun a σ => a = [(2, .ptr N0 0 0), (6, .ptr (M1 + 4) 0 0)] ∧ σ = hp E0 [(N0, some ⟨28, 3, [[.osl 3 1 (encL rI ([] : List Int)), .int .i64 0, .osl 3 1 (encL rI ([] : List Int))]]⟩), (M1 + 2, some ⟨3, 1, encL rI l5⟩), (M1 + 4, some ⟨28, 3, [[.sl (M1 + 2) 0 l5.length, .int .i64 4, .sl (M1 + 14) 0 l6.length]]⟩), (M1 + 14, some ⟨3, 1, encL rI l6⟩)] (M1 + 17)) (fun K hK => ?_) ?_
   ·
    skip
    have e0 := nq (a := N0) (b := o1) (by omega)
    have e1 := nq (a := N0) (b := M1 + 2) (by omega)
    have e2 := nq (a := N0) (b := M1 + 4) (by omega)
    have e3 := nq (a := N0) (b := M1 + 14) (by omega)
    have e4 := nq (a := o1) (b := M1 + 2) (by omega)
    have e5 := nq (a := o1) (b := M1 + 4) (by omega)
    have e6 := nq (a := o1) (b := M1 + 14) (by omega)
    simp -dsimp -implicitDefEqProofs (maxDischargeDepth := 6) [e0, e1, e2, e3, e4, e5, e6, appz22_3 hl6]
    exact hK _ _ ⟨rfl, rfl⟩
   rintro a σ ⟨rfl, rfl⟩
   refine AWP_sr tok [] [2, 3] (fun a σ => a = [(2, .ptr N0 0 0), (3, .bool true)] ∧ σ = hp E0 [(N0, some ⟨28, 3, [[.sl (M1 + 2) 0 l5.length, .int .i64 4, .sl (M1 + 14) 0 l6.length]]⟩), (M1 + 2, some ⟨3, 1, encL rI l5⟩), (M1 + 4, some ⟨28, 3, [[.sl (M1 + 2) 0 l5.length, .int .i64 4, .sl (M1 + 14) 0 l6.length]]⟩), (M1 + 14, some ⟨3, 1, encL rI l6⟩)] (M1 + 20)) (fun K hK => ?_) ?_
   ·
    skip
    have e0 := nq (a := N0) (b := M1 + 2) (by omega)
    have e1 := nq (a := N0) (b := M1 + 4) (by omega)
    have e2 := nq (a := N0) (b := M1 + 14) (by omega)
    simp -dsimp -implicitDefEqProofs (maxDischargeDepth := 6) [e0, e1, e2]
    exact hK _ _ ⟨rfl, rfl⟩
   rintro a σ ⟨rfl, rfl⟩
   replace H := Option.some.inj H; subst H
   refine AWP_kp [2, 3] [(2, .ptr N0 0 0), (3, .bool true)] rfl ?_
   refine gDrop AWP_ref [(N0, some ⟨28, 3, [[.sl (M1 + 2) 0 l5.length, .int .i64 4, .sl (M1 + 14) 0 l6.length]]⟩), (M1 + 2, some ⟨3, 1, encL rI l5⟩), (M1 + 14, some ⟨3, 1, encL rI l6⟩)] (hp_skip (hp_skip (AHeap.Sub.trans (hp_skip (AHeap.Sub.refl _)) (hp_drop rfl (by simp; try omega))))) ?_
   refine gPk AWP_ref (k := l5.length) (o := N0) (ob := ⟨28, 3, [[.sl (M1 + 2) 0 l5.length, .int .i64 4, .sl (M1 + 14) 0 l6.length]]⟩) (row := [.sl (M1 + 2) 0 l5.length, .int .i64 4, .sl (M1 + 14) 0 l6.length]) (d := (M1 + 2)) (obd := ⟨3, 1, encL rI l5⟩) (r := 0) (i := 0) [(N0, some ⟨28, 3, [[.osl 3 1 (encL rI l5), .int .i64 4, .sl (M1 + 14) 0 l6.length]]⟩), (M1 + 14, some ⟨3, 1, encL rI l6⟩)] (by simp (disch := omega)) rfl rfl (by simp (disch := omega)) (by simp (disch := omega)) (by first | omega | simp) (by simp (disch := omega) [List.set_set, app_set] <;> omega) (by simp (disch := omega) [List.set_set, app_set]) ?_
   refine gPk AWP_ref (k := l6.length) (o := N0) (ob := ⟨28, 3, [[.osl 3 1 (encL rI l5), .int .i64 4, .sl (M1 + 14) 0 l6.length]]⟩) (row := [.osl 3 1 (encL rI l5), .int .i64 4, .sl (M1 + 14) 0 l6.length]) (d := (M1 + 14)) (obd := ⟨3, 1, encL rI l6⟩) (r := 0) (i := 2) [(N0, some ⟨28, 3, [[.osl 3 1 (encL rI l5), .int .i64 4, .osl 3 1 (encL rI l6)]]⟩)] (by simp (disch := omega)) rfl rfl (by simp (disch := omega)) (by simp (disch := omega)) (by first | omega | simp) (by simp (disch := omega) [List.set_set, app_set] <;> omega) (by simp (disch := omega) [List.set_set, app_set]) ?_
   refine gUnp AWP_ref (ty := 3) (sz := 1) (es := encL rI l5) (o := N0) (ob := ⟨28, 3, [[.osl 3 1 (encL rI l5), .int .i64 4, .osl 3 1 (encL rI l6)]]⟩) (row := [.osl 3 1 (encL rI l5), .int .i64 4, .osl 3 1 (encL rI l6)]) (r := 0) (i := 0) [(N0, some ⟨28, 3, [[.sl (M1 + 20) 0 l5.length, .int .i64 4, .osl 3 1 (encL rI l6)]]⟩), (M1 + 20, some ⟨3, 1, encL rI l5⟩)] (by simp (disch := omega)) rfl rfl (by simp (disch := omega) [List.set_set]) ?_
   refine gUnp AWP_ref (ty := 3) (sz := 1) (es := encL rI l6) (o := N0) (ob := ⟨28, 3, [[.sl (M1 + 20) 0 l5.length, .int .i64 4, .osl 3 1 (encL rI l6)]]⟩) (row := [.sl (M1 + 20) 0 l5.length, .int .i64 4, .osl 3 1 (encL rI l6)]) (r := 0) (i := 2) [(N0, some ⟨28, 3, [[.sl (M1 + 20) 0 l5.length, .int .i64 4, .sl (M1 + 21) 0 l6.length]]⟩), (M1 + 20, some ⟨3, 1, encL rI l5⟩), (M1 + 21, some ⟨3, 1, encL rI l6⟩)] (by simp (disch := omega)) rfl rfl (by simp (disch := omega) [List.set_set]) ?_
   have z5 := nq (a := N0) (b := M1 + 20) (by omega)
   have z6 := nq (a := N0) (b := M1 + 21) (by omega)
   refine AWP_ret ?_
   refine ⟨[.agg [.sl (M1 + 20) 0 l5.length, .int .i64 4, .sl (M1 + 21) 0 l6.length], .bool true], by simp [z5, z6], (fun o => [N0, M1 + 21].contains o), M1 + 22, M1 + 20, by omega, by omega, by omega, ?_, ?_⟩
   ·
    simp [encL_nil, z5, z6]
   ·
    rw [cutD (L' := [(M1 + 20, some ⟨3, 1, encL rI l5⟩)]) (by simp [z5, z6])]
    first | done | rfl | simp [List.set_set]
theorem c96 {p0 : gL6Rd} {p1 : Int} {r : (List Int) × gL6Rd} (H : s_l92Items p0 p1 = some r) {σ : AHeap} {w0 : Nat} {W0 : List (List AV)} {r0_ : Nat} (q0 : σ.objs w0 = some ⟨118, 2, W0⟩) (g0 : W0[r0_]? = some [.fsl (encL rI_u8 p0.b), .int .i64 p0.p]) : ACalls Try.prog G 96 [.ptr w0 r0_ 0, .int .i64 p1] σ (fun v σ' => ∃ M : Nat, σ.next ≤ M ∧ v = .fsl (encL rI r.1) ∧ σ' = hp σ.objs [(w0, some ⟨118, 2, W0.set r0_ [.fsl (encL rI_u8 r.2.b), .int .i64 r.2.p]⟩)] M) := by
 refine ACalls_fr (L := [(w0, some ⟨118, 2, W0⟩)]) (Q1 := fun v σ' => ∃ M : Nat, σ.next ≤ M ∧ v = .fsl (encL rI r.1) ∧ σ' = hp E0 [(w0, some ⟨118, 2, W0.set r0_ [.fsl (encL rI_u8 r.2.b), .int .i64 r.2.p]⟩)] M) (by simp [q0]) (fun hlt => ?_) ?_ ⟨_, Try.func96, rfl, rfl⟩
 rotate_left
 ·
  rintro v σ1 ⟨M, h0, rfl, rfl⟩
  exact ⟨_, M, rfl, by simp, by simp; try omega, M, h0, rfl, rfl⟩
 generalize σ.next = N0 at hlt ⊢
 have lw0 : w0 < N0 := hlt _ (.head _) rfl
 have gs_W0 : ∀ x, (W0.set r0_ x)[r0_]? = some x := gsetW g0
 rw [show W0 = W0.set r0_ [.fsl (encL rI_u8 p0.b), .int .i64 p0.p] from (set_same g0).symm]
 refine ACalls_fn tok Try.func96 (by kernel_rfl) rfl Try.ntmps96 Try.results96 rfl ?_
 simp only [argsA, Nat.reduceAdd, hp_next]
 unfold s_l92Items at H
 refine AWP_sr tok [] [0, 1] (fun a σ => a = [(0, .ptr w0 r0_ 0), (1, .int .i64 p1)] ∧ σ = hp E0 [(w0, some ⟨118, 2, W0.set r0_ [.fsl (encL rI_u8 p0.b), .int .i64 p0.p]⟩)] (N0 + 1)) (fun K hK => ?_) ?_
 ·
  skip
  simp -dsimp -implicitDefEqProofs (maxDischargeDepth := 6) [gs_W0, List.set_set]
  exact hK _ _ ⟨rfl, rfl⟩
 rintro a σ ⟨rfl, rfl⟩
 have q0 : ∀ σ i, buildSliceA T 22 true i 0 [] σ = some (.esl, σ) := fun _ _ => rfl
 refine AWP_sr tok [0] [0, 1, 5] (fun a σ => a = [(0, .ptr w0 r0_ 0), (1, .int .i64 p1), (5, .esl)] ∧ σ = hp E0 [(w0, some ⟨118, 2, W0.set r0_ [.fsl (encL rI_u8 p0.b), .int .i64 p0.p]⟩)] (N0 + 3)) (fun K hK => ?_) ?_
 ·
  skip
  simp -dsimp -implicitDefEqProofs (maxDischargeDepth := 6) [gs_W0, List.set_set, q0]
  exact hK _ _ ⟨rfl, rfl⟩
 rintro a σ ⟨rfl, rfl⟩
 refine AWP_sq [5] fun K1 hK1 => ?_
 refine AWP_sr tok [] [0, 1, 5, 6] (fun a σ => a = [(0, .ptr w0 r0_ 0), (1, .int .i64 p1), (5, .esl), (6, .int .i64 0)] ∧ σ = hp E0 [(w0, some ⟨118, 2, W0.set r0_ [.fsl (encL rI_u8 p0.b), .int .i64 p0.p]⟩)] (N0 + 4)) (fun K hK => ?_) ?_
 ·
  skip
  simp -dsimp -implicitDefEqProofs (maxDischargeDepth := 6) [gs_W0, List.set_set]
  exact hK _ _ ⟨rfl, rfl⟩
 rintro a σ ⟨rfl, rfl⟩
 refine AWP_block (AWP_thenB ?_)
 obtain ⟨e1, hse1, H⟩ := bindE H
 refine AWP_lp [0, 1, 5, 6] (fun s a σ => ∃ M1 o1 : Nat, N0 ≤ M1 ∧ N0 ≤ o1 ∧ o1 < M1 ∧ a = [(0, .ptr w0 r0_ 0), (1, .int .i64 p1), (5, .sl o1 0 s.2.2.length), (6, .int .i64 s.1)] ∧ σ = hp E0 [(w0, some ⟨118, 2, W0.set r0_ [.fsl (encL rI_u8 s.2.1.b), .int .i64 s.2.1.p]⟩), (o1, some ⟨3, 1, encL rI s.2.2⟩)] M1) (fun s x a σ => x = .exit 0 ∧ Rc G 19 N0 (fun a σ => ∃ M2 o2 : Nat, N0 ≤ M2 ∧ N0 ≤ o2 ∧ o2 < M2 ∧ a = [(5, .sl o2 0 s.2.length)] ∧ σ = hp E0 [(w0, some ⟨118, 2, W0.set r0_ [.fsl (encL rI_u8 s.1.b), .int .i64 s.1.p]⟩), (o2, some ⟨3, 1, encL rI s.2⟩)] M2) (AAct.keep a [5]) σ) hse1 ?_ ?_ ?_
 ·
  refine Rc.kp [0, 1, 5, 6] [(0, .ptr w0 r0_ 0), (1, .int .i64 p1), (5, .esl), (6, .int .i64 0)] rfl ?_
  refine gNilS Rc_ref 5 3 1 [(w0, some ⟨118, 2, W0.set r0_ [.fsl (encL rI_u8 p0.b), .int .i64 p0.p]⟩), (N0 + 4, some ⟨3, 1, encL rI ([] : List Int)⟩)] [(0, .ptr w0 r0_ 0), (1, .int .i64 p1), (5, .sl (N0 + 4) 0 ([] : List Int).length), (6, .int .i64 0)] (by simp (disch := omega)) (by simp (disch := omega) [encL_nil]) [0, 1, 5, 6] rfl ?_
  exact Rc.fin (AHeap.Sub.refl _) ⟨N0 + 5, (N0 + 4), (by omega), (by omega), (by omega), rfl, rfl⟩
 ·
  clear H hse1
  rintro ⟨s1, s2, s3⟩ fl a σ H ⟨M1, o1, fM1_0, fM1_1, fM1_2, rfl, rfl⟩ K2 O2 hK2 hO2
  unfold s_l92Items_L1 at H; dsimp only at H
  refine AWP_sq [0, 1, 5, 6] fun K3 hK3 => ?_
  refine AWP_sr tok [] [0, 1, 5, 6, 10] (fun a σ => a = [(0, .ptr w0 r0_ 0), (1, .int .i64 p1), (5, .sl o1 0 s3.length), (6, .int .i64 s1), (10, .bool (ilt s1 p1))] ∧ σ = hp E0 [(w0, some ⟨118, 2, W0.set r0_ [.fsl (encL rI_u8 s2.b), .int .i64 s2.p]⟩), (o1, some ⟨3, 1, encL rI s3⟩)] (M1 + 3)) (fun K hK => ?_) ?_
  ·
   skip
   have e0 := nq (a := w0) (b := o1) (by omega)
   simp -dsimp -implicitDefEqProofs (maxDischargeDepth := 6) [e0, gs_W0, List.set_set]
   exact hK _ _ ⟨rfl, rfl⟩
  rintro a σ ⟨rfl, rfl⟩
  refine AWP_cond (ilt s1 p1) rfl (fun C1 => ?_) (fun C1 => ?_)
  ·
   replace H := ifT C1 H
   refine AWP_skip ?_
   show K3 _ _
   refine keepE (l := [0, 1, 5, 6]) (x := [(0, .ptr w0 r0_ 0), (1, .int .i64 p1), (5, .sl o1 0 s3.length), (6, .int .i64 s1)]) rfl fun a' ha => ?_
   refine hK3 _ _ ?_; rw [ha]
   refine Rc.mk ?_
   refine AWP_sq [0, 1, 5, 6] fun K4 hK4 => ?_
   refine AWP_block (AWP_thenB ?_)
   obtain ⟨r6, hr6, H⟩ := bindE H
   obtain ⟨l7, hl7, H⟩ := bindE H
   have q1 : ∀ σ i, buildSliceA T 22 true i 1 [(0, .int .i64 r6.1)] σ = some (.fsl (encL rI ([r6.1] : List Int)), σ) := fun _ _ => rfl
   refine AWP_rt tok [3] [0, 1, 5, 6] (fun a σ => ∃ M3 : Nat, M1 + 9 ≤ M3 ∧ a = [(0, .ptr w0 r0_ 0), (1, .int .i64 p1), (5, .sl (M1 + 7) 0 l7.length), (6, .int .i64 s1)] ∧ σ = hp E0 [(w0, some ⟨118, 2, W0.set r0_ [.fsl (encL rI_u8 r6.2.b), .int .i64 r6.2.p]⟩), (M1 + 7, some ⟨3, 1, encL rI l7⟩)] M3) (fun K hK => ?_) ?_
   ·
    skip
    have e0 := nq (a := w0) (b := o1) (by omega)
    have e1 := nq (a := w0) (b := M1 + 7) (by omega)
    have e2 := nq (a := o1) (b := M1 + 7) (by omega)
    simp -dsimp -implicitDefEqProofs (maxDischargeDepth := 6) [e0, e1, e2, gs_W0, List.set_set, q1, app22 hl7]
    refine (c75 (W0 := W0.set r0_ [.fsl (encL rI_u8 s2.b), .int .i64 s2.p]) (r0_ := r0_) (H := hr6) (by simp [e0, e1, e2, gs_W0, List.set_set, q1, app22 hl7]) (by simp [e0, e1, e2, gs_W0, List.set_set, q1, app22 hl7])).mono ?_; rintro _ _ ⟨M3, fM3_0, rfl, rfl⟩; simp only [hp_next] at fM3_0
    try simp -dsimp -implicitDefEqProofs (maxDischargeDepth := 6) [e0, e1, e2, gs_W0, List.set_set, q1, app22 hl7, hp_over_some, hp_over_none]
    exact hK _ _ ⟨M3, (by omega), rfl, rfl⟩
   rintro a σ ⟨M3, fM3_0, ha, rfl⟩
   refine hK4 _ _ ?_; rw [ha]
   refine Rc.mk ?_
   refine AWP_rt tok [] [0, 1, 5, 6] (fun a σ => a = [(0, .ptr w0 r0_ 0), (1, .int .i64 p1), (5, .sl (M1 + 7) 0 l7.length), (6, .int .i64 (iadd .i64 s1 1))] ∧ σ = hp E0 [(w0, some ⟨118, 2, W0.set r0_ [.fsl (encL rI_u8 r6.2.b), .int .i64 r6.2.p]⟩), (M1 + 7, some ⟨3, 1, encL rI l7⟩)] (M3 + 3)) (fun K hK => ?_) ?_
   ·
    skip
    have e0 := nq (a := w0) (b := M1 + 7) (by omega)
    simp -dsimp -implicitDefEqProofs (maxDischargeDepth := 6) [e0, gs_W0, List.set_set]
    exact hK _ _ ⟨rfl, rfl⟩
   rintro a σ ⟨ha, rfl⟩
   replace H := Option.some.inj H; subst H
   refine hK2 _ _ _ rfl ?_; rw [ha]
   exact Rc.fin (AHeap.Sub.refl _) ⟨M3 + 3, (M1 + 7), (by omega), (by omega), (by omega), rfl, rfl⟩
  ·
   replace H := ifF C1 H
   replace H := Option.some.inj H; subst H
   refine AWP_exit (hO2 _ _ _ _ rfl ⟨rfl, ?_⟩)
   refine Rc.rw (l := [5]) (X := [(5, .sl o1 0 s3.length)]) rfl ?_
   exact Rc.fin (AHeap.Sub.refl _) ⟨M1 + 3, o1, (by omega), (by omega), (by omega), rfl, rfl⟩
 ·
  intro x a σ hx
  obtain ⟨y4, y5⟩ := e1
  obtain ⟨rfl, b, τ, hr, M2, o2, fM2_0, fM2_1, fM2_2, rfl, rfl⟩ := hx
  dsimp only at H
  show K1 _ _
  refine hK1 _ _ (Rc_ref hr ?_)
  refine Rc.mk ?_
  refine AWP_sr tok [] [4] (fun a σ => a = [(4, .sl o2 0 y5.length)] ∧ σ = hp E0 [(w0, some ⟨118, 2, W0.set r0_ [.fsl (encL rI_u8 y4.b), .int .i64 y4.p]⟩), (o2, some ⟨3, 1, encL rI y5⟩)] (M2 + 2)) (fun K hK => ?_) ?_
  ·
   skip
   have e0 := nq (a := w0) (b := o2) (by omega)
   simp -dsimp -implicitDefEqProofs (maxDischargeDepth := 6) [e0, gs_W0, List.set_set]
   exact hK _ _ ⟨rfl, rfl⟩
  rintro a σ ⟨rfl, rfl⟩
  replace H := Option.some.inj H; subst H
  refine AWP_kp [4] [(4, .sl o2 0 y5.length)] rfl ?_
  have z0 := nq (a := w0) (b := o2) (by omega)
  refine gFrz AWP_ref 4 [o2] [(w0, some ⟨118, 2, W0.set r0_ [.fsl (encL rI_u8 y4.b), .int .i64 y4.p]⟩)] [(4, .fsl (encL rI y5))] (by simp [z0]) (cutD (by simp [z0])) ?_
  refine AWP_ret ?_
  refine ⟨[.fsl (encL rI y5)], by simp [gs_W0], M2 + 2, by omega, ?_, ?_⟩
  ·
   simp [encL_nil]
  ·
   first | rfl | simp [List.set_set]
end Go.Proofs.Ytoklfbdcghgmlaa
