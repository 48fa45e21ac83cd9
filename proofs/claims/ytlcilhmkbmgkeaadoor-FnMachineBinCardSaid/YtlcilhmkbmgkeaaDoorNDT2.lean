/- The contracts of functions of the program, part 2: each computes what its mirror computes. No conditions. -/
import Derived.Test.YtlcilhmkbmgkeaaDoorNDT1
set_option linter.unusedSimpArgs false
set_option linter.unusedVariables false
set_option maxRecDepth 20000
set_option maxHeartbeats 4000000
namespace Go.Proofs.YtlcilhmkbmgkeaaDoor
open Go Go.Abs Go.RowKit

theorem c80 {p0 : (List gInstr)} {p1 : Int} {p2 : Int} {r : (List gInstr)} (H : s_l43Write p0 p1 p2 = some r) {σ : AHeap} {w0 : Nat} (q0 : σ.objs w0 = some ⟨78, 5, encL rInstr p0⟩) : ACalls Tryd.prog G 80 [.sl w0 0 p0.length, .int .i64 p1, .int .i64 p2] σ (fun v σ' => ∃ M : Nat, σ.next ≤ M ∧ v = .fsl (encL rInstr r) ∧ σ' = hp σ.objs [(w0, none)] M) := by
 refine ACalls_fr (L := [(w0, some ⟨78, 5, encL rInstr p0⟩)]) (Q1 := fun v σ' => ∃ M : Nat, σ.next ≤ M ∧ v = .fsl (encL rInstr r) ∧ σ' = hp E0 [(w0, none)] M) (by simp [q0]) (fun hlt => ?_) ?_ ⟨_, Tryd.func80, rfl, rfl⟩
 rotate_left
 ·
  rintro v σ1 ⟨M, h0, rfl, rfl⟩
  exact ⟨_, M, rfl, by simp, by simp; try omega, M, h0, rfl, rfl⟩
 generalize σ.next = N0 at hlt ⊢
 have lw0 : w0 < N0 := hlt _ (.head _) rfl
 refine ACalls_fn tok Tryd.func80 (by kernel_rfl) rfl Tryd.ntmps80 Tryd.results80 rfl ?_
 simp only [argsA, Nat.reduceAdd, hp_next]
 unfold s_l43Write at H
 refine S0 tok [] [0, 1, 2] ?_
 refine AWP_sq [0, 1, 2] fun K1 hK1 => ?_
 refine S0 tok [] [0, 1, 2, 9] ?_
 refine AWP_cond (ilt p1 p2) rfl (fun C1 => ?_) (fun C1 => ?_)
 ·
  replace H := ifT C1 H
  refine S0 tok [] [6] ?_
  replace H := oi H; subst H
  refine Kp [6] ?_
  refine gFrz AWP_ref 4 [w0] [] [(6, .fsl (encL rInstr p0))] (by simp) (cutD (by simp)) ?_
  refine AWP_ret ?_
  refine ⟨[.fsl (encL rInstr p0)], by simp, N0 + 6, by omega, ?_, ?_⟩
  ·
   simp [encL_nil]
  ·
   symm; first | exact hp_tail (L := []) | (simp only [List.set_set]; exact hp_tail (L := []))
 ·
  replace H := ifF C1 H
  refine AWP_skip (Jn hK1 ?_)
  obtain ⟨l1, hl1, H⟩ := bindE H
  have q0 : ∀ σ i, buildSliceA T 46 true i 1 [(0, .agg [.int .i64 16, .int .i64 0, .int .i64 2, .int .i64 7, .int .i64 (imul .i64 4 (isub .i64 p1 p2))])] σ = some (.fsl (encL rInstr ([(⟨16, 0, 2, 7, imul .i64 4 (isub .i64 p1 p2)⟩ : gInstr)] : List gInstr)), σ) := fun _ _ => rfl
  refine Sx tok [6] [6] (by
   intro K k
   have e0 := nQ w0 (N0 + 11)
   simp -dsimp -implicitDefEqProofs (maxDischargeDepth := 6) [e0, q0, app46 hl1]
   exact k) ?_
  refine gFrz AWP_ref 4 [N0 + 11] [] [(6, .fsl (encL rInstr l1))] (by simp) (cutD (by simp)) ?_
  replace H := oi H; subst H
  refine Kp [6] ?_
  refine AWP_ret ?_
  refine ⟨[.fsl (encL rInstr l1)], by simp, N0 + 13, by omega, ?_, ?_⟩
  ·
   simp [encL_nil]
  ·
   symm; first | exact hp_tail (L := []) | (simp only [List.set_set]; exact hp_tail (L := []))
theorem c81_o {p0 : Int} {p1 : Int} {r : (List gInstr)} (H : s_l43Const_o p0 p1 = some r) {σ : AHeap} : ACalls Tryd.prog G 81 [.int .i64 p0, .int .i64 p1] σ (fun v σ' => ∃ M n0 : Nat, σ.next ≤ M ∧ σ.next ≤ n0 ∧ n0 < M ∧ v = .sl n0 0 r.length ∧ σ' = hp σ.objs [(n0, some ⟨78, 5, encL rInstr r⟩)] M) := by
 refine ACalls_fr (L := []) (Q1 := fun v σ' => ∃ M n0 : Nat, σ.next ≤ M ∧ σ.next ≤ n0 ∧ n0 < M ∧ v = .sl n0 0 r.length ∧ σ' = hp E0 [(n0, some ⟨78, 5, encL rInstr r⟩)] M) (by simp []) (fun hlt => ?_) ?_ ⟨_, Tryd.func81, rfl, rfl⟩
 rotate_left
 ·
  rintro v σ1 ⟨M, n0, h0, h1, h2, rfl, rfl⟩
  exact ⟨_, M, rfl, by simp, by simp; try omega, M, n0, h0, h1, h2, rfl, rfl⟩
 generalize σ.next = N0 at hlt ⊢
 refine ACalls_fn tok Tryd.func81 (by kernel_rfl) rfl Tryd.ntmps81 Tryd.results81 rfl ?_
 simp only [argsA, Nat.reduceAdd, hp_next]
 unfold s_l43Const_o at H
 refine S0 tok [] [0, 1] ?_
 refine AWP_sq [0, 1] fun K1 hK1 => ?_
 obtain ⟨r1, hr1, H⟩ := bindE H
 refine Sx tok [] [0, 1, 9] (by intro K k; (repeat first | simp -dsimp -implicitDefEqProofs (maxDischargeDepth := 6) | refine (c27 hr1).app ?_); exact k) ?_
 refine AWP_cond r1 rfl (fun C1 => ?_) (fun C1 => ?_)
 ·
  replace H := ifT C1 H
  obtain ⟨l2, hl2, H⟩ := bindE H
  have q0 : ∀ σ i, buildSliceA T 46 false i 1 [(0, .agg [.int .i64 12, .int .i64 p0, .int .i64 0, .int .i64 0, .int .i64 p1])] σ = some (.sl i 0 (List.length l2), σ.put i ⟨78, 5, encL rInstr l2⟩) := by rw [← Option.some.inj hl2]; intro _ _; rfl
  refine Sx tok [] [4] (by intro K k; simp -dsimp -implicitDefEqProofs (maxDischargeDepth := 6) [q0]; exact k) ?_
  replace H := oi H; subst H
  refine Kp [4] ?_
  refine AWP_ret ?_
  refine ⟨[.sl (N0 + 6) 0 l2.length], by simp, N0 + 8, N0 + 6, by omega, by omega, by omega, ?_, ?_⟩
  ·
   simp [encL_nil]
  ·
   first | rfl | simp [List.set_set]
 ·
  replace H := ifF C1 H
  refine AWP_skip (Jn hK1 ?_)
  obtain ⟨r3, hr3, H⟩ := bindE H
  obtain ⟨r4, hr4, H⟩ := bindE H
  obtain ⟨r5, hr5, H⟩ := bindE H
  refine Sx tok [] [0, 1, 5] (by intro K k; (repeat first | simp -dsimp -implicitDefEqProofs (maxDischargeDepth := 6) | refine (c109 hr3).app ?_ | refine (c108 hr4).app ?_ | refine (c107 hr5).app ?_); exact k) ?_
  obtain ⟨r6, hr6, H⟩ := bindE H
  obtain ⟨r7, hr7, H⟩ := bindE H
  obtain ⟨r8, hr8, H⟩ := bindE H
  refine Sx tok [] [0, 5, 6] (by intro K k; (repeat first | simp -dsimp -implicitDefEqProofs (maxDischargeDepth := 6) | refine (c101 hr6).app ?_ | refine (c109 hr7).app ?_ | refine (c108 hr8).app ?_); exact k) ?_
  obtain ⟨l9, hl9, H⟩ := bindE H
  have q1 : ∀ σ i, buildSliceA T 46 false i 1 [(0, .agg [.int .i64 19, .int .i64 p0, .int .i64 0, .int .i64 0, .int .i64 r8])] σ = some (.sl i 0 (List.length l9), σ.put i ⟨78, 5, encL rInstr l9⟩) := by rw [← Option.some.inj hl9]; intro _ _; rfl
  refine Sx tok [] [0, 5, 7] (by intro K k; simp -dsimp -implicitDefEqProofs (maxDischargeDepth := 6) [q1]; exact k) ?_
  obtain ⟨l10, hl10, H⟩ := bindE H
  have q2 : ∀ σ i, buildSliceA T 46 true i 1 [(0, .agg [.int .i64 12, .int .i64 p0, .int .i64 p0, .int .i64 0, .int .i64 r5])] σ = some (.fsl (encL rInstr ([(⟨12, p0, p0, 0, r5⟩ : gInstr)] : List gInstr)), σ) := fun _ _ => rfl
  refine Sx tok [5] [4] (by intro K k; simp -dsimp -implicitDefEqProofs (maxDischargeDepth := 6) [q2, app46 hl10]; exact k) ?_
  replace H := oi H; subst H
  refine Kp [4] ?_
  refine AWP_ret ?_
  refine ⟨[.sl (N0 + 26) 0 l10.length], by simp, N0 + 28, N0 + 26, by omega, by omega, by omega, ?_, ?_⟩
  ·
   simp [encL_nil]
  ·
   first | rfl | simp [List.set_set]
theorem c82 {p0 : Int} {p1 : Int} {p2 : Int} {r : (List gInstr)} (H : s_l43Read p0 p1 p2 = some r) : APure Tryd.prog G 82 [.int .i64 p0, .int .i64 p1, .int .i64 p2] (.fsl (encL rInstr r)) := by
 refine APure_fn (fun N0 => ?_) (by simp)
 refine ACalls_fn tok Tryd.func82 (by kernel_rfl) rfl Tryd.ntmps82 Tryd.results82 rfl ?_
 simp only [argsA, Nat.reduceAdd, hp_next]
 unfold s_l43Read at H
 refine S0 tok [] [0, 1, 2] ?_
 refine AWP_sq [0, 1, 2] fun K1 hK1 => ?_
 refine S0 tok [] [0, 1, 2, 9] ?_
 refine AWP_cond (ilt p0 p1) rfl (fun C1 => ?_) (fun C1 => ?_)
 ·
  replace H := ifT C1 H
  have q0 : ∀ σ i, buildSliceA T 46 true i 0 [] σ = some (.esl, σ) := fun _ _ => rfl
  refine Sx tok [0] [6] (by intro K k; simp -dsimp -implicitDefEqProofs (maxDischargeDepth := 6) [q0]; exact k) ?_
  replace H := oi H; subst H; exact AWP_ret ⟨_, rfl, 4, by simp [encL_nil]⟩
 ·
  replace H := ifF C1 H
  refine AWP_skip (Jn hK1 ?_)
  have q1 : ∀ σ i, buildSliceA T 46 true i 1 [(0, .agg [.int .i64 14, .int .i64 p2, .int .i64 2, .int .i64 0, .int .i64 (imul .i64 4 (isub .i64 p0 p1))])] σ = some (.fsl (encL rInstr ([(⟨14, p2, 2, 0, imul .i64 4 (isub .i64 p0 p1)⟩ : gInstr)] : List gInstr)), σ) := fun _ _ => rfl
  refine Sx tok [6] [6] (by intro K k; simp -dsimp -implicitDefEqProofs (maxDischargeDepth := 6) [q1]; exact k) ?_
  replace H := oi H; subst H; exact AWP_ret ⟨_, rfl, 4, by simp [encL_nil]⟩
theorem c83 {p0 : Int} {p1 : Int} {r : gInstr} (H : s_l43Move p0 p1 = some r) : APure Tryd.prog G 83 [.int .i64 p0, .int .i64 p1] (.agg [.int .i64 r.Op, .int .i64 r.Rd, .int .i64 r.Rs, .int .i64 r.Rt, .int .i64 r.Imm]) := by
 refine APure_fn (fun N0 => ?_) (by simp)
 refine ACalls_fn tok Tryd.func83 (by kernel_rfl) rfl Tryd.ntmps83 Tryd.results83 rfl ?_
 simp only [argsA, Nat.reduceAdd, hp_next]
 unfold s_l43Move at H
 refine S0 tok [] [0, 1, 4] ?_
 refine S0 tok [] [4] ?_
 replace H := oi H; subst H
 refine Kp [4] ?_
 refine AWP_ret ?_
 exact ⟨[.agg [.int .i64 12, .int .i64 p0, .int .i64 p1, .int .i64 0, .int .i64 0]], by simp, 4, by simp [encL_nil]⟩
theorem c82_o {p0 : Int} {p1 : Int} {p2 : Int} {r : (List gInstr)} (H : s_l43Read_o p0 p1 p2 = some r) {σ : AHeap} : ACalls Tryd.prog G 82 [.int .i64 p0, .int .i64 p1, .int .i64 p2] σ (fun v σ' => ∃ M n0 : Nat, σ.next ≤ M ∧ σ.next ≤ n0 ∧ n0 < M ∧ v = .sl n0 0 r.length ∧ σ' = hp σ.objs [(n0, some ⟨78, 5, encL rInstr r⟩)] M) := by
 refine ACalls_fr (L := []) (Q1 := fun v σ' => ∃ M n0 : Nat, σ.next ≤ M ∧ σ.next ≤ n0 ∧ n0 < M ∧ v = .sl n0 0 r.length ∧ σ' = hp E0 [(n0, some ⟨78, 5, encL rInstr r⟩)] M) (by simp []) (fun hlt => ?_) ?_ ⟨_, Tryd.func82, rfl, rfl⟩
 rotate_left
 ·
  rintro v σ1 ⟨M, n0, h0, h1, h2, rfl, rfl⟩
  exact ⟨_, M, rfl, by simp, by simp; try omega, M, n0, h0, h1, h2, rfl, rfl⟩
 generalize σ.next = N0 at hlt ⊢
 refine ACalls_fn tok Tryd.func82 (by kernel_rfl) rfl Tryd.ntmps82 Tryd.results82 rfl ?_
 simp only [argsA, Nat.reduceAdd, hp_next]
 unfold s_l43Read_o at H
 refine S0 tok [] [0, 1, 2] ?_
 refine AWP_sq [0, 1, 2] fun K1 hK1 => ?_
 refine S0 tok [] [0, 1, 2, 9] ?_
 refine AWP_cond (ilt p0 p1) rfl (fun C1 => ?_) (fun C1 => ?_)
 ·
  replace H := ifT C1 H
  have q0 : ∀ σ i, buildSliceA T 46 true i 0 [] σ = some (.esl, σ) := fun _ _ => rfl
  refine Sx tok [0] [6] (by intro K k; simp -dsimp -implicitDefEqProofs (maxDischargeDepth := 6) [q0]; exact k) ?_
  replace H := oi H; subst H
  refine Kp [6] ?_
  refine gNilS AWP_ref 6 78 5 [(N0 + 6, some ⟨78, 5, encL rInstr ([] : List gInstr)⟩)] [(6, .sl (N0 + 6) 0 ([] : List gInstr).length)] (by simp (disch := omega)) (by simp (disch := omega) [encL_nil]) [6] rfl ?_
  refine AWP_ret ?_
  refine ⟨[.sl (N0 + 6) 0 ([] : List gInstr).length], by simp, N0 + 7, N0 + 6, by omega, by omega, by omega, ?_, ?_⟩
  ·
   simp [encL_nil]
  ·
   first | rfl | simp [List.set_set]
 ·
  replace H := ifF C1 H
  refine AWP_skip (Jn hK1 ?_)
  obtain ⟨l1, hl1, H⟩ := bindE H
  have q1 : ∀ σ i, buildSliceA T 46 false i 1 [(0, .agg [.int .i64 14, .int .i64 p2, .int .i64 2, .int .i64 0, .int .i64 (imul .i64 4 (isub .i64 p0 p1))])] σ = some (.sl i 0 (List.length l1), σ.put i ⟨78, 5, encL rInstr l1⟩) := by rw [← Option.some.inj hl1]; intro _ _; rfl
  refine Sx tok [] [6] (by intro K k; simp -dsimp -implicitDefEqProofs (maxDischargeDepth := 6) [q1]; exact k) ?_
  replace H := oi H; subst H
  refine Kp [6] ?_
  refine AWP_ret ?_
  refine ⟨[.sl (N0 + 10) 0 l1.length], by simp, N0 + 12, N0 + 10, by omega, by omega, by omega, ?_, ?_⟩
  ·
   simp [encL_nil]
  ·
   first | rfl | simp [List.set_set]
theorem c110 {p0 : Int} {r : Int} (H : s_l43Op p0 = some r) : APure Tryd.prog G 110 [.int .i64 p0] (.int .i64 r) := by
 refine APure_fn (fun N0 => ?_) (by simp)
 refine ACalls_fn tok Tryd.func110 (by kernel_rfl) rfl Tryd.ntmps110 Tryd.results110 rfl ?_
 simp only [argsA, Nat.reduceAdd, hp_next]
 unfold s_l43Op at H
 refine S0 tok [] [0] ?_
 have q0 : ∀ σ i, buildSliceA T 22 true i 12 [(0, .int .i64 7), (1, .int .i64 8), (2, .int .i64 6), (3, .int .i64 8), (4, .int .i64 11), (5, .int .i64 9), (6, .int .i64 10), (7, .int .i64 1), (8, .int .i64 2), (9, .int .i64 3), (10, .int .i64 4), (11, .int .i64 5)] σ = some (.fsl (encL rI ([7, 8, 6, 8, 11, 9, 10, 1, 2, 3, 4, 5] : List Int)), σ) := fun _ _ => rfl
 refine Sx tok [0] [0, 3] (by intro K k; simp -dsimp -implicitDefEqProofs (maxDischargeDepth := 6) [q0]; exact k) ?_
 obtain ⟨v1, hv1, H⟩ := bindE H
 refine Sx tok [] [2] (by intro K k; simp -dsimp -implicitDefEqProofs (maxDischargeDepth := 6) [ix22 hv1]; exact k) ?_
 replace H := oi H; subst H; exact AWP_ret ⟨_, rfl, 4, by simp [encL_nil]⟩
theorem c84 {p0 : gQuad} {p1 : Int} {r : (List gInstr)} (H : s_l43Bin p0 p1 = some r) : APure Tryd.prog G 84 [.agg [.int .i64 p0.Op, .int .i64 p0.Dst, .int .i64 p0.A, .int .i64 p0.B, .int .i64 p0.N], .int .i64 p1] (.fsl (encL rInstr r)) := by
 refine APure_fn (fun N0 => ?_) (by simp)
 refine ACalls_fn tok Tryd.func84 (by kernel_rfl) rfl Tryd.ntmps84 Tryd.results84 rfl ?_
 simp only [argsA, Nat.reduceAdd, hp_next]
 unfold s_l43Bin at H
 refine S0 tok [0] [1, 2] ?_
 obtain ⟨r1, hr1, H⟩ := bindE H
 obtain ⟨r2, hr2, H⟩ := bindE H
 obtain ⟨l3, hl3, H⟩ := bindE H
 refine AWP_sd tok tokM [] [3, 8] [0, 1, 2, 4, 5, 6, 3, 7, 8, 9] [1, 2, 5] (fun a σ => ∃ M1 o1 : Nat, N0 + 12 ≤ M1 ∧ N0 + 12 ≤ o1 ∧ o1 < M1 ∧ a = [(1, .int .i64 p1), (2, .fptr [.int .i64 p0.Op, .int .i64 p0.Dst, .int .i64 p0.A, .int .i64 p0.B, .int .i64 p0.N] 0), (5, .sl (N0 + 10) 0 l3.length)] ∧ σ = hp E0 [(N0 + 10, some ⟨78, 5, encL rInstr l3⟩)] M1) (by decide) (fun K hK => ?_) ?_
 ·
  simp only [pickL, nthO_succ, nthO_zero]
  simp -dsimp -implicitDefEqProofs (maxDischargeDepth := 6) [app46 hl3]
  refine (c82_o (H := hr1) ).mono ?_; rintro _ _ ⟨M1, o1, fM1_0, fM1_1, fM1_2, rfl, rfl⟩; simp only [hp_next] at fM1_0 fM1_1 fM1_2
  have eM1_0 := nQ o1 (N0 + 10)
  try simp -dsimp -implicitDefEqProofs (maxDischargeDepth := 6) [app46 hl3, eM1_0, hp_over_some, hp_over_none]
  refine Pc.mk (c82 hr2) ?_; try simp -dsimp -implicitDefEqProofs (maxDischargeDepth := 6) [app46 hl3, eM1_0, hp_over_some, hp_over_none]
  exact hK _ _ ⟨M1, o1, (by omega), (by omega), (by omega), rfl, rfl⟩
 rintro a σ ⟨M1, o1, fM1_0, fM1_1, fM1_2, rfl, rfl⟩
 obtain ⟨r4, hr4, H⟩ := bindE H
 refine Sx tok [] [1, 2, 5, 6] (by intro K k; (repeat first | simp -dsimp -implicitDefEqProofs (maxDischargeDepth := 6) | refine (c79 hr4).app ?_); exact k) ?_
 obtain ⟨r5, hr5, H⟩ := bindE H
 obtain ⟨r6, hr6, H⟩ := bindE H
 obtain ⟨r7, hr7, H⟩ := bindE H
 obtain ⟨l8, hl8, H⟩ := bindE H
 have q0 : ∀ σ i, buildSliceA T 46 true i 1 [(0, .agg [.int .i64 r5, .int .i64 r4, .int .i64 r6, .int .i64 r7, .int .i64 0])] σ = some (.fsl (encL rInstr ([(⟨r5, r4, r6, r7, 0⟩ : gInstr)] : List gInstr)), σ) := fun _ _ => rfl
 refine Sd tok tokM [14] [15] [0, 1, 2, 3, 4, 5, 6, 7, 8, 9, 10, 11, 12, 13, 14, 15, 16] [1, 2, 5, 6] (by
  intro K k
  have e0 := nQ (N0 + 10) (M1 + 20)
  have e1 := nQ N0 (M1 + 10)
  simp only [pickL, nthO_succ, nthO_zero]
  repeat first | simp -dsimp -implicitDefEqProofs (maxDischargeDepth := 6) [e0, e1, q0, app46 hl8] | refine Pc.mk (c110 hr5) ?_ | refine Pc.mk (c79 hr6) ?_ | refine Pc.mk (c79 hr7) ?_
  exact k) ?_
 obtain ⟨j1, hj1, H⟩ := bindE H
 refine AWP_seq (AWP_named fun K1 hK1 => ?_)
 have hJ1 : ∀ a σ, Rc G 50 N0 (fun a σ => ∃ M2 o2 : Nat, N0 ≤ M2 ∧ N0 ≤ o2 ∧ o2 < M2 ∧ a = [(1, .int .i64 p1), (2, .fptr [.int .i64 p0.Op, .int .i64 p0.Dst, .int .i64 p0.A, .int .i64 p0.B, .int .i64 p0.N] 0), (5, .sl o2 0 j1.length)] ∧ σ = hp E0 [(o2, some ⟨78, 5, encL rInstr j1⟩)] M2) (a.keep [1, 2, 5]) σ → K1 a σ := by
  rintro a σ ⟨b, τ, hr, M2, o2, fM2_0, fM2_1, fM2_2, rfl, rfl⟩
  refine hK1 _ _ (AWP_keep [1, 2, 5] (AWP_ref hr ?_))
  obtain ⟨r10, hr10, H⟩ := bindE H
  refine AWP_sr tok [] [4] (fun a σ => ∃ M3 : Nat, M2 + 6 ≤ M3 ∧ a = [(4, .fsl (encL rInstr r10))] ∧ σ = hp E0 [] M3) (fun K hK => ?_) ?_
  ·
   simp -dsimp -implicitDefEqProofs (maxDischargeDepth := 6)
   refine (c80 (H := hr10) (by simp [])).mono ?_; rintro _ _ ⟨M3, fM3_0, rfl, rfl⟩; simp only [hp_next] at fM3_0
   try simp -dsimp -implicitDefEqProofs (maxDischargeDepth := 6) [hp_over_some, hp_over_none]
   exact hK _ _ ⟨M3, (by omega), rfl, rfl⟩
  rintro a σ ⟨M3, fM3_0, rfl, rfl⟩
  replace H := oi H; subst H; exact AWP_ret ⟨_, rfl, 4, by simp [encL_nil]⟩
 replace H := hj1
 refine S0 tok [] [1, 2, 5, 6, 38] ?_
 refine AWP_cond (ieq p0.N 4) rfl (fun C1 => ?_) (fun C1 => ?_)
 ·
  replace H := ifT C1 H
  obtain ⟨l11, hl11, H⟩ := bindE H
  have q1 : ∀ σ i, buildSliceA T 46 true i 1 [(0, .agg [.int .i64 13, .int .i64 r4, .int .i64 r4, .int .i64 0, .int .i64 1])] σ = some (.fsl (encL rInstr ([(⟨13, r4, r4, 0, 1⟩ : gInstr)] : List gInstr)), σ) := fun _ _ => rfl
  refine AWP_rt tok [4] [1, 2, 5] (fun a σ => a = [(1, .int .i64 p1), (2, .fptr [.int .i64 p0.Op, .int .i64 p0.Dst, .int .i64 p0.A, .int .i64 p0.B, .int .i64 p0.N] 0), (5, .sl (M1 + 30) 0 l11.length)] ∧ σ = hp E0 [(M1 + 30, some ⟨78, 5, encL rInstr l11⟩)] (M1 + 32)) (fun K hK => ?_) ?_
  ·
   simp -dsimp -implicitDefEqProofs (maxDischargeDepth := 6) [q1, app46 hl11]
   exact hK _ _ ⟨rfl, rfl⟩
  rintro a σ ⟨ha, rfl⟩
  replace H := oi H; subst H
  refine hJ1 _ _ ?_; rw [ha]
  exact Rc.fin (AHeap.Sub.refl _) ⟨M1 + 32, (M1 + 30), (by omega), (by omega), (by omega), rfl, rfl⟩
 ·
  replace H := ifF C1 H
  refine AWP_skip ?_
  show K1 _ _
  refine kE [1, 2, 5] fun a' ha => ?_
  replace H := oi H; subst H
  refine hJ1 _ _ ?_; rw [ha]
  exact Rc.fin (AHeap.Sub.refl _) ⟨M1 + 25, (M1 + 20), (by omega), (by omega), (by omega), rfl, rfl⟩
theorem c85 {p0 : gQuad} {p1 : Int} {p2 : Int} {r : (List gInstr)} (H : s_l43Zero p0 p1 p2 = some r) : APure Tryd.prog G 85 [.agg [.int .i64 p0.Op, .int .i64 p0.Dst, .int .i64 p0.A, .int .i64 p0.B, .int .i64 p0.N], .int .i64 p1, .int .i64 p2] (.fsl (encL rInstr r)) := by
 refine APure_fn (fun N0 => ?_) (by simp)
 refine ACalls_fn tok Tryd.func85 (by kernel_rfl) rfl Tryd.ntmps85 Tryd.results85 rfl ?_
 simp only [argsA, Nat.reduceAdd, hp_next]
 unfold s_l43Zero at H
 refine S0 tok [0] [1, 2, 3] ?_
 obtain ⟨r1, hr1, H⟩ := bindE H
 obtain ⟨r2, hr2, H⟩ := bindE H
 obtain ⟨l3, hl3, H⟩ := bindE H
 have q0 : ∀ σ i, buildSliceA T 46 true i 1 [(0, .agg [.int .i64 18, .int .i64 0, .int .i64 r2, .int .i64 0, .int .i64 8])] σ = some (.fsl (encL rInstr ([(⟨18, 0, r2, 0, 8⟩ : gInstr)] : List gInstr)), σ) := fun _ _ => rfl
 refine AWP_sd tok tokM [9] [3, 10] [0, 1, 2, 4, 5, 6, 3, 7, 8, 9, 10, 11] [2, 7] (fun a σ => ∃ M1 o1 : Nat, N0 + 14 ≤ M1 ∧ N0 + 14 ≤ o1 ∧ o1 < M1 ∧ a = [(2, .int .i64 p2), (7, .sl (N0 + 12) 0 l3.length)] ∧ σ = hp E0 [(N0 + 12, some ⟨78, 5, encL rInstr l3⟩)] M1) (by decide) (fun K hK => ?_) ?_
 ·
  simp only [pickL, nthO_succ, nthO_zero]
  simp -dsimp -implicitDefEqProofs (maxDischargeDepth := 6) [q0, app46 hl3]
  refine (c82_o (H := hr1) ).mono ?_; rintro _ _ ⟨M1, o1, fM1_0, fM1_1, fM1_2, rfl, rfl⟩; simp only [hp_next] at fM1_0 fM1_1 fM1_2
  have eM1_0 := nQ o1 (N0 + 12)
  try simp -dsimp -implicitDefEqProofs (maxDischargeDepth := 6) [q0, app46 hl3, eM1_0, hp_over_some, hp_over_none]
  refine Pc.mk (c79 hr2) ?_; try simp -dsimp -implicitDefEqProofs (maxDischargeDepth := 6) [q0, app46 hl3, eM1_0, hp_over_some, hp_over_none]
  exact hK _ _ ⟨M1, o1, (by omega), (by omega), (by omega), rfl, rfl⟩
 rintro a σ ⟨M1, o1, fM1_0, fM1_1, fM1_2, rfl, rfl⟩
 obtain ⟨l4, hl4, H⟩ := bindE H
 have q1 : ∀ σ i, buildSliceA T 46 true i 1 [(0, .agg [.int .i64 20, .int .i64 0, .int .i64 0, .int .i64 0, .int .i64 (isub .i64 p2 (imul .i64 4 (ilen l3)))])] σ = some (.fsl (encL rInstr ([(⟨20, 0, 0, 0, isub .i64 p2 (imul .i64 4 (ilen l3))⟩ : gInstr)] : List gInstr)), σ) := fun _ _ => rfl
 refine Sx tok [7] [6] (by
  intro K k
  have e0 := nQ (N0 + 12) (M1 + 8)
  have e1 := nQ (N0 + 4) M1
  simp -dsimp -implicitDefEqProofs (maxDischargeDepth := 6) [e0, e1, q1, app46 hl4]
  exact k) ?_
 refine gFrz AWP_ref 4 [M1 + 8] [] [(6, .fsl (encL rInstr l4))] (by simp) (cutD (by simp)) ?_
 replace H := oi H; subst H; exact AWP_ret ⟨_, rfl, 4, by simp [encL_nil]⟩
theorem c88 {p0 : Int} {r : gInstr} (H : s_l43Box p0 = some r) : APure Tryd.prog G 88 [.int .i64 p0] (.agg [.int .i64 r.Op, .int .i64 r.Rd, .int .i64 r.Rs, .int .i64 r.Rt, .int .i64 r.Imm]) := by
 refine APure_fn (fun N0 => ?_) (by simp)
 refine ACalls_fn tok Tryd.func88 (by kernel_rfl) rfl Tryd.ntmps88 Tryd.results88 rfl ?_
 simp only [argsA, Nat.reduceAdd, hp_next]
 unfold s_l43Box at H
 refine S0 tok [] [0, 2] ?_
 refine S0 tok [] [2] ?_
 replace H := oi H; subst H
 refine Kp [2] ?_
 refine AWP_ret ?_
 exact ⟨[.agg [.int .i64 12, .int .i64 11, .int .i64 0, .int .i64 0, .int .i64 p0]], by simp, 4, by simp [encL_nil]⟩
theorem c87_o {p0 : Int} {p1 : Int} {r : (List gInstr)} (H : s_l43Give_o p0 p1 = some r) {σ : AHeap} : ACalls Tryd.prog G 87 [.int .i64 p0, .int .i64 p1] σ (fun v σ' => ∃ M n0 : Nat, σ.next ≤ M ∧ σ.next ≤ n0 ∧ n0 < M ∧ v = .sl n0 0 r.length ∧ σ' = hp σ.objs [(n0, some ⟨78, 5, encL rInstr r⟩)] M) := by
 refine ACalls_fr (L := []) (Q1 := fun v σ' => ∃ M n0 : Nat, σ.next ≤ M ∧ σ.next ≤ n0 ∧ n0 < M ∧ v = .sl n0 0 r.length ∧ σ' = hp E0 [(n0, some ⟨78, 5, encL rInstr r⟩)] M) (by simp []) (fun hlt => ?_) ?_ ⟨_, Tryd.func87, rfl, rfl⟩
 rotate_left
 ·
  rintro v σ1 ⟨M, n0, h0, h1, h2, rfl, rfl⟩
  exact ⟨_, M, rfl, by simp, by simp; try omega, M, n0, h0, h1, h2, rfl, rfl⟩
 generalize σ.next = N0 at hlt ⊢
 refine ACalls_fn tok Tryd.func87 (by kernel_rfl) rfl Tryd.ntmps87 Tryd.results87 rfl ?_
 simp only [argsA, Nat.reduceAdd, hp_next]
 unfold s_l43Give_o at H
 refine S0 tok [] [0, 1] ?_
 obtain ⟨r1, hr1, H⟩ := bindE H
 obtain ⟨r2, hr2, H⟩ := bindE H
 obtain ⟨r3, hr3, H⟩ := bindE H
 obtain ⟨l4, hl4, H⟩ := bindE H
 have q0 : ∀ σ i, buildSliceA T 46 true i 1 [(0, .agg [.int .i64 r3.Op, .int .i64 r3.Rd, .int .i64 r3.Rs, .int .i64 r3.Rt, .int .i64 r3.Imm])] σ = some (.fsl (encL rInstr ([r3] : List gInstr)), σ) := fun _ _ => rfl
 refine AWP_sr tok [7] [4] (fun a σ => ∃ M1 o1 : Nat, N0 + 11 ≤ M1 ∧ N0 + 11 ≤ o1 ∧ o1 < M1 ∧ a = [(4, .sl (N0 + 9) 0 l4.length)] ∧ σ = hp E0 [(N0 + 9, some ⟨78, 5, encL rInstr l4⟩)] M1) (fun K hK => ?_) ?_
 ·
  simp -dsimp -implicitDefEqProofs (maxDischargeDepth := 6) [q0, app46 hl4]
  refine (c82_o (H := hr1) ).mono ?_; rintro _ _ ⟨M1, o1, fM1_0, fM1_1, fM1_2, rfl, rfl⟩; simp only [hp_next] at fM1_0 fM1_1 fM1_2
  have eM1_0 := nQ o1 (N0 + 9)
  try simp -dsimp -implicitDefEqProofs (maxDischargeDepth := 6) [q0, app46 hl4, eM1_0, hp_over_some, hp_over_none]
  refine (c79 hr2).app ?_; try simp -dsimp -implicitDefEqProofs (maxDischargeDepth := 6) [q0, app46 hl4, eM1_0, hp_over_some, hp_over_none]
  refine (c83 hr3).app ?_; try simp -dsimp -implicitDefEqProofs (maxDischargeDepth := 6) [q0, app46 hl4, eM1_0, hp_over_some, hp_over_none]
  exact hK _ _ ⟨M1, o1, (by omega), (by omega), (by omega), rfl, rfl⟩
 rintro a σ ⟨M1, o1, fM1_0, fM1_1, fM1_2, rfl, rfl⟩
 replace H := oi H; subst H
 refine Kp [4] ?_
 refine AWP_ret ?_
 refine ⟨[.sl (N0 + 9) 0 l4.length], by simp, M1, N0 + 9, by omega, by omega, by omega, ?_, ?_⟩
 ·
  simp [encL_nil]
 ·
  first | rfl | simp [List.set_set]
theorem c86 {p0 : (List gInstr)} {p1 : Int} {r : (List gInstr)} (H : s_l43Call p0 p1 = some r) {σ : AHeap} {w0 : Nat} (q0 : σ.objs w0 = some ⟨78, 5, encL rInstr p0⟩) : ACalls Tryd.prog G 86 [.sl w0 0 p0.length, .int .i64 p1] σ (fun v σ' => ∃ M : Nat, σ.next ≤ M ∧ v = .fsl (encL rInstr r) ∧ σ' = hp σ.objs [(w0, none)] M) := by
 refine ACalls_fr (L := [(w0, some ⟨78, 5, encL rInstr p0⟩)]) (Q1 := fun v σ' => ∃ M : Nat, σ.next ≤ M ∧ v = .fsl (encL rInstr r) ∧ σ' = hp E0 [(w0, none)] M) (by simp [q0]) (fun hlt => ?_) ?_ ⟨_, Tryd.func86, rfl, rfl⟩
 rotate_left
 ·
  rintro v σ1 ⟨M, h0, rfl, rfl⟩
  exact ⟨_, M, rfl, by simp, by simp; try omega, M, h0, rfl, rfl⟩
 generalize σ.next = N0 at hlt ⊢
 have lw0 : w0 < N0 := hlt _ (.head _) rfl
 refine ACalls_fn tok Tryd.func86 (by kernel_rfl) rfl Tryd.ntmps86 Tryd.results86 rfl ?_
 simp only [argsA, Nat.reduceAdd, hp_next]
 unfold s_l43Call at H
 refine S0 tok [] [0, 1] ?_
 obtain ⟨l1, hl1, H⟩ := bindE H
 have q0 : ∀ σ i, buildSliceA T 46 true i 1 [(0, .agg [.int .i64 12, .int .i64 17, .int .i64 0, .int .i64 0, .int .i64 p1])] σ = some (.fsl (encL rInstr ([(⟨12, 17, 0, 0, p1⟩ : gInstr)] : List gInstr)), σ) := fun _ _ => rfl
 refine Sx tok [3] [0] (by
  intro K k
  have e0 := nQ w0 (N0 + 5)
  simp -dsimp -implicitDefEqProofs (maxDischargeDepth := 6) [e0, q0, app46 hl1]
  exact k) ?_
 obtain ⟨l2, hl2, H⟩ := bindE H
 have q1 : ∀ σ i, buildSliceA T 46 true i 1 [(0, .agg [.int .i64 15, .int .i64 1, .int .i64 0, .int .i64 0, .int .i64 0])] σ = some (.fsl (encL rInstr ([(⟨15, 1, 0, 0, 0⟩ : gInstr)] : List gInstr)), σ) := fun _ _ => rfl
 refine Sx tok [2] [4] (by intro K k; simp -dsimp -implicitDefEqProofs (maxDischargeDepth := 6) [q1, app46 hl2]; exact k) ?_
 refine gFrz AWP_ref 4 [N0 + 10] [] [(4, .fsl (encL rInstr l2))] (by simp) (cutD (by simp)) ?_
 replace H := oi H; subst H
 refine Kp [4] ?_
 refine AWP_ret ?_
 refine ⟨[.fsl (encL rInstr l2)], by simp, N0 + 12, by omega, ?_, ?_⟩
 ·
  simp [encL_nil]
 ·
  symm; first | exact hp_tail (L := []) | (simp only [List.set_set]; exact hp_tail (L := []))
theorem c86_o {p0 : (List gInstr)} {p1 : Int} {r : (List gInstr)} (H : s_l43Call_o p0 p1 = some r) {σ : AHeap} {w0 : Nat} (q0 : σ.objs w0 = some ⟨78, 5, encL rInstr p0⟩) : ACalls Tryd.prog G 86 [.sl w0 0 p0.length, .int .i64 p1] σ (fun v σ' => ∃ M n0 : Nat, σ.next ≤ M ∧ σ.next ≤ n0 ∧ n0 < M ∧ v = .sl n0 0 r.length ∧ σ' = hp σ.objs [(n0, some ⟨78, 5, encL rInstr r⟩), (w0, none)] M) := by
 refine ACalls_fr (L := [(w0, some ⟨78, 5, encL rInstr p0⟩)]) (Q1 := fun v σ' => ∃ M n0 : Nat, σ.next ≤ M ∧ σ.next ≤ n0 ∧ n0 < M ∧ v = .sl n0 0 r.length ∧ σ' = hp E0 [(n0, some ⟨78, 5, encL rInstr r⟩), (w0, none)] M) (by simp [q0]) (fun hlt => ?_) ?_ ⟨_, Tryd.func86, rfl, rfl⟩
 rotate_left
 ·
  rintro v σ1 ⟨M, n0, h0, h1, h2, rfl, rfl⟩
  exact ⟨_, M, rfl, by simp, by simp; try omega, M, n0, h0, h1, h2, rfl, rfl⟩
 generalize σ.next = N0 at hlt ⊢
 have lw0 : w0 < N0 := hlt _ (.head _) rfl
 refine ACalls_fn tok Tryd.func86 (by kernel_rfl) rfl Tryd.ntmps86 Tryd.results86 rfl ?_
 simp only [argsA, Nat.reduceAdd, hp_next]
 unfold s_l43Call_o at H
 refine S0 tok [] [0, 1] ?_
 obtain ⟨l1, hl1, H⟩ := bindE H
 have q0 : ∀ σ i, buildSliceA T 46 true i 1 [(0, .agg [.int .i64 12, .int .i64 17, .int .i64 0, .int .i64 0, .int .i64 p1])] σ = some (.fsl (encL rInstr ([(⟨12, 17, 0, 0, p1⟩ : gInstr)] : List gInstr)), σ) := fun _ _ => rfl
 refine Sx tok [3] [0] (by
  intro K k
  have e0 := nQ w0 (N0 + 5)
  simp -dsimp -implicitDefEqProofs (maxDischargeDepth := 6) [e0, q0, app46 hl1]
  exact k) ?_
 obtain ⟨l2, hl2, H⟩ := bindE H
 have q1 : ∀ σ i, buildSliceA T 46 true i 1 [(0, .agg [.int .i64 15, .int .i64 1, .int .i64 0, .int .i64 0, .int .i64 0])] σ = some (.fsl (encL rInstr ([(⟨15, 1, 0, 0, 0⟩ : gInstr)] : List gInstr)), σ) := fun _ _ => rfl
 refine Sx tok [2] [4] (by intro K k; simp -dsimp -implicitDefEqProofs (maxDischargeDepth := 6) [q1, app46 hl2]; exact k) ?_
 replace H := oi H; subst H
 refine Kp [4] ?_
 refine AWP_ret ?_
 refine ⟨[.sl (N0 + 10) 0 l2.length], by simp, N0 + 12, N0 + 10, by omega, by omega, by omega, ?_, ?_⟩
 ·
  simp [encL_nil]
 ·
  symm; first | exact hp_tail (L := [(N0 + 10, some ⟨78, 5, encL rInstr l2⟩)]) | (simp only [List.set_set]; exact hp_tail (L := [(N0 + 10, some ⟨78, 5, encL rInstr l2⟩)]))
theorem c49 {p0 : gQuad} {p1 : Int} {p2 : Int} {r : (List gInstr)} (H : s_l43Quad p0 p1 p2 = some r) : APure Tryd.prog G 49 [.agg [.int .i64 p0.Op, .int .i64 p0.Dst, .int .i64 p0.A, .int .i64 p0.B, .int .i64 p0.N], .int .i64 p1, .int .i64 p2] (.fsl (encL rInstr r)) := by
 refine APure_fn (fun N0 => ?_) (by simp)
 refine ACalls_fn tok Tryd.func49 (by kernel_rfl) rfl Tryd.ntmps49 Tryd.results49 rfl ?_
 simp only [argsA, Nat.reduceAdd, hp_next]
 unfold s_l43Quad at H
 refine S0 tok [0] [1, 2, 3] ?_
 obtain ⟨r1, hr1, H⟩ := bindE H
 refine Sx tok [] [1, 2, 3, 7] (by intro K k; (repeat first | simp -dsimp -implicitDefEqProofs (maxDischargeDepth := 6) | refine (c79 hr1).app ?_); exact k) ?_
 refine AWP_sq [] fun K1 hK1 => ?_
 refine S0 tok [] [1, 2, 3, 7, 14] ?_
 refine AWP_block (AWP_thenB ?_)
 refine S0 tok [] [1, 2, 3, 7, 14, 15] ?_
 refine AWP_cond (ieq p0.Op 1) rfl (fun C1 => ?_) (fun C1 => ?_)
 ·
  replace H := ifT C1 H
  obtain ⟨r2, hr2, H⟩ := bindE H
  obtain ⟨r3, hr3, H⟩ := bindE H
  refine AWP_sd tok tokM [] [3, 7] [0, 1, 2, 4, 5, 6, 3, 7, 8] [6] (fun a σ => ∃ M1 o1 : Nat, ∃ M2 : Nat, N0 + 20 ≤ M1 ∧ N0 + 20 ≤ o1 ∧ o1 < M1 ∧ M1 ≤ M2 ∧ a = [(6, .fsl (encL rInstr r3))] ∧ σ = hp E0 [] M2) (by decide) (fun K hK => ?_) ?_
  ·
   simp only [pickL, nthO_succ, nthO_zero]
   simp -dsimp -implicitDefEqProofs (maxDischargeDepth := 6)
   refine (c81_o (H := hr2) ).mono ?_; rintro _ _ ⟨M1, o1, fM1_0, fM1_1, fM1_2, rfl, rfl⟩; simp only [hp_next] at fM1_0 fM1_1 fM1_2
   try simp -dsimp -implicitDefEqProofs (maxDischargeDepth := 6) [hp_over_some, hp_over_none]
   refine (c80 (H := hr3) (by simp [hp_over_some, hp_over_none])).mono ?_; rintro _ _ ⟨M2, fM2_0, rfl, rfl⟩; simp only [hp_next] at fM2_0
   try simp -dsimp -implicitDefEqProofs (maxDischargeDepth := 6) [hp_over_some, hp_over_none, hp_over_some, hp_over_none]
   exact hK _ _ ⟨M1, o1, M2, (by omega), (by omega), (by omega), (by omega), rfl, rfl⟩
  rintro a σ ⟨M1, o1, M2, fM1_0, fM1_1, fM1_2, fM2_0, rfl, rfl⟩
  replace H := oi H; subst H; exact AWP_ret ⟨_, rfl, 4, by simp [encL_nil]⟩
 ·
  replace H := ifF C1 H
  refine S0 tok [] [1, 2, 3, 7, 14, 25] ?_
  refine AWP_cond (ieq p0.Op 2) rfl (fun C2 => ?_) (fun C2 => ?_)
  ·
   replace H := ifT C2 H
   obtain ⟨r4, hr4, H⟩ := bindE H
   obtain ⟨r5, hr5, H⟩ := bindE H
   obtain ⟨r6, hr6, H⟩ := bindE H
   obtain ⟨l7, hl7, H⟩ := bindE H
   obtain ⟨r8, hr8, H⟩ := bindE H
   have q0 : ∀ σ i, buildSliceA T 46 true i 1 [(0, .agg [.int .i64 r6.Op, .int .i64 r6.Rd, .int .i64 r6.Rs, .int .i64 r6.Rt, .int .i64 r6.Imm])] σ = some (.fsl (encL rInstr ([r6] : List gInstr)), σ) := fun _ _ => rfl
   refine AWP_sd tok tokM [10] [3, 11, 15] [0, 1, 2, 4, 5, 6, 7, 12, 13, 14, 3, 8, 9, 10, 11, 15, 16] [6] (fun a σ => ∃ M3 o2 : Nat, ∃ M4 : Nat, N0 + 30 ≤ M3 ∧ N0 + 30 ≤ o2 ∧ o2 < M3 ∧ M3 ≤ M4 ∧ a = [(6, .fsl (encL rInstr r8))] ∧ σ = hp E0 [] M4) (by decide) (fun K hK => ?_) ?_
   ·
    simp only [pickL, nthO_succ, nthO_zero]
    simp -dsimp -implicitDefEqProofs (maxDischargeDepth := 6) [q0, app46 hl7]
    refine (c82_o (H := hr4) ).mono ?_; rintro _ _ ⟨M3, o2, fM3_0, fM3_1, fM3_2, rfl, rfl⟩; simp only [hp_next] at fM3_0 fM3_1 fM3_2
    have eM3_0 := nQ o2 (N0 + 24)
    try simp -dsimp -implicitDefEqProofs (maxDischargeDepth := 6) [q0, app46 hl7, eM3_0, hp_over_some, hp_over_none]
    refine Pc.mk (c79 hr5) ?_; try simp -dsimp -implicitDefEqProofs (maxDischargeDepth := 6) [q0, app46 hl7, eM3_0, hp_over_some, hp_over_none]
    refine Pc.mk (c83 hr6) ?_; try simp -dsimp -implicitDefEqProofs (maxDischargeDepth := 6) [q0, app46 hl7, eM3_0, hp_over_some, hp_over_none]
    refine (c80 (H := hr8) (by simp [q0, app46 hl7, eM3_0, hp_over_some, hp_over_none])).mono ?_; rintro _ _ ⟨M4, fM4_0, rfl, rfl⟩; simp only [hp_next] at fM4_0
    try simp -dsimp -implicitDefEqProofs (maxDischargeDepth := 6) [q0, app46 hl7, eM3_0, hp_over_some, hp_over_none, hp_over_some, hp_over_none]
    exact hK _ _ ⟨M3, o2, M4, (by omega), (by omega), (by omega), (by omega), rfl, rfl⟩
   rintro a σ ⟨M3, o2, M4, fM3_0, fM3_1, fM3_2, fM4_0, rfl, rfl⟩
   refine gFrz AWP_ref 4 [] [] [(6, .fsl (encL rInstr r8))] (by simp) (cutD (by simp)) ?_
   replace H := oi H; subst H; exact AWP_ret ⟨_, rfl, 4, by simp [encL_nil]⟩
  ·
   replace H := ifF C2 H
   refine S0 tok [] [1, 2, 3, 7, 14, 43] ?_
   refine AWP_cond (ieq p0.Op 3) rfl (fun C3 => ?_) (fun C3 => ?_)
   ·
    replace H := ifT C3 H
    obtain ⟨r9, hr9, H⟩ := bindE H
    refine Sx tok [] [6] (by intro K k; (repeat first | simp -dsimp -implicitDefEqProofs (maxDischargeDepth := 6) | refine (c84 hr9).app ?_); exact k) ?_
    replace H := oi H; subst H; exact AWP_ret ⟨_, rfl, 4, by simp [encL_nil]⟩
   ·
    replace H := ifF C3 H
    refine S0 tok [] [1, 2, 3, 7, 14, 48] ?_
    refine AWP_cond (ieq p0.Op 4) rfl (fun C4 => ?_) (fun C4 => ?_)
    ·
     replace H := ifT C4 H
     have q1 : ∀ σ i, buildSliceA T 46 true i 1 [(0, .agg [.int .i64 20, .int .i64 0, .int .i64 0, .int .i64 0, .int .i64 p2])] σ = some (.fsl (encL rInstr ([(⟨20, 0, 0, 0, p2⟩ : gInstr)] : List gInstr)), σ) := fun _ _ => rfl
     refine Sx tok [2] [6] (by intro K k; simp -dsimp -implicitDefEqProofs (maxDischargeDepth := 6) [q1]; exact k) ?_
     replace H := oi H; subst H; exact AWP_ret ⟨_, rfl, 4, by simp [encL_nil]⟩
    ·
     replace H := ifF C4 H
     refine S0 tok [] [1, 2, 3, 7, 14, 53] ?_
     refine AWP_cond (ieq p0.Op 5) rfl (fun C5 => ?_) (fun C5 => ?_)
     ·
      replace H := ifT C5 H
      obtain ⟨r10, hr10, H⟩ := bindE H
      refine Sx tok [] [6] (by intro K k; (repeat first | simp -dsimp -implicitDefEqProofs (maxDischargeDepth := 6) | refine (c85 hr10).app ?_); exact k) ?_
      replace H := oi H; subst H; exact AWP_ret ⟨_, rfl, 4, by simp [encL_nil]⟩
     ·
      replace H := ifF C5 H
      refine S0 tok [] [1, 3, 7, 14, 59] ?_
      refine AWP_cond (ieq p0.Op 6) rfl (fun C6 => ?_) (fun C6 => ?_)
      ·
       replace H := ifT C6 H
       obtain ⟨r11, hr11, H⟩ := bindE H
       obtain ⟨r12, hr12, H⟩ := bindE H
       obtain ⟨l13, hl13, H⟩ := bindE H
       obtain ⟨r14, hr14, H⟩ := bindE H
       have q2 : ∀ σ i, buildSliceA T 46 true i 1 [(0, .agg [.int .i64 r12.Op, .int .i64 r12.Rd, .int .i64 r12.Rs, .int .i64 r12.Rt, .int .i64 r12.Imm])] σ = some (.fsl (encL rInstr ([r12] : List gInstr)), σ) := fun _ _ => rfl
       refine AWP_sd tok tokM [7] [3, 8, 9] [0, 1, 2, 4, 5, 3, 6, 7, 8, 9, 10] [6] (fun a σ => ∃ M5 o3 : Nat, ∃ M6 : Nat, N0 + 32 ≤ M5 ∧ N0 + 32 ≤ o3 ∧ o3 < M5 ∧ M5 ≤ M6 ∧ a = [(6, .fsl (encL rInstr r14))] ∧ σ = hp E0 [] M6) (by decide) (fun K hK => ?_) ?_
       ·
        simp only [pickL, nthO_succ, nthO_zero]
        simp -dsimp -implicitDefEqProofs (maxDischargeDepth := 6) [q2, app46 hl13]
        refine (c87_o (H := hr11) ).mono ?_; rintro _ _ ⟨M5, o3, fM5_0, fM5_1, fM5_2, rfl, rfl⟩; simp only [hp_next] at fM5_0 fM5_1 fM5_2
        have eM5_0 := nQ o3 (N0 + 29)
        try simp -dsimp -implicitDefEqProofs (maxDischargeDepth := 6) [q2, app46 hl13, eM5_0, hp_over_some, hp_over_none]
        refine Pc.mk (c88 hr12) ?_; try simp -dsimp -implicitDefEqProofs (maxDischargeDepth := 6) [q2, app46 hl13, eM5_0, hp_over_some, hp_over_none]
        refine (c86 (H := hr14) (by simp [q2, app46 hl13, eM5_0, hp_over_some, hp_over_none])).mono ?_; rintro _ _ ⟨M6, fM6_0, rfl, rfl⟩; simp only [hp_next] at fM6_0
        try simp -dsimp -implicitDefEqProofs (maxDischargeDepth := 6) [q2, app46 hl13, eM5_0, hp_over_some, hp_over_none, hp_over_some, hp_over_none]
        exact hK _ _ ⟨M5, o3, M6, (by omega), (by omega), (by omega), (by omega), rfl, rfl⟩
       rintro a σ ⟨M5, o3, M6, fM5_0, fM5_1, fM5_2, fM6_0, rfl, rfl⟩
       refine gFrz AWP_ref 4 [] [] [(6, .fsl (encL rInstr r14))] (by simp) (cutD (by simp)) ?_
       replace H := oi H; subst H; exact AWP_ret ⟨_, rfl, 4, by simp [encL_nil]⟩
      ·
       replace H := ifF C6 H
       refine S0 tok [] [1, 3, 7, 14, 71] ?_
       refine AWP_cond (ieq p0.Op 7) rfl (fun C7 => ?_) (fun C7 => ?_)
       ·
        replace H := ifT C7 H
        obtain ⟨r15, hr15, H⟩ := bindE H
        obtain ⟨l16, hl16, H⟩ := bindE H
        obtain ⟨r17, hr17, H⟩ := bindE H
        have q3 : ∀ σ i, buildSliceA T 46 false i 1 [(0, .agg [.int .i64 r15.Op, .int .i64 r15.Rd, .int .i64 r15.Rs, .int .i64 r15.Rt, .int .i64 r15.Imm])] σ = some (.sl i 0 (List.length l16), σ.put i ⟨78, 5, encL rInstr l16⟩) := by rw [← Option.some.inj hl16]; intro _ _; rfl
        refine AWP_sr tok [] [1, 3, 7, 8] (fun a σ => ∃ M7 o4 : Nat, N0 + 29 ≤ M7 ∧ N0 + 29 ≤ o4 ∧ o4 < M7 ∧ a = [(1, .int .i64 p1), (3, .fptr [.int .i64 p0.Op, .int .i64 p0.Dst, .int .i64 p0.A, .int .i64 p0.B, .int .i64 p0.N] 0), (7, .int .i64 r1), (8, .sl o4 0 r17.length)] ∧ σ = hp E0 [(o4, some ⟨78, 5, encL rInstr r17⟩)] M7) (fun K hK => ?_) ?_
        ·
         simp -dsimp -implicitDefEqProofs (maxDischargeDepth := 6) [q3]
         refine (c88 hr15).app ?_; try simp -dsimp -implicitDefEqProofs (maxDischargeDepth := 6) [q3]
         refine (c86_o (H := hr17) (by simp [q3])).mono ?_; rintro _ _ ⟨M7, o4, fM7_0, fM7_1, fM7_2, rfl, rfl⟩; simp only [hp_next] at fM7_0 fM7_1 fM7_2
         have eM7_0 := nQ o4 (N0 + 26)
         try simp -dsimp -implicitDefEqProofs (maxDischargeDepth := 6) [q3, eM7_0, hp_over_some, hp_over_none]
         exact hK _ _ ⟨M7, o4, (by omega), (by omega), (by omega), rfl, rfl⟩
        rintro a σ ⟨M7, o4, fM7_0, fM7_1, fM7_2, rfl, rfl⟩
        obtain ⟨r18, hr18, H⟩ := bindE H
        obtain ⟨l19, hl19, H⟩ := bindE H
        obtain ⟨r20, hr20, H⟩ := bindE H
        have q4 : ∀ σ i, buildSliceA T 46 true i 1 [(0, .agg [.int .i64 r18.Op, .int .i64 r18.Rd, .int .i64 r18.Rs, .int .i64 r18.Rt, .int .i64 r18.Imm])] σ = some (.fsl (encL rInstr ([r18] : List gInstr)), σ) := fun _ _ => rfl
        refine AWP_sd tok tokM [3] [4, 8] [0, 1, 2, 3, 5, 6, 7, 4, 8, 9] [6] (fun a σ => ∃ M8 : Nat, M7 + 10 ≤ M8 ∧ a = [(6, .fsl (encL rInstr r20))] ∧ σ = hp E0 [] M8) (by decide) (fun K hK => ?_) ?_
        ·
         simp only [pickL, nthO_succ, nthO_zero]
         have e0 := nQ o4 (M7 + 4)
         simp -dsimp -implicitDefEqProofs (maxDischargeDepth := 6) [e0, q4, app46 hl19]
         refine Pc.mk (c83 hr18) ?_; try simp -dsimp -implicitDefEqProofs (maxDischargeDepth := 6) [e0, q4, app46 hl19]
         refine (c80 (H := hr20) (by simp [e0, q4, app46 hl19])).mono ?_; rintro _ _ ⟨M8, fM8_0, rfl, rfl⟩; simp only [hp_next] at fM8_0
         try simp -dsimp -implicitDefEqProofs (maxDischargeDepth := 6) [e0, q4, app46 hl19, hp_over_some, hp_over_none]
         exact hK _ _ ⟨M8, (by omega), rfl, rfl⟩
        rintro a σ ⟨M8, fM8_0, rfl, rfl⟩
        refine gFrz AWP_ref 4 [] [] [(6, .fsl (encL rInstr r20))] (by simp) (cutD (by simp)) ?_
        replace H := oi H; subst H; exact AWP_ret ⟨_, rfl, 4, by simp [encL_nil]⟩
       ·
        replace H := ifF C7 H
        refine S0 tok [] [1, 3, 14, 87] ?_
        refine AWP_cond (ieq p0.Op 8) rfl (fun C8 => ?_) (fun C8 => ?_)
        ·
         replace H := ifT C8 H
         obtain ⟨l21, hl21, H⟩ := bindE H
         obtain ⟨r22, hr22, H⟩ := bindE H
         have q5 : ∀ σ i, buildSliceA T 46 false i 0 [] σ = some (.sl i 0 (List.length l21), σ.put i ⟨78, 5, encL rInstr l21⟩) := by rw [← Option.some.inj hl21]; intro _ _; rfl
         refine AWP_sr tok [] [6] (fun a σ => ∃ M9 : Nat, N0 + 28 ≤ M9 ∧ a = [(6, .fsl (encL rInstr r22))] ∧ σ = hp E0 [] M9) (fun K hK => ?_) ?_
         ·
          simp -dsimp -implicitDefEqProofs (maxDischargeDepth := 6) [q5]
          refine (c86 (H := hr22) (by simp [q5])).mono ?_; rintro _ _ ⟨M9, fM9_0, rfl, rfl⟩; simp only [hp_next] at fM9_0
          try simp -dsimp -implicitDefEqProofs (maxDischargeDepth := 6) [q5, hp_over_some, hp_over_none]
          exact hK _ _ ⟨M9, (by omega), rfl, rfl⟩
         rintro a σ ⟨M9, fM9_0, rfl, rfl⟩
         replace H := oi H; subst H; exact AWP_ret ⟨_, rfl, 4, by simp [encL_nil]⟩
        ·
         replace H := ifF C8 H
         refine S0 tok [] [1, 3, 91] ?_
         refine AWP_cond (ieq p0.Op 9) rfl (fun C9 => ?_) (fun C9 => ?_)
         ·
          replace H := ifT C9 H
          obtain ⟨r23, hr23, H⟩ := bindE H
          obtain ⟨r24, hr24, H⟩ := bindE H
          refine AWP_sr tok [] [6] (fun a σ => ∃ M10 o5 : Nat, ∃ M11 : Nat, N0 + 33 ≤ M10 ∧ N0 + 33 ≤ o5 ∧ o5 < M10 ∧ M10 ≤ M11 ∧ a = [(6, .fsl (encL rInstr r24))] ∧ σ = hp E0 [] M11) (fun K hK => ?_) ?_
          ·
           simp -dsimp -implicitDefEqProofs (maxDischargeDepth := 6)
           refine (c87_o (H := hr23) ).mono ?_; rintro _ _ ⟨M10, o5, fM10_0, fM10_1, fM10_2, rfl, rfl⟩; simp only [hp_next] at fM10_0 fM10_1 fM10_2
           try simp -dsimp -implicitDefEqProofs (maxDischargeDepth := 6) [hp_over_some, hp_over_none]
           refine (c86 (H := hr24) (by simp [hp_over_some, hp_over_none])).mono ?_; rintro _ _ ⟨M11, fM11_0, rfl, rfl⟩; simp only [hp_next] at fM11_0
           try simp -dsimp -implicitDefEqProofs (maxDischargeDepth := 6) [hp_over_some, hp_over_none, hp_over_some, hp_over_none]
           exact hK _ _ ⟨M10, o5, M11, (by omega), (by omega), (by omega), (by omega), rfl, rfl⟩
          rintro a σ ⟨M10, o5, M11, fM10_0, fM10_1, fM10_2, fM11_0, rfl, rfl⟩
          replace H := oi H; subst H; exact AWP_ret ⟨_, rfl, 4, by simp [encL_nil]⟩
         ·
          replace H := ifF C9 H
          refine AWP_skip (Jn hK1 ?_)
          obtain ⟨l25, hl25, H⟩ := bindE H
          obtain ⟨r26, hr26, H⟩ := bindE H
          have q6 : ∀ σ i, buildSliceA T 46 false i 0 [] σ = some (.sl i 0 (List.length l25), σ.put i ⟨78, 5, encL rInstr l25⟩) := by rw [← Option.some.inj hl25]; intro _ _; rfl
          refine AWP_sr tok [] [6] (fun a σ => ∃ M12 : Nat, N0 + 30 ≤ M12 ∧ a = [(6, .fsl (encL rInstr r26))] ∧ σ = hp E0 [] M12) (fun K hK => ?_) ?_
          ·
           simp -dsimp -implicitDefEqProofs (maxDischargeDepth := 6) [q6]
           refine (c86 (H := hr26) (by simp [q6])).mono ?_; rintro _ _ ⟨M12, fM12_0, rfl, rfl⟩; simp only [hp_next] at fM12_0
           try simp -dsimp -implicitDefEqProofs (maxDischargeDepth := 6) [q6, hp_over_some, hp_over_none]
           exact hK _ _ ⟨M12, (by omega), rfl, rfl⟩
          rintro a σ ⟨M12, fM12_0, rfl, rfl⟩
          replace H := oi H; subst H; exact AWP_ret ⟨_, rfl, 4, by simp [encL_nil]⟩
theorem c19 {p0 : gQuad} {p1 : Int} {p2 : Int} {r : (List gInstr) × Bool} (H : s_QuadInstrs p0 p1 p2 = some r) : APure Tryd.prog G 19 [.agg [.int .i64 p0.Op, .int .i64 p0.Dst, .int .i64 p0.A, .int .i64 p0.B, .int .i64 p0.N], .int .i64 p1, .int .i64 p2] (.tup [.fsl (encL rInstr r.1), .bool r.2]) := by
 refine APure_fn (fun N0 => ?_) (by simp)
 refine ACalls_fn tok Tryd.func19 (by kernel_rfl) rfl Tryd.ntmps19 Tryd.results19 rfl ?_
 simp only [argsA, Nat.reduceAdd, hp_next]
 unfold s_QuadInstrs at H
 refine S0 tok [0] [1, 2, 3] ?_
 refine AWP_sq [1, 2, 3] fun K1 hK1 => ?_
 obtain ⟨r1, hr1, H⟩ := bindE H
 obtain ⟨g3, hg3, H⟩ := bindE H
 obtain ⟨g5, hg5, H⟩ := bindE H
 obtain ⟨g7, hg7, H⟩ := bindE H
 refine AWP_sr tok [] [1, 2, 3, 25] (fun a σ => a = [(1, .int .i64 p1), (2, .int .i64 p2), (3, .fptr [.int .i64 p0.Op, .int .i64 p0.Dst, .int .i64 p0.A, .int .i64 p0.B, .int .i64 p0.N] 0), (25, .bool g7)] ∧ σ = hp E0 [] (N0 + 21)) (fun K hK => ?_) ?_
 ·
  simp -dsimp -implicitDefEqProofs (maxDischargeDepth := 6)
  refine (c48 hr1).app ?_; try simp -dsimp -implicitDefEqProofs (maxDischargeDepth := 6)
  cases hbg3 : bnot r1
  ·
   replace hg3 := ifF hbg3 hg3
   obtain ⟨r2, hr2, hg3⟩ := bindE hg3
   replace hg3 := oi hg3; subst hg3
   try simp -dsimp -implicitDefEqProofs (maxDischargeDepth := 6) [hbg3]
   refine (c27 hr2).app ?_; try simp -dsimp -implicitDefEqProofs (maxDischargeDepth := 6) [hbg3]
   cases hbg5 : (bnot r2)
   ·
    replace hg5 := ifF hbg5 hg5
    obtain ⟨r4, hr4, hg5⟩ := bindE hg5
    replace hg5 := oi hg5; subst hg5
    try simp -dsimp -implicitDefEqProofs (maxDischargeDepth := 6) [hbg3, hbg5]
    refine (c27 hr4).app ?_; try simp -dsimp -implicitDefEqProofs (maxDischargeDepth := 6) [hbg3, hbg5]
    cases hbg7 : (bnot r4)
    ·
     replace hg7 := ifF hbg7 hg7
     obtain ⟨v6, hv6, hg7⟩ := bindE hg7
     replace hg7 := oi hg7; subst hg7
     try simp -dsimp -implicitDefEqProofs (maxDischargeDepth := 6) [hbg3, hbg5, hbg7, hv6]
     exact hK _ _ ⟨rfl, rfl⟩
    ·
     replace hg7 := ifT hbg7 hg7
     replace hg7 := oi hg7; subst hg7
     try simp -dsimp -implicitDefEqProofs (maxDischargeDepth := 6) [hbg3, hbg5, hbg7]
     exact hK _ _ ⟨rfl, rfl⟩
   ·
    replace hg5 := ifT hbg5 hg5
    replace hg5 := oi hg5; subst hg5
    try simp -dsimp -implicitDefEqProofs (maxDischargeDepth := 6) [hbg3, hbg5]
    replace hg7 := ifT rfl hg7
    replace hg7 := oi hg7; subst hg7
    try simp -dsimp -implicitDefEqProofs (maxDischargeDepth := 6) [hbg3, hbg5]
    exact hK _ _ ⟨rfl, rfl⟩
  ·
   replace hg3 := ifT hbg3 hg3
   replace hg3 := oi hg3; subst hg3
   try simp -dsimp -implicitDefEqProofs (maxDischargeDepth := 6) [hbg3]
   replace hg5 := ifT rfl hg5
   replace hg5 := oi hg5; subst hg5
   try simp -dsimp -implicitDefEqProofs (maxDischargeDepth := 6) [hbg3]
   replace hg7 := ifT rfl hg7
   replace hg7 := oi hg7; subst hg7
   try simp -dsimp -implicitDefEqProofs (maxDischargeDepth := 6) [hbg3]
   exact hK _ _ ⟨rfl, rfl⟩
 rintro a σ ⟨rfl, rfl⟩
 refine AWP_cond g7 rfl (fun C1 => ?_) (fun C1 => ?_)
 ·
  replace H := ifT C1 H
  have q0 : ∀ σ i, buildSliceA T 46 true i 0 [] σ = some (.esl, σ) := fun _ _ => rfl
  refine Sx tok [0] [6, 7] (by intro K k; simp -dsimp -implicitDefEqProofs (maxDischargeDepth := 6) [q0]; exact k) ?_
  replace H := oi H; subst H; exact AWP_ret ⟨_, rfl, 4, by simp [encL_nil]⟩
 ·
  replace H := ifF C1 H
  refine AWP_skip (Jn hK1 ?_)
  obtain ⟨r8, hr8, H⟩ := bindE H
  refine Sx tok [] [6, 7] (by intro K k; (repeat first | simp -dsimp -implicitDefEqProofs (maxDischargeDepth := 6) | refine (c49 hr8).app ?_); exact k) ?_
  replace H := oi H; subst H; exact AWP_ret ⟨_, rfl, 4, by simp [encL_nil]⟩
theorem c20 {p0 : (List gInstr)} {p1 : (List gInstr)} {r : Bool} (H : l_sameInstrs p0 p1 = some r) : APure Tryd.prog G 20 [.fsl (encL rInstr p0), .fsl (encL rInstr p1)] (.bool r) := by
 refine APure_fn (fun N0 => ?_) (by simp)
 refine ACalls_fn tok Tryd.func20 (by kernel_rfl) rfl Tryd.ntmps20 Tryd.results20 rfl ?_
 simp only [argsA, Nat.reduceAdd, hp_next]
 unfold l_sameInstrs at H
 refine S0 tok [] [0, 1] ?_
 refine AWP_sq [0, 1] fun K1 hK1 => ?_
 refine S0 tok [] [0, 1, 10] ?_
 refine AWP_cond (ine (ilen p0) (ilen p1)) rfl (fun C1 => ?_) (fun C1 => ?_)
 ·
  replace H := ifT C1 H
  refine S0 tok [] [4] ?_
  replace H := oi H; subst H; exact AWP_ret ⟨_, rfl, 4, by simp [encL_nil]⟩
 ·
  replace H := ifF C1 H
  refine AWP_skip (Jn hK1 ?_)
  refine AWP_sq [] fun K2 hK2 => ?_
  refine S0 tok [] [0, 1, 5] ?_
  refine AWP_block (AWP_thenB ?_)
  obtain ⟨e1, hse1, H⟩ := bindE H
  refine AWP_lp [0, 1, 5] (fun s a σ => ∃ M1 : Nat, N0 ≤ M1 ∧ a = [(0, .fsl (encL rInstr p0)), (1, .fsl (encL rInstr p1)), (5, .int .i64 s)] ∧ σ = hp E0 [] M1) (fun e x a σ => match e with | .inl s => x = .exit 0 ∧ Rc G 26 N0 (fun a σ => ∃ M2 : Nat, N0 ≤ M2 ∧ a = [] ∧ σ = hp E0 [] M2) (AAct.keep a []) σ | .inr s => x = .ret ∧ ∃ vs, resA T σ a [.tmp 4] = some vs ∧ ∃ d, thawA (fun _ => true) σ d (tupA vs) = .bool s) hse1 ?_ ?_ ?_
  ·
   refine Rc.kp [0, 1, 5] [(0, .fsl (encL rInstr p0)), (1, .fsl (encL rInstr p1)), (5, .int .i64 0)] rfl ?_
   exact Rc.fin (AHeap.Sub.refl _) ⟨N0 + 7, (by omega), rfl, rfl⟩
  ·
   clear H hse1
   rintro s1 fl a σ H ⟨M1, fM1_0, rfl, rfl⟩ K3 O3 hK3 hO3
   unfold l_sameInstrs_L1 at H; dsimp only at H
   refine AWP_sq [0, 1, 5] fun K4 hK4 => ?_
   refine S0 tok [] [0, 1, 5, 14] ?_
   refine AWP_cond (ilt s1 (ilen p0)) rfl (fun C2 => ?_) (fun C2 => ?_)
   ·
    replace H := ifT C2 H
    refine AWP_skip (Jn hK4 ?_)
    refine AWP_sq [0, 1, 5] fun K5 hK5 => ?_
    refine AWP_block (AWP_thenB ?_)
    obtain ⟨v2, hv2, H⟩ := bindE H
    obtain ⟨v3, hv3, H⟩ := bindE H
    refine Sd tok tokM [] [] [0, 1, 2, 3, 4, 5, 6, 7, 8] [0, 1, 5, 25] (by
     intro K k
     simp only [pickL, nthO_succ, nthO_zero]
     simp -dsimp -implicitDefEqProofs (maxDischargeDepth := 6) [ix46 hv2, ix46 hv3]
     exact k) ?_
    refine AWP_cond (bnot (eqD v2 v3)) rfl (fun C3 => ?_) (fun C3 => ?_)
    ·
     replace H := ifT C3 H
     refine S0 tok [] [4] ?_
     replace H := oi H; subst H
     refine Kp [4] ?_
     refine AWP_ret (hO3 _ _ _ _ rfl ⟨rfl, ?_⟩)
     exact ⟨[.bool false], by simp, 4, by simp [encL_nil]⟩
    ·
     replace H := ifF C3 H
     refine AWP_skip (Jn hK5 ?_)
     refine AWP_rt tok [] [0, 1, 5] (fun a σ => a = [(0, .fsl (encL rInstr p0)), (1, .fsl (encL rInstr p1)), (5, .int .i64 (iadd .i64 s1 1))] ∧ σ = hp E0 [] (M1 + 16)) (fun K hK => ?_) ?_
     ·
      simp -dsimp -implicitDefEqProofs (maxDischargeDepth := 6)
      exact hK _ _ ⟨rfl, rfl⟩
     rintro a σ ⟨ha, rfl⟩
     replace H := oi H; subst H
     refine hK3 _ _ _ rfl ?_; rw [ha]
     exact Rc.fin (AHeap.Sub.refl _) ⟨M1 + 16, (by omega), rfl, rfl⟩
   ·
    replace H := ifF C2 H
    replace H := oi H; subst H
    refine AWP_exit (hO3 _ _ _ _ rfl ⟨rfl, ?_⟩)
    refine Rc.rw (l := []) (X := []) rfl ?_
    exact Rc.fin (AHeap.Sub.refl _) ⟨M1 + 4, (by omega), rfl, rfl⟩
  ·
   intro x a σ hx
   rcases e1 with ⟨⟩ | r0
   ·
    obtain ⟨rfl, b, τ, hr, M2, fM2_0, rfl, rfl⟩ := hx
    dsimp only at H
    show K2 _ _
    refine hK2 _ _ (Rc_ref hr ?_)
    refine Rc.mk ?_
    refine S0 tok [] [4] ?_
    replace H := oi H; subst H; exact AWP_ret ⟨_, rfl, 4, by simp [encL_nil]⟩
   ·
    obtain ⟨rfl, hx2⟩ := hx
    dsimp only at H
    replace H := oi H; subst H; exact hx2
theorem c111 {p0 : Int} {r : Bool} (H : i_isMachineReg p0 = some r) : APure Tryd.prog G 111 [.int .i64 p0] (.bool r) := by
 refine APure_fn (fun N0 => ?_) (by simp)
 refine ACalls_fn tok Tryd.func111 (by kernel_rfl) rfl Tryd.ntmps111 Tryd.results111 rfl ?_
 simp only [argsA, Nat.reduceAdd, hp_next]
 unfold i_isMachineReg at H
 refine S0 tok [] [0] ?_
 obtain ⟨g1, hg1, H⟩ := bindE H
 refine AWP_sr tok [] [2] (fun a σ => a = [(2, .bool g1)] ∧ σ = hp E0 [] (N0 + 8)) (fun K hK => ?_) ?_
 ·
  simp -dsimp -implicitDefEqProofs (maxDischargeDepth := 6)
  cases hbg1 : ige p0 0
  ·
   replace hg1 := ifF hbg1 hg1
   replace hg1 := oi hg1; subst hg1
   try simp -dsimp -implicitDefEqProofs (maxDischargeDepth := 6) [hbg1]
   exact hK _ _ ⟨rfl, rfl⟩
  ·
   replace hg1 := ifT hbg1 hg1
   replace hg1 := oi hg1; subst hg1
   try simp -dsimp -implicitDefEqProofs (maxDischargeDepth := 6) [hbg1]
   exact hK _ _ ⟨rfl, rfl⟩
 rintro a σ ⟨rfl, rfl⟩
 replace H := oi H; subst H; exact AWP_ret ⟨_, rfl, 4, by simp [encL_nil]⟩
theorem c93 {p0 : Int} {r : Int} (H : i_formatOf p0 = some r) : APure Tryd.prog G 93 [.int .i64 p0] (.int .u8 r) := by
 refine APure_fn (fun N0 => ?_) (by simp)
 refine ACalls_fn tok Tryd.func93 (by kernel_rfl) rfl Tryd.ntmps93 Tryd.results93 rfl ?_
 simp only [argsA, Nat.reduceAdd, hp_next]
 unfold i_formatOf at H
 refine S0 tok [] [0] ?_
 refine AWP_sq [] fun K1 hK1 => ?_
 refine AWP_block (AWP_thenB ?_)
 obtain ⟨g1, hg1, H⟩ := bindE H
 refine AWP_sr tok [] [0, 3] (fun a σ => a = [(0, .int .i64 p0), (3, .bool g1)] ∧ σ = hp E0 [] (N0 + 8)) (fun K hK => ?_) ?_
 ·
  simp -dsimp -implicitDefEqProofs (maxDischargeDepth := 6)
  cases hbg1 : ige p0 1
  ·
   replace hg1 := ifF hbg1 hg1
   replace hg1 := oi hg1; subst hg1
   try simp -dsimp -implicitDefEqProofs (maxDischargeDepth := 6) [hbg1]
   exact hK _ _ ⟨rfl, rfl⟩
  ·
   replace hg1 := ifT hbg1 hg1
   replace hg1 := oi hg1; subst hg1
   try simp -dsimp -implicitDefEqProofs (maxDischargeDepth := 6) [hbg1]
   exact hK _ _ ⟨rfl, rfl⟩
 rintro a σ ⟨rfl, rfl⟩
 refine AWP_cond g1 rfl (fun C1 => ?_) (fun C1 => ?_)
 ·
  replace H := ifT C1 H
  refine S0 tok [] [2] ?_
  replace H := oi H; subst H; exact AWP_ret ⟨_, rfl, 4, by simp [encL_nil]⟩
 ·
  replace H := ifF C1 H
  obtain ⟨g2, hg2, H⟩ := bindE H
  refine AWP_sr tok [] [0, 10] (fun a σ => a = [(0, .int .i64 p0), (10, .bool g2)] ∧ σ = hp E0 [] (N0 + 15)) (fun K hK => ?_) ?_
  ·
   simp -dsimp -implicitDefEqProofs (maxDischargeDepth := 6)
   cases hbg2 : ige p0 12
   ·
    replace hg2 := ifF hbg2 hg2
    replace hg2 := oi hg2; subst hg2
    try simp -dsimp -implicitDefEqProofs (maxDischargeDepth := 6) [hbg2]
    exact hK _ _ ⟨rfl, rfl⟩
   ·
    replace hg2 := ifT hbg2 hg2
    replace hg2 := oi hg2; subst hg2
    try simp -dsimp -implicitDefEqProofs (maxDischargeDepth := 6) [hbg2]
    exact hK _ _ ⟨rfl, rfl⟩
  rintro a σ ⟨rfl, rfl⟩
  refine AWP_cond g2 rfl (fun C2 => ?_) (fun C2 => ?_)
  ·
   replace H := ifT C2 H
   refine S0 tok [] [2] ?_
   replace H := oi H; subst H; exact AWP_ret ⟨_, rfl, 4, by simp [encL_nil]⟩
  ·
   replace H := ifF C2 H
   refine S0 tok [] [0, 17] ?_
   refine AWP_cond (ieq p0 16) rfl (fun C3 => ?_) (fun C3 => ?_)
   ·
    replace H := ifT C3 H
    refine S0 tok [] [2] ?_
    replace H := oi H; subst H; exact AWP_ret ⟨_, rfl, 4, by simp [encL_nil]⟩
   ·
    replace H := ifF C3 H
    obtain ⟨g3, hg3, H⟩ := bindE H
    refine AWP_sr tok [] [0, 20] (fun a σ => a = [(0, .int .i64 p0), (20, .bool g3)] ∧ σ = hp E0 [] (N0 + 25)) (fun K hK => ?_) ?_
    ·
     simp -dsimp -implicitDefEqProofs (maxDischargeDepth := 6)
     cases hbg3 : ieq p0 17
     ·
      replace hg3 := ifF hbg3 hg3
      replace hg3 := oi hg3; subst hg3
      try simp -dsimp -implicitDefEqProofs (maxDischargeDepth := 6) [hbg3]
      exact hK _ _ ⟨rfl, rfl⟩
     ·
      replace hg3 := ifT hbg3 hg3
      replace hg3 := oi hg3; subst hg3
      try simp -dsimp -implicitDefEqProofs (maxDischargeDepth := 6) [hbg3]
      exact hK _ _ ⟨rfl, rfl⟩
    rintro a σ ⟨rfl, rfl⟩
    refine AWP_cond g3 rfl (fun C4 => ?_) (fun C4 => ?_)
    ·
     replace H := ifT C4 H
     refine S0 tok [] [2] ?_
     replace H := oi H; subst H; exact AWP_ret ⟨_, rfl, 4, by simp [encL_nil]⟩
    ·
     replace H := ifF C4 H
     refine S0 tok [] [0, 27] ?_
     refine AWP_cond (ieq p0 19) rfl (fun C5 => ?_) (fun C5 => ?_)
     ·
      replace H := ifT C5 H
      refine S0 tok [] [2] ?_
      replace H := oi H; subst H; exact AWP_ret ⟨_, rfl, 4, by simp [encL_nil]⟩
     ·
      replace H := ifF C5 H
      refine S0 tok [] [0, 30] ?_
      refine AWP_cond (ieq p0 20) rfl (fun C6 => ?_) (fun C6 => ?_)
      ·
       replace H := ifT C6 H
       refine S0 tok [] [2] ?_
       replace H := oi H; subst H; exact AWP_ret ⟨_, rfl, 4, by simp [encL_nil]⟩
      ·
       replace H := ifF C6 H
       refine S0 tok [] [33] ?_
       refine AWP_cond (ieq p0 21) rfl (fun C7 => ?_) (fun C7 => ?_)
       ·
        replace H := ifT C7 H
        refine S0 tok [] [2] ?_
        replace H := oi H; subst H; exact AWP_ret ⟨_, rfl, 4, by simp [encL_nil]⟩
       ·
        replace H := ifF C7 H
        refine AWP_skip (Jn hK1 ?_)
        refine S0 tok [] [2] ?_
        replace H := oi H; subst H; exact AWP_ret ⟨_, rfl, 4, by simp [encL_nil]⟩
theorem c89 {p0 : gInstr} {r : Bool} (H : i_InstrValid p0 = some r) : APure Tryd.prog G 89 [.agg [.int .i64 p0.Op, .int .i64 p0.Rd, .int .i64 p0.Rs, .int .i64 p0.Rt, .int .i64 p0.Imm]] (.bool r) := by
 refine APure_fn (fun N0 => ?_) (by simp)
 refine ACalls_fn tok Tryd.func89 (by kernel_rfl) rfl Tryd.ntmps89 Tryd.results89 rfl ?_
 simp only [argsA, Nat.reduceAdd, hp_next]
 unfold i_InstrValid at H
 refine S0 tok [0] [1] ?_
 obtain ⟨r1, hr1, H⟩ := bindE H
 obtain ⟨r2, hr2, H⟩ := bindE H
 obtain ⟨r3, hr3, H⟩ := bindE H
 refine Sd tok tokM [] [] [0, 1, 2, 3, 4, 5, 6, 7, 8, 9, 10, 11] [1, 3, 4, 5] (by
  intro K k
  simp only [pickL, nthO_succ, nthO_zero]
  repeat first | simp -dsimp -implicitDefEqProofs (maxDischargeDepth := 6) | refine Pc.mk (c111 hr1) ?_ | refine Pc.mk (c111 hr2) ?_ | refine Pc.mk (c111 hr3) ?_
  exact k) ?_
 obtain ⟨g4, hg4, H⟩ := bindE H
 refine AWP_sr tok [] [1, 3, 4, 5, 6] (fun a σ => a = [(1, .fptr [.int .i64 p0.Op, .int .i64 p0.Rd, .int .i64 p0.Rs, .int .i64 p0.Rt, .int .i64 p0.Imm] 0), (3, .bool r1), (4, .bool r2), (5, .bool r3), (6, .bool g4)] ∧ σ = hp E0 [] (N0 + 23)) (fun K hK => ?_) ?_
 ·
  simp -dsimp -implicitDefEqProofs (maxDischargeDepth := 6)
  cases hbg4 : ige p0.Imm (-2048)
  ·
   replace hg4 := ifF hbg4 hg4
   replace hg4 := oi hg4; subst hg4
   try simp -dsimp -implicitDefEqProofs (maxDischargeDepth := 6) [hbg4]
   exact hK _ _ ⟨rfl, rfl⟩
  ·
   replace hg4 := ifT hbg4 hg4
   replace hg4 := oi hg4; subst hg4
   try simp -dsimp -implicitDefEqProofs (maxDischargeDepth := 6) [hbg4]
   exact hK _ _ ⟨rfl, rfl⟩
 rintro a σ ⟨rfl, rfl⟩
 refine AWP_sq [] fun K1 hK1 => ?_
 obtain ⟨r5, hr5, H⟩ := bindE H
 refine Sx tok [] [1, 3, 4, 5, 6, 26] (by intro K k; (repeat first | simp -dsimp -implicitDefEqProofs (maxDischargeDepth := 6) | refine (c93 hr5).app ?_); exact k) ?_
 refine AWP_block (AWP_thenB ?_)
 refine S0 tok [] [1, 3, 4, 5, 6, 26, 27] ?_
 refine AWP_cond (ieq r5 82) rfl (fun C1 => ?_) (fun C1 => ?_)
 ·
  replace H := ifT C1 H
  obtain ⟨g6, hg6, H⟩ := bindE H
  obtain ⟨g7, hg7, H⟩ := bindE H
  obtain ⟨g8, hg8, H⟩ := bindE H
  refine AWP_sr tok [] [2] (fun a σ => a = [(2, .bool g8)] ∧ σ = hp E0 [] (N0 + 41)) (fun K hK => ?_) ?_
  ·
   simp -dsimp -implicitDefEqProofs (maxDischargeDepth := 6)
   cases hbg6 : r1
   ·
    replace hg6 := ifF hbg6 hg6
    replace hg6 := oi hg6; subst hg6
    try simp -dsimp -implicitDefEqProofs (maxDischargeDepth := 6) [hbg6]
    replace hg7 := ifF rfl hg7
    replace hg7 := oi hg7; subst hg7
    try simp -dsimp -implicitDefEqProofs (maxDischargeDepth := 6) [hbg6]
    replace hg8 := ifF rfl hg8
    replace hg8 := oi hg8; subst hg8
    try simp -dsimp -implicitDefEqProofs (maxDischargeDepth := 6) [hbg6]
    exact hK _ _ ⟨rfl, rfl⟩
   ·
    replace hg6 := ifT hbg6 hg6
    replace hg6 := oi hg6; subst hg6
    try simp -dsimp -implicitDefEqProofs (maxDischargeDepth := 6) [hbg6]
    cases hbg7 : r2
    ·
     replace hg7 := ifF hbg7 hg7
     replace hg7 := oi hg7; subst hg7
     try simp -dsimp -implicitDefEqProofs (maxDischargeDepth := 6) [hbg6, hbg7]
     replace hg8 := ifF rfl hg8
     replace hg8 := oi hg8; subst hg8
     try simp -dsimp -implicitDefEqProofs (maxDischargeDepth := 6) [hbg6, hbg7]
     exact hK _ _ ⟨rfl, rfl⟩
    ·
     replace hg7 := ifT hbg7 hg7
     replace hg7 := oi hg7; subst hg7
     try simp -dsimp -implicitDefEqProofs (maxDischargeDepth := 6) [hbg6, hbg7]
     cases hbg8 : r3
     ·
      replace hg8 := ifF hbg8 hg8
      replace hg8 := oi hg8; subst hg8
      try simp -dsimp -implicitDefEqProofs (maxDischargeDepth := 6) [hbg6, hbg7, hbg8]
      exact hK _ _ ⟨rfl, rfl⟩
     ·
      replace hg8 := ifT hbg8 hg8
      replace hg8 := oi hg8; subst hg8
      try simp -dsimp -implicitDefEqProofs (maxDischargeDepth := 6) [hbg6, hbg7, hbg8]
      exact hK _ _ ⟨rfl, rfl⟩
  rintro a σ ⟨rfl, rfl⟩
  replace H := oi H; subst H; exact AWP_ret ⟨_, rfl, 4, by simp [encL_nil]⟩
 ·
  replace H := ifF C1 H
  refine S0 tok [] [1, 3, 4, 5, 6, 26, 41] ?_
  refine AWP_cond (ieq r5 73) rfl (fun C2 => ?_) (fun C2 => ?_)
  ·
   replace H := ifT C2 H
   obtain ⟨g9, hg9, H⟩ := bindE H
   obtain ⟨g10, hg10, H⟩ := bindE H
   obtain ⟨g11, hg11, H⟩ := bindE H
   refine AWP_sr tok [] [2] (fun a σ => a = [(2, .bool g11)] ∧ σ = hp E0 [] (N0 + 43)) (fun K hK => ?_) ?_
   ·
    simp -dsimp -implicitDefEqProofs (maxDischargeDepth := 6)
    cases hbg9 : r1
    ·
     replace hg9 := ifF hbg9 hg9
     replace hg9 := oi hg9; subst hg9
     try simp -dsimp -implicitDefEqProofs (maxDischargeDepth := 6) [hbg9]
     replace hg10 := ifF rfl hg10
     replace hg10 := oi hg10; subst hg10
     try simp -dsimp -implicitDefEqProofs (maxDischargeDepth := 6) [hbg9]
     replace hg11 := ifF rfl hg11
     replace hg11 := oi hg11; subst hg11
     try simp -dsimp -implicitDefEqProofs (maxDischargeDepth := 6) [hbg9]
     exact hK _ _ ⟨rfl, rfl⟩
    ·
     replace hg9 := ifT hbg9 hg9
     replace hg9 := oi hg9; subst hg9
     try simp -dsimp -implicitDefEqProofs (maxDischargeDepth := 6) [hbg9]
     cases hbg10 : r2
     ·
      replace hg10 := ifF hbg10 hg10
      replace hg10 := oi hg10; subst hg10
      try simp -dsimp -implicitDefEqProofs (maxDischargeDepth := 6) [hbg9, hbg10]
      replace hg11 := ifF rfl hg11
      replace hg11 := oi hg11; subst hg11
      try simp -dsimp -implicitDefEqProofs (maxDischargeDepth := 6) [hbg9, hbg10]
      exact hK _ _ ⟨rfl, rfl⟩
     ·
      replace hg10 := ifT hbg10 hg10
      replace hg10 := oi hg10; subst hg10
      try simp -dsimp -implicitDefEqProofs (maxDischargeDepth := 6) [hbg9, hbg10]
      cases hbg11 : (ieq p0.Rt 0)
      ·
       replace hg11 := ifF hbg11 hg11
       replace hg11 := oi hg11; subst hg11
       try simp -dsimp -implicitDefEqProofs (maxDischargeDepth := 6) [hbg9, hbg10, hbg11]
       exact hK _ _ ⟨rfl, rfl⟩
      ·
       replace hg11 := ifT hbg11 hg11
       replace hg11 := oi hg11; subst hg11
       try simp -dsimp -implicitDefEqProofs (maxDischargeDepth := 6) [hbg9, hbg10, hbg11]
       exact hK _ _ ⟨rfl, rfl⟩
   rintro a σ ⟨rfl, rfl⟩
   replace H := oi H; subst H; exact AWP_ret ⟨_, rfl, 4, by simp [encL_nil]⟩
  ·
   replace H := ifF C2 H
   refine S0 tok [] [1, 3, 4, 5, 6, 26, 55] ?_
   refine AWP_cond (ieq r5 83) rfl (fun C3 => ?_) (fun C3 => ?_)
   ·
    replace H := ifT C3 H
    obtain ⟨g12, hg12, H⟩ := bindE H
    obtain ⟨g13, hg13, H⟩ := bindE H
    obtain ⟨g14, hg14, H⟩ := bindE H
    refine AWP_sr tok [] [2] (fun a σ => a = [(2, .bool g14)] ∧ σ = hp E0 [] (N0 + 45)) (fun K hK => ?_) ?_
    ·
     simp -dsimp -implicitDefEqProofs (maxDischargeDepth := 6)
     cases hbg12 : ieq p0.Rd 0
     ·
      replace hg12 := ifF hbg12 hg12
      replace hg12 := oi hg12; subst hg12
      try simp -dsimp -implicitDefEqProofs (maxDischargeDepth := 6) [hbg12]
      replace hg13 := ifF rfl hg13
      replace hg13 := oi hg13; subst hg13
      try simp -dsimp -implicitDefEqProofs (maxDischargeDepth := 6) [hbg12]
      replace hg14 := ifF rfl hg14
      replace hg14 := oi hg14; subst hg14
      try simp -dsimp -implicitDefEqProofs (maxDischargeDepth := 6) [hbg12]
      exact hK _ _ ⟨rfl, rfl⟩
     ·
      replace hg12 := ifT hbg12 hg12
      replace hg12 := oi hg12; subst hg12
      try simp -dsimp -implicitDefEqProofs (maxDischargeDepth := 6) [hbg12]
      cases hbg13 : r2
      ·
       replace hg13 := ifF hbg13 hg13
       replace hg13 := oi hg13; subst hg13
       try simp -dsimp -implicitDefEqProofs (maxDischargeDepth := 6) [hbg12, hbg13]
       replace hg14 := ifF rfl hg14
       replace hg14 := oi hg14; subst hg14
       try simp -dsimp -implicitDefEqProofs (maxDischargeDepth := 6) [hbg12, hbg13]
       exact hK _ _ ⟨rfl, rfl⟩
      ·
       replace hg13 := ifT hbg13 hg13
       replace hg13 := oi hg13; subst hg13
       try simp -dsimp -implicitDefEqProofs (maxDischargeDepth := 6) [hbg12, hbg13]
       cases hbg14 : r3
       ·
        replace hg14 := ifF hbg14 hg14
        replace hg14 := oi hg14; subst hg14
        try simp -dsimp -implicitDefEqProofs (maxDischargeDepth := 6) [hbg12, hbg13, hbg14]
        exact hK _ _ ⟨rfl, rfl⟩
       ·
        replace hg14 := ifT hbg14 hg14
        replace hg14 := oi hg14; subst hg14
        try simp -dsimp -implicitDefEqProofs (maxDischargeDepth := 6) [hbg12, hbg13, hbg14]
        exact hK _ _ ⟨rfl, rfl⟩
    rintro a σ ⟨rfl, rfl⟩
    replace H := oi H; subst H; exact AWP_ret ⟨_, rfl, 4, by simp [encL_nil]⟩
   ·
    replace H := ifF C3 H
    refine S0 tok [] [1, 3, 4, 5, 26, 69] ?_
    refine AWP_cond (ieq r5 66) rfl (fun C4 => ?_) (fun C4 => ?_)
    ·
     replace H := ifT C4 H
     obtain ⟨g15, hg15, H⟩ := bindE H
     obtain ⟨g16, hg16, H⟩ := bindE H
     obtain ⟨g17, hg17, H⟩ := bindE H
     obtain ⟨g18, hg18, H⟩ := bindE H
     obtain ⟨g20, hg20, H⟩ := bindE H
     refine AWP_sr tok [] [2] (fun a σ => a = [(2, .bool g20)] ∧ σ = hp E0 [] (N0 + 60)) (fun K hK => ?_) ?_
     ·
      simp -dsimp -implicitDefEqProofs (maxDischargeDepth := 6)
      cases hbg15 : ieq p0.Rd 0
      ·
       replace hg15 := ifF hbg15 hg15
       replace hg15 := oi hg15; subst hg15
       try simp -dsimp -implicitDefEqProofs (maxDischargeDepth := 6) [hbg15]
       replace hg16 := ifF rfl hg16
       replace hg16 := oi hg16; subst hg16
       try simp -dsimp -implicitDefEqProofs (maxDischargeDepth := 6) [hbg15]
       replace hg17 := ifF rfl hg17
       replace hg17 := oi hg17; subst hg17
       try simp -dsimp -implicitDefEqProofs (maxDischargeDepth := 6) [hbg15]
       replace hg18 := ifF rfl hg18
       replace hg18 := oi hg18; subst hg18
       try simp -dsimp -implicitDefEqProofs (maxDischargeDepth := 6) [hbg15]
       replace hg20 := ifF rfl hg20
       replace hg20 := oi hg20; subst hg20
       try simp -dsimp -implicitDefEqProofs (maxDischargeDepth := 6) [hbg15]
       exact hK _ _ ⟨rfl, rfl⟩
      ·
       replace hg15 := ifT hbg15 hg15
       replace hg15 := oi hg15; subst hg15
       try simp -dsimp -implicitDefEqProofs (maxDischargeDepth := 6) [hbg15]
       cases hbg16 : r2
       ·
        replace hg16 := ifF hbg16 hg16
        replace hg16 := oi hg16; subst hg16
        try simp -dsimp -implicitDefEqProofs (maxDischargeDepth := 6) [hbg15, hbg16]
        replace hg17 := ifF rfl hg17
        replace hg17 := oi hg17; subst hg17
        try simp -dsimp -implicitDefEqProofs (maxDischargeDepth := 6) [hbg15, hbg16]
        replace hg18 := ifF rfl hg18
        replace hg18 := oi hg18; subst hg18
        try simp -dsimp -implicitDefEqProofs (maxDischargeDepth := 6) [hbg15, hbg16]
        replace hg20 := ifF rfl hg20
        replace hg20 := oi hg20; subst hg20
        try simp -dsimp -implicitDefEqProofs (maxDischargeDepth := 6) [hbg15, hbg16]
        exact hK _ _ ⟨rfl, rfl⟩
       ·
        replace hg16 := ifT hbg16 hg16
        replace hg16 := oi hg16; subst hg16
        try simp -dsimp -implicitDefEqProofs (maxDischargeDepth := 6) [hbg15, hbg16]
        cases hbg17 : r3
        ·
         replace hg17 := ifF hbg17 hg17
         replace hg17 := oi hg17; subst hg17
         try simp -dsimp -implicitDefEqProofs (maxDischargeDepth := 6) [hbg15, hbg16, hbg17]
         replace hg18 := ifF rfl hg18
         replace hg18 := oi hg18; subst hg18
         try simp -dsimp -implicitDefEqProofs (maxDischargeDepth := 6) [hbg15, hbg16, hbg17]
         replace hg20 := ifF rfl hg20
         replace hg20 := oi hg20; subst hg20
         try simp -dsimp -implicitDefEqProofs (maxDischargeDepth := 6) [hbg15, hbg16, hbg17]
         exact hK _ _ ⟨rfl, rfl⟩
        ·
         replace hg17 := ifT hbg17 hg17
         replace hg17 := oi hg17; subst hg17
         try simp -dsimp -implicitDefEqProofs (maxDischargeDepth := 6) [hbg15, hbg16, hbg17]
         cases hbg18 : (ige p0.Imm (-4096))
         ·
          replace hg18 := ifF hbg18 hg18
          replace hg18 := oi hg18; subst hg18
          try simp -dsimp -implicitDefEqProofs (maxDischargeDepth := 6) [hbg15, hbg16, hbg17, hbg18]
          replace hg20 := ifF rfl hg20
          replace hg20 := oi hg20; subst hg20
          try simp -dsimp -implicitDefEqProofs (maxDischargeDepth := 6) [hbg15, hbg16, hbg17, hbg18]
          exact hK _ _ ⟨rfl, rfl⟩
         ·
          replace hg18 := ifT hbg18 hg18
          replace hg18 := oi hg18; subst hg18
          try simp -dsimp -implicitDefEqProofs (maxDischargeDepth := 6) [hbg15, hbg16, hbg17, hbg18]
          cases hbg20 : (ile p0.Imm 4094)
          ·
           replace hg20 := ifF hbg20 hg20
           replace hg20 := oi hg20; subst hg20
           try simp -dsimp -implicitDefEqProofs (maxDischargeDepth := 6) [hbg15, hbg16, hbg17, hbg18, hbg20]
           exact hK _ _ ⟨rfl, rfl⟩
          ·
           replace hg20 := ifT hbg20 hg20
           obtain ⟨v19, hv19, hg20⟩ := bindE hg20
           replace hg20 := oi hg20; subst hg20
           try simp -dsimp -implicitDefEqProofs (maxDischargeDepth := 6) [hbg15, hbg16, hbg17, hbg18, hbg20, hv19]
           exact hK _ _ ⟨rfl, rfl⟩
     rintro a σ ⟨rfl, rfl⟩
     replace H := oi H; subst H; exact AWP_ret ⟨_, rfl, 4, by simp [encL_nil]⟩
    ·
     replace H := ifF C4 H
     refine S0 tok [] [1, 3, 26, 96] ?_
     refine AWP_cond (ieq r5 85) rfl (fun C5 => ?_) (fun C5 => ?_)
     ·
      replace H := ifT C5 H
      obtain ⟨g21, hg21, H⟩ := bindE H
      obtain ⟨g22, hg22, H⟩ := bindE H
      obtain ⟨g23, hg23, H⟩ := bindE H
      obtain ⟨g24, hg24, H⟩ := bindE H
      refine AWP_sr tok [] [2] (fun a σ => a = [(2, .bool g24)] ∧ σ = hp E0 [] (N0 + 58)) (fun K hK => ?_) ?_
      ·
       simp -dsimp -implicitDefEqProofs (maxDischargeDepth := 6)
       cases hbg21 : r1
       ·
        replace hg21 := ifF hbg21 hg21
        replace hg21 := oi hg21; subst hg21
        try simp -dsimp -implicitDefEqProofs (maxDischargeDepth := 6) [hbg21]
        replace hg22 := ifF rfl hg22
        replace hg22 := oi hg22; subst hg22
        try simp -dsimp -implicitDefEqProofs (maxDischargeDepth := 6) [hbg21]
        replace hg23 := ifF rfl hg23
        replace hg23 := oi hg23; subst hg23
        try simp -dsimp -implicitDefEqProofs (maxDischargeDepth := 6) [hbg21]
        replace hg24 := ifF rfl hg24
        replace hg24 := oi hg24; subst hg24
        try simp -dsimp -implicitDefEqProofs (maxDischargeDepth := 6) [hbg21]
        exact hK _ _ ⟨rfl, rfl⟩
       ·
        replace hg21 := ifT hbg21 hg21
        replace hg21 := oi hg21; subst hg21
        try simp -dsimp -implicitDefEqProofs (maxDischargeDepth := 6) [hbg21]
        cases hbg22 : (ieq p0.Rs 0)
        ·
         replace hg22 := ifF hbg22 hg22
         replace hg22 := oi hg22; subst hg22
         try simp -dsimp -implicitDefEqProofs (maxDischargeDepth := 6) [hbg21, hbg22]
         replace hg23 := ifF rfl hg23
         replace hg23 := oi hg23; subst hg23
         try simp -dsimp -implicitDefEqProofs (maxDischargeDepth := 6) [hbg21, hbg22]
         replace hg24 := ifF rfl hg24
         replace hg24 := oi hg24; subst hg24
         try simp -dsimp -implicitDefEqProofs (maxDischargeDepth := 6) [hbg21, hbg22]
         exact hK _ _ ⟨rfl, rfl⟩
        ·
         replace hg22 := ifT hbg22 hg22
         replace hg22 := oi hg22; subst hg22
         try simp -dsimp -implicitDefEqProofs (maxDischargeDepth := 6) [hbg21, hbg22]
         cases hbg23 : (ieq p0.Rt 0)
         ·
          replace hg23 := ifF hbg23 hg23
          replace hg23 := oi hg23; subst hg23
          try simp -dsimp -implicitDefEqProofs (maxDischargeDepth := 6) [hbg21, hbg22, hbg23]
          replace hg24 := ifF rfl hg24
          replace hg24 := oi hg24; subst hg24
          try simp -dsimp -implicitDefEqProofs (maxDischargeDepth := 6) [hbg21, hbg22, hbg23]
          exact hK _ _ ⟨rfl, rfl⟩
         ·
          replace hg23 := ifT hbg23 hg23
          replace hg23 := oi hg23; subst hg23
          try simp -dsimp -implicitDefEqProofs (maxDischargeDepth := 6) [hbg21, hbg22, hbg23]
          cases hbg24 : (ige p0.Imm 0)
          ·
           replace hg24 := ifF hbg24 hg24
           replace hg24 := oi hg24; subst hg24
           try simp -dsimp -implicitDefEqProofs (maxDischargeDepth := 6) [hbg21, hbg22, hbg23, hbg24]
           exact hK _ _ ⟨rfl, rfl⟩
          ·
           replace hg24 := ifT hbg24 hg24
           replace hg24 := oi hg24; subst hg24
           try simp -dsimp -implicitDefEqProofs (maxDischargeDepth := 6) [hbg21, hbg22, hbg23, hbg24]
           exact hK _ _ ⟨rfl, rfl⟩
      rintro a σ ⟨rfl, rfl⟩
      replace H := oi H; subst H; exact AWP_ret ⟨_, rfl, 4, by simp [encL_nil]⟩
     ·
      replace H := ifF C5 H
      refine S0 tok [] [1, 3, 26, 119] ?_
      refine AWP_cond (ieq r5 74) rfl (fun C6 => ?_) (fun C6 => ?_)
      ·
       replace H := ifT C6 H
       obtain ⟨g25, hg25, H⟩ := bindE H
       obtain ⟨g26, hg26, H⟩ := bindE H
       obtain ⟨g27, hg27, H⟩ := bindE H
       obtain ⟨g28, hg28, H⟩ := bindE H
       obtain ⟨g30, hg30, H⟩ := bindE H
       refine AWP_sr tok [] [2] (fun a σ => a = [(2, .bool g30)] ∧ σ = hp E0 [] (N0 + 66)) (fun K hK => ?_) ?_
       ·
        simp -dsimp -implicitDefEqProofs (maxDischargeDepth := 6)
        cases hbg25 : r1
        ·
         replace hg25 := ifF hbg25 hg25
         replace hg25 := oi hg25; subst hg25
         try simp -dsimp -implicitDefEqProofs (maxDischargeDepth := 6) [hbg25]
         replace hg26 := ifF rfl hg26
         replace hg26 := oi hg26; subst hg26
         try simp -dsimp -implicitDefEqProofs (maxDischargeDepth := 6) [hbg25]
         replace hg27 := ifF rfl hg27
         replace hg27 := oi hg27; subst hg27
         try simp -dsimp -implicitDefEqProofs (maxDischargeDepth := 6) [hbg25]
         replace hg28 := ifF rfl hg28
         replace hg28 := oi hg28; subst hg28
         try simp -dsimp -implicitDefEqProofs (maxDischargeDepth := 6) [hbg25]
         replace hg30 := ifF rfl hg30
         replace hg30 := oi hg30; subst hg30
         try simp -dsimp -implicitDefEqProofs (maxDischargeDepth := 6) [hbg25]
         exact hK _ _ ⟨rfl, rfl⟩
        ·
         replace hg25 := ifT hbg25 hg25
         replace hg25 := oi hg25; subst hg25
         try simp -dsimp -implicitDefEqProofs (maxDischargeDepth := 6) [hbg25]
         cases hbg26 : (ieq p0.Rs 0)
         ·
          replace hg26 := ifF hbg26 hg26
          replace hg26 := oi hg26; subst hg26
          try simp -dsimp -implicitDefEqProofs (maxDischargeDepth := 6) [hbg25, hbg26]
          replace hg27 := ifF rfl hg27
          replace hg27 := oi hg27; subst hg27
          try simp -dsimp -implicitDefEqProofs (maxDischargeDepth := 6) [hbg25, hbg26]
          replace hg28 := ifF rfl hg28
          replace hg28 := oi hg28; subst hg28
          try simp -dsimp -implicitDefEqProofs (maxDischargeDepth := 6) [hbg25, hbg26]
          replace hg30 := ifF rfl hg30
          replace hg30 := oi hg30; subst hg30
          try simp -dsimp -implicitDefEqProofs (maxDischargeDepth := 6) [hbg25, hbg26]
          exact hK _ _ ⟨rfl, rfl⟩
         ·
          replace hg26 := ifT hbg26 hg26
          replace hg26 := oi hg26; subst hg26
          try simp -dsimp -implicitDefEqProofs (maxDischargeDepth := 6) [hbg25, hbg26]
          cases hbg27 : (ieq p0.Rt 0)
          ·
           replace hg27 := ifF hbg27 hg27
           replace hg27 := oi hg27; subst hg27
           try simp -dsimp -implicitDefEqProofs (maxDischargeDepth := 6) [hbg25, hbg26, hbg27]
           replace hg28 := ifF rfl hg28
           replace hg28 := oi hg28; subst hg28
           try simp -dsimp -implicitDefEqProofs (maxDischargeDepth := 6) [hbg25, hbg26, hbg27]
           replace hg30 := ifF rfl hg30
           replace hg30 := oi hg30; subst hg30
           try simp -dsimp -implicitDefEqProofs (maxDischargeDepth := 6) [hbg25, hbg26, hbg27]
           exact hK _ _ ⟨rfl, rfl⟩
          ·
           replace hg27 := ifT hbg27 hg27
           replace hg27 := oi hg27; subst hg27
           try simp -dsimp -implicitDefEqProofs (maxDischargeDepth := 6) [hbg25, hbg26, hbg27]
           cases hbg28 : (ige p0.Imm (-1048576))
           ·
            replace hg28 := ifF hbg28 hg28
            replace hg28 := oi hg28; subst hg28
            try simp -dsimp -implicitDefEqProofs (maxDischargeDepth := 6) [hbg25, hbg26, hbg27, hbg28]
            replace hg30 := ifF rfl hg30
            replace hg30 := oi hg30; subst hg30
            try simp -dsimp -implicitDefEqProofs (maxDischargeDepth := 6) [hbg25, hbg26, hbg27, hbg28]
            exact hK _ _ ⟨rfl, rfl⟩
           ·
            replace hg28 := ifT hbg28 hg28
            replace hg28 := oi hg28; subst hg28
            try simp -dsimp -implicitDefEqProofs (maxDischargeDepth := 6) [hbg25, hbg26, hbg27, hbg28]
            cases hbg30 : (ile p0.Imm 1048574)
            ·
             replace hg30 := ifF hbg30 hg30
             replace hg30 := oi hg30; subst hg30
             try simp -dsimp -implicitDefEqProofs (maxDischargeDepth := 6) [hbg25, hbg26, hbg27, hbg28, hbg30]
             exact hK _ _ ⟨rfl, rfl⟩
            ·
             replace hg30 := ifT hbg30 hg30
             obtain ⟨v29, hv29, hg30⟩ := bindE hg30
             replace hg30 := oi hg30; subst hg30
             try simp -dsimp -implicitDefEqProofs (maxDischargeDepth := 6) [hbg25, hbg26, hbg27, hbg28, hbg30, hv29]
             exact hK _ _ ⟨rfl, rfl⟩
       rintro a σ ⟨rfl, rfl⟩
       replace H := oi H; subst H; exact AWP_ret ⟨_, rfl, 4, by simp [encL_nil]⟩
      ·
       replace H := ifF C6 H
       refine S0 tok [] [1, 148] ?_
       refine AWP_cond (ieq r5 69) rfl (fun C7 => ?_) (fun C7 => ?_)
       ·
        replace H := ifT C7 H
        refine S0 tok [] [2] ?_
        replace H := oi H; subst H; exact AWP_ret ⟨_, rfl, 4, by simp [encL_nil]⟩
       ·
        replace H := ifF C7 H
        refine AWP_skip (Jn hK1 ?_)
        refine S0 tok [] [2] ?_
        replace H := oi H; subst H; exact AWP_ret ⟨_, rfl, 4, by simp [encL_nil]⟩
theorem c91 {p0 : Int} {p1 : Int} {p2 : Int} {pf0 : Int} {r : Int} (H : i_InstrEncode_1 p0 p1 p2 pf0 = some r) : APure Tryd.prog G 91 [.int .i64 p0, .int .i64 p1, .int .i64 p2, .fptr [.int .i64 pf0] 0] (.int .i64 r) := by
 refine APure_fn (fun N0 => ?_) (by simp)
 refine ACalls_fn tok Tryd.func91 (by kernel_rfl) rfl Tryd.ntmps91 Tryd.results91 rfl ?_
 simp only [argsA, Nat.reduceAdd, hp_next]
 unfold i_InstrEncode_1 at H
 refine S0 tok [] [0, 1, 2, 3] ?_
 obtain ⟨r1, hr1, H⟩ := bindE H
 obtain ⟨v2, hv2, H⟩ := bindE H
 refine Sx tok [] [7] (by intro K k; (repeat first | simp -dsimp -implicitDefEqProofs (maxDischargeDepth := 6) [hv2] | refine (c92 hr1).app ?_); exact k) ?_
 replace H := oi H; subst H; exact AWP_ret ⟨_, rfl, 4, by simp [encL_nil]⟩
theorem c50 {p0 : gInstr} {r : Int × Bool} (H : i_InstrEncode p0 = some r) : APure Tryd.prog G 50 [.agg [.int .i64 p0.Op, .int .i64 p0.Rd, .int .i64 p0.Rs, .int .i64 p0.Rt, .int .i64 p0.Imm]] (.tup [.int .i64 r.1, .bool r.2]) := by
 refine APure_fn (fun N0 => ?_) (by simp)
 refine ACalls_fn tok Tryd.func50 (by kernel_rfl) rfl Tryd.ntmps50 Tryd.results50 rfl ?_
 simp only [argsA, Nat.reduceAdd, hp_next]
 unfold i_InstrEncode at H
 refine S0 tok [0] [1] ?_
 refine AWP_sq [1] fun K1 hK1 => ?_
 obtain ⟨r1, hr1, H⟩ := bindE H
 refine Sx tok [] [1, 10] (by intro K k; (repeat first | simp -dsimp -implicitDefEqProofs (maxDischargeDepth := 6) | refine (c89 hr1).app ?_); exact k) ?_
 refine AWP_cond (bnot r1) rfl (fun C1 => ?_) (fun C1 => ?_)
 ·
  replace H := ifT C1 H
  refine S0 tok [] [2, 3] ?_
  replace H := oi H; subst H; exact AWP_ret ⟨_, rfl, 4, by simp [encL_nil]⟩
 ·
  replace H := ifF C1 H
  refine AWP_skip (Jn hK1 ?_)
  obtain ⟨v2, hv2, H⟩ := bindE H
  refine Sx tok [] [1, 4] (by intro K k; simp -dsimp -implicitDefEqProofs (maxDischargeDepth := 6) [gx119 hv2]; exact k) ?_
  obtain ⟨r3, hr3, H⟩ := bindE H
  refine Sx tok [] [1, 4, 5] (by intro K k; (repeat first | simp -dsimp -implicitDefEqProofs (maxDischargeDepth := 6) | refine (c90 hr3).app ?_); exact k) ?_
  refine S0 tok [] [1, 4, 6] ?_
  obtain ⟨v4, hv4, H⟩ := bindE H
  obtain ⟨v5, hv5, H⟩ := bindE H
  obtain ⟨v6, hv6, H⟩ := bindE H
  refine Sx tok [] [1, 4, 6, 7] (by intro K k; simp -dsimp -implicitDefEqProofs (maxDischargeDepth := 6) [hv4, hv5, hv6]; exact k) ?_
  refine AWP_sq [4] fun K2 hK2 => ?_
  obtain ⟨r7, hr7, H⟩ := bindE H
  refine Sx tok [] [1, 4, 6, 7, 36] (by intro K k; (repeat first | simp -dsimp -implicitDefEqProofs (maxDischargeDepth := 6) | refine (c93 hr7).app ?_); exact k) ?_
  refine AWP_block (AWP_thenB ?_)
  refine S0 tok [] [1, 4, 6, 7, 36, 37] ?_
  refine AWP_cond (ieq r7 82) rfl (fun C2 => ?_) (fun C2 => ?_)
  ·
   replace H := ifT C2 H
   obtain ⟨v8, hv8, H⟩ := bindE H
   obtain ⟨v9, hv9, H⟩ := bindE H
   refine Sx tok [] [2, 3] (by intro K k; simp -dsimp -implicitDefEqProofs (maxDischargeDepth := 6) [hv8, hv9]; exact k) ?_
   replace H := oi H; subst H; exact AWP_ret ⟨_, rfl, 4, by simp [encL_nil]⟩
  ·
   replace H := ifF C2 H
   refine S0 tok [] [1, 4, 6, 7, 36, 48] ?_
   refine AWP_cond (ieq r7 73) rfl (fun C3 => ?_) (fun C3 => ?_)
   ·
    replace H := ifT C3 H
    obtain ⟨v10, hv10, H⟩ := bindE H
    obtain ⟨r11, hr11, H⟩ := bindE H
    refine AWP_sd tok tokM [] [1] [0, 2, 4, 5, 6, 1, 3, 7, 8, 9] [2, 3] (fun a σ => a = [(2, .int .i64 (ior .i64 (ior .i64 r11 (ior .i64 (ior .i64 (ior .i64 v4 v5) v6) v2.opcode)) v10)), (3, .bool true)] ∧ σ = hp E0 [(N0 + 11, some ⟨118, 4, [[.str v2.name, .int .i64 v2.opcode, .int .i64 v2.funct3, .int .i64 v2.funct7]]⟩), (N0 + 16, some ⟨3, 1, [[.int .i64 r3]]⟩)] (N0 + 52)) (by decide) (fun K hK => ?_) ?_
    ·
     simp only [pickL, nthO_succ, nthO_zero]
     simp -dsimp -implicitDefEqProofs (maxDischargeDepth := 6) [hv10]
     refine (borrow 8 (c91 hr11) (by simp [hv10]) rfl).mono ?_; rintro _ _ ⟨rfl, rfl⟩; try simp -dsimp -implicitDefEqProofs (maxDischargeDepth := 6) [hv10]
     exact hK _ _ ⟨rfl, rfl⟩
    rintro a σ ⟨rfl, rfl⟩
    replace H := oi H; subst H; exact AWP_ret ⟨_, rfl, 4, by simp [encL_nil]⟩
   ·
    replace H := ifF C3 H
    refine S0 tok [] [1, 4, 6, 7, 36, 58] ?_
    refine AWP_cond (ieq r7 83) rfl (fun C4 => ?_) (fun C4 => ?_)
    ·
     replace H := ifT C4 H
     obtain ⟨r12, hr12, H⟩ := bindE H
     obtain ⟨r13, hr13, H⟩ := bindE H
     refine AWP_sr tok [] [2, 3] (fun a σ => a = [(2, .int .i64 (ior .i64 (ior .i64 r12 (ior .i64 (ior .i64 (ior .i64 v4 v5) v6) v2.opcode)) r13)), (3, .bool true)] ∧ σ = hp E0 [(N0 + 11, some ⟨118, 4, [[.str v2.name, .int .i64 v2.opcode, .int .i64 v2.funct3, .int .i64 v2.funct7]]⟩), (N0 + 16, some ⟨3, 1, [[.int .i64 r3]]⟩)] (N0 + 53)) (fun K hK => ?_) ?_
     ·
      simp -dsimp -implicitDefEqProofs (maxDischargeDepth := 6)
      refine (borrow 8 (c91 hr12) (by simp []) rfl).mono ?_; rintro _ _ ⟨rfl, rfl⟩; try simp -dsimp -implicitDefEqProofs (maxDischargeDepth := 6)
      refine (borrow 8 (c91 hr13) (by simp []) rfl).mono ?_; rintro _ _ ⟨rfl, rfl⟩; try simp -dsimp -implicitDefEqProofs (maxDischargeDepth := 6)
      exact hK _ _ ⟨rfl, rfl⟩
     rintro a σ ⟨rfl, rfl⟩
     replace H := oi H; subst H; exact AWP_ret ⟨_, rfl, 4, by simp [encL_nil]⟩
    ·
     replace H := ifF C4 H
     refine S0 tok [] [1, 4, 6, 7, 36, 67] ?_
     refine AWP_cond (ieq r7 66) rfl (fun C5 => ?_) (fun C5 => ?_)
     ·
      replace H := ifT C5 H
      obtain ⟨r14, hr14, H⟩ := bindE H
      obtain ⟨r15, hr15, H⟩ := bindE H
      obtain ⟨r16, hr16, H⟩ := bindE H
      obtain ⟨r17, hr17, H⟩ := bindE H
      refine AWP_sr tok [] [2, 3] (fun a σ => a = [(2, .int .i64 (ior .i64 (ior .i64 (ior .i64 (ior .i64 r14 r15) (ior .i64 (ior .i64 (ior .i64 v4 v5) v6) v2.opcode)) r16) r17)), (3, .bool true)] ∧ σ = hp E0 [(N0 + 11, some ⟨118, 4, [[.str v2.name, .int .i64 v2.opcode, .int .i64 v2.funct3, .int .i64 v2.funct7]]⟩), (N0 + 16, some ⟨3, 1, [[.int .i64 r3]]⟩)] (N0 + 61)) (fun K hK => ?_) ?_
      ·
       simp -dsimp -implicitDefEqProofs (maxDischargeDepth := 6)
       refine (borrow 8 (c91 hr14) (by simp []) rfl).mono ?_; rintro _ _ ⟨rfl, rfl⟩; try simp -dsimp -implicitDefEqProofs (maxDischargeDepth := 6)
       refine (borrow 8 (c91 hr15) (by simp []) rfl).mono ?_; rintro _ _ ⟨rfl, rfl⟩; try simp -dsimp -implicitDefEqProofs (maxDischargeDepth := 6)
       refine (borrow 8 (c91 hr16) (by simp []) rfl).mono ?_; rintro _ _ ⟨rfl, rfl⟩; try simp -dsimp -implicitDefEqProofs (maxDischargeDepth := 6)
       refine (borrow 8 (c91 hr17) (by simp []) rfl).mono ?_; rintro _ _ ⟨rfl, rfl⟩; try simp -dsimp -implicitDefEqProofs (maxDischargeDepth := 6)
       exact hK _ _ ⟨rfl, rfl⟩
      rintro a σ ⟨rfl, rfl⟩
      replace H := oi H; subst H; exact AWP_ret ⟨_, rfl, 4, by simp [encL_nil]⟩
     ·
      replace H := ifF C5 H
      refine S0 tok [] [1, 4, 6, 36, 82] ?_
      refine AWP_cond (ieq r7 85) rfl (fun C6 => ?_) (fun C6 => ?_)
      ·
       replace H := ifT C6 H
       obtain ⟨v18, hv18, H⟩ := bindE H
       obtain ⟨r19, hr19, H⟩ := bindE H
       refine AWP_sy tok tokM [] [1, 5, 7] [0, 2, 3, 4, 6, 7, 1, 5, 8, 9, 10] [(1, [7])] [2, 3] (fun a σ => a = [(2, .int .i64 (ior .i64 (ior .i64 r19 v18) v2.opcode)), (3, .bool true)] ∧ σ = hp E0 [(N0 + 11, some ⟨118, 4, [[.str v2.name, .int .i64 v2.opcode, .int .i64 v2.funct3, .int .i64 v2.funct7]]⟩), (N0 + 16, some ⟨3, 1, [[.int .i64 r3]]⟩)] (N0 + 59)) (by decide) (fun K hK => ?_) ?_
       ·
        simp only [pickL, nthO_succ, nthO_zero]
        simp -dsimp -implicitDefEqProofs (maxDischargeDepth := 6) [hv18]
        refine (borrow 8 (c91 hr19) (by simp [hv18]) rfl).mono ?_; rintro _ _ ⟨rfl, rfl⟩; try simp -dsimp -implicitDefEqProofs (maxDischargeDepth := 6) [hv18]
        exact hK _ _ ⟨rfl, rfl⟩
       rintro a σ ⟨rfl, rfl⟩
       replace H := oi H; subst H; exact AWP_ret ⟨_, rfl, 4, by simp [encL_nil]⟩
      ·
       replace H := ifF C6 H
       refine S0 tok [] [1, 4, 6, 93] ?_
       refine AWP_cond (ieq r7 74) rfl (fun C7 => ?_) (fun C7 => ?_)
       ·
        replace H := ifT C7 H
        obtain ⟨v20, hv20, H⟩ := bindE H
        obtain ⟨r21, hr21, H⟩ := bindE H
        obtain ⟨r22, hr22, H⟩ := bindE H
        obtain ⟨r23, hr23, H⟩ := bindE H
        obtain ⟨r24, hr24, H⟩ := bindE H
        refine AWP_sy tok tokM [] [1, 3, 4, 6, 7, 9, 10, 14, 16] [0, 2, 5, 8, 11, 12, 13, 15, 16, 1, 3, 4, 6, 7, 9, 10, 14, 17, 18, 19] [(1, [16]), (3, [16]), (6, [4, 16]), (9, [4, 7, 16])] [2, 3] (fun a σ => a = [(2, .int .i64 (ior .i64 (ior .i64 (ior .i64 (ior .i64 (ior .i64 r21 r22) r23) r24) v20) v2.opcode)), (3, .bool true)] ∧ σ = hp E0 [(N0 + 11, some ⟨118, 4, [[.str v2.name, .int .i64 v2.opcode, .int .i64 v2.funct3, .int .i64 v2.funct7]]⟩), (N0 + 16, some ⟨3, 1, [[.int .i64 r3]]⟩)] (N0 + 70)) (by decide) (fun K hK => ?_) ?_
        ·
         simp only [pickL, nthO_succ, nthO_zero]
         simp -dsimp -implicitDefEqProofs (maxDischargeDepth := 6) [hv20]
         refine (borrow 8 (c91 hr21) (by simp [hv20]) rfl).mono ?_; rintro _ _ ⟨rfl, rfl⟩; try simp -dsimp -implicitDefEqProofs (maxDischargeDepth := 6) [hv20]
         refine (borrow 8 (c91 hr22) (by simp [hv20]) rfl).mono ?_; rintro _ _ ⟨rfl, rfl⟩; try simp -dsimp -implicitDefEqProofs (maxDischargeDepth := 6) [hv20]
         refine (borrow 8 (c91 hr23) (by simp [hv20]) rfl).mono ?_; rintro _ _ ⟨rfl, rfl⟩; try simp -dsimp -implicitDefEqProofs (maxDischargeDepth := 6) [hv20]
         refine (borrow 8 (c91 hr24) (by simp [hv20]) rfl).mono ?_; rintro _ _ ⟨rfl, rfl⟩; try simp -dsimp -implicitDefEqProofs (maxDischargeDepth := 6) [hv20]
         exact hK _ _ ⟨rfl, rfl⟩
        rintro a σ ⟨rfl, rfl⟩
        replace H := oi H; subst H; exact AWP_ret ⟨_, rfl, 4, by simp [encL_nil]⟩
       ·
        replace H := ifF C7 H
        refine AWP_skip (Jn hK2 ?_)
        refine S0 tok [] [2, 3] ?_
        replace H := oi H; subst H; exact AWP_ret ⟨_, rfl, 4, by simp [encL_nil]⟩
theorem c22_o {p0 : (List gInstr)} {r : (List Int)} (H : l_wordsOf_o p0 = some r) {σ : AHeap} : ACalls Tryd.prog G 22 [.fsl (encL rInstr p0)] σ (fun v σ' => ∃ M n0 : Nat, σ.next ≤ M ∧ σ.next ≤ n0 ∧ n0 < M ∧ v = .sl n0 0 r.length ∧ σ' = hp σ.objs [(n0, some ⟨3, 1, encL rI r⟩)] M) := by
 refine ACalls_fr (L := []) (Q1 := fun v σ' => ∃ M n0 : Nat, σ.next ≤ M ∧ σ.next ≤ n0 ∧ n0 < M ∧ v = .sl n0 0 r.length ∧ σ' = hp E0 [(n0, some ⟨3, 1, encL rI r⟩)] M) (by simp []) (fun hlt => ?_) ?_ ⟨_, Tryd.func22, rfl, rfl⟩
 rotate_left
 ·
  rintro v σ1 ⟨M, n0, h0, h1, h2, rfl, rfl⟩
  exact ⟨_, M, rfl, by simp, by simp; try omega, M, n0, h0, h1, h2, rfl, rfl⟩
 generalize σ.next = N0 at hlt ⊢
 refine ACalls_fn tok Tryd.func22 (by kernel_rfl) rfl Tryd.ntmps22 Tryd.results22 rfl ?_
 simp only [argsA, Nat.reduceAdd, hp_next]
 unfold l_wordsOf_o at H
 refine S0 tok [] [0] ?_
 have q0 : ∀ σ i, buildSliceA T 22 true i 0 [] σ = some (.esl, σ) := fun _ _ => rfl
 refine Sx tok [0] [0, 3] (by intro K k; simp -dsimp -implicitDefEqProofs (maxDischargeDepth := 6) [q0]; exact k) ?_
 refine AWP_sq [3] fun K1 hK1 => ?_
 refine S0 tok [] [0, 3, 4] ?_
 refine AWP_block (AWP_thenB ?_)
 obtain ⟨e1, hse1, H⟩ := bindE H
 refine AWP_lp [0, 3, 4] (fun s a σ => ∃ M1 o1 : Nat, N0 ≤ M1 ∧ N0 ≤ o1 ∧ o1 < M1 ∧ a = [(0, .fsl (encL rInstr p0)), (3, .sl o1 0 s.2.length), (4, .int .i64 s.1)] ∧ σ = hp E0 [(o1, some ⟨3, 1, encL rI s.2⟩)] M1) (fun s x a σ => x = .exit 0 ∧ Rc G 28 N0 (fun a σ => ∃ M2 o2 : Nat, N0 ≤ M2 ∧ N0 ≤ o2 ∧ o2 < M2 ∧ a = [(3, .sl o2 0 s.length)] ∧ σ = hp E0 [(o2, some ⟨3, 1, encL rI s⟩)] M2) (AAct.keep a [3]) σ) hse1 ?_ ?_ ?_
 ·
  refine Rc.kp [0, 3, 4] [(0, .fsl (encL rInstr p0)), (3, .esl), (4, .int .i64 0)] rfl ?_
  refine gNilS Rc_ref 3 3 1 [(N0 + 4, some ⟨3, 1, encL rI ([] : List Int)⟩)] [(0, .fsl (encL rInstr p0)), (3, .sl (N0 + 4) 0 ([] : List Int).length), (4, .int .i64 0)] (by simp (disch := omega)) (by simp (disch := omega) [encL_nil]) [0, 3, 4] rfl ?_
  exact Rc.fin (AHeap.Sub.refl _) ⟨N0 + 5, (N0 + 4), (by omega), (by omega), (by omega), rfl, rfl⟩
 ·
  clear H hse1
  rintro ⟨s1, s2⟩ fl a σ H ⟨M1, o1, fM1_0, fM1_1, fM1_2, rfl, rfl⟩ K2 O2 hK2 hO2
  unfold l_wordsOf_o_L1 at H; dsimp only at H
  refine AWP_sq [0, 3, 4] fun K3 hK3 => ?_
  refine S0 tok [] [0, 3, 4, 11] ?_
  refine AWP_cond (ilt s1 (ilen p0)) rfl (fun C1 => ?_) (fun C1 => ?_)
  ·
   replace H := ifT C1 H
   refine AWP_skip (Jn hK3 ?_)
   refine AWP_sq [0, 3, 4] fun K4 hK4 => ?_
   refine AWP_block (AWP_thenB ?_)
   obtain ⟨v4, hv4, H⟩ := bindE H
   obtain ⟨r5, hr5, H⟩ := bindE H
   refine Sx tok [] [0, 3, 4, 5] (by intro K k; (repeat first | simp -dsimp -implicitDefEqProofs (maxDischargeDepth := 6) [ix46 hv4] | refine (c50 hr5).app ?_); exact k) ?_
   obtain ⟨r6, hr6, H⟩ := bindE H
   obtain ⟨l7, hl7, H⟩ := bindE H
   have q1 : ∀ σ i, buildSliceA T 22 true i 1 [(0, .int .i64 r6)] σ = some (.fsl (encL rI ([r6] : List Int)), σ) := fun _ _ => rfl
   refine AWP_rt tok [3] [0, 3, 4] (fun a σ => a = [(0, .fsl (encL rInstr p0)), (3, .sl (M1 + 18) 0 l7.length), (4, .int .i64 s1)] ∧ σ = hp E0 [(M1 + 18, some ⟨3, 1, encL rI l7⟩)] (M1 + 20)) (fun K hK => ?_) ?_
   ·
    have e0 := nQ o1 (M1 + 18)
    simp -dsimp -implicitDefEqProofs (maxDischargeDepth := 6) [e0, q1, app22 hl7]
    refine (c21 hr6).app ?_; try simp -dsimp -implicitDefEqProofs (maxDischargeDepth := 6) [e0, q1, app22 hl7]
    exact hK _ _ ⟨rfl, rfl⟩
   rintro a σ ⟨ha, rfl⟩
   refine hK4 _ _ ?_; rw [ha]
   refine Rc.mk ?_
   refine AWP_rt tok [] [0, 3, 4] (fun a σ => a = [(0, .fsl (encL rInstr p0)), (3, .sl (M1 + 18) 0 l7.length), (4, .int .i64 (iadd .i64 s1 1))] ∧ σ = hp E0 [(M1 + 18, some ⟨3, 1, encL rI l7⟩)] (M1 + 23)) (fun K hK => ?_) ?_
   ·
    simp -dsimp -implicitDefEqProofs (maxDischargeDepth := 6)
    exact hK _ _ ⟨rfl, rfl⟩
   rintro a σ ⟨ha, rfl⟩
   replace H := oi H; subst H
   refine hK2 _ _ _ rfl ?_; rw [ha]
   exact Rc.fin (AHeap.Sub.refl _) ⟨M1 + 23, (M1 + 18), (by omega), (by omega), (by omega), rfl, rfl⟩
  ·
   replace H := ifF C1 H
   replace H := oi H; subst H
   refine AWP_exit (hO2 _ _ _ _ rfl ⟨rfl, ?_⟩)
   refine Rc.rw (l := [3]) (X := [(3, .sl o1 0 s2.length)]) rfl ?_
   exact Rc.fin (AHeap.Sub.refl _) ⟨M1 + 4, o1, (by omega), (by omega), (by omega), rfl, rfl⟩
 ·
  intro x a σ hx
  obtain ⟨y3, rfl⟩ : ∃ x, x = e1 := ⟨_, rfl⟩
  obtain ⟨rfl, b, τ, hr, M2, o2, fM2_0, fM2_1, fM2_2, rfl, rfl⟩ := hx
  dsimp only at H
  show K1 _ _
  refine hK1 _ _ (Rc_ref hr ?_)
  refine Rc.mk ?_
  refine S0 tok [] [2] ?_
  replace H := oi H; subst H
  refine Kp [2] ?_
  refine AWP_ret ?_
  refine ⟨[.sl o2 0 y3.length], by simp, M2 + 2, o2, by omega, by omega, by omega, ?_, ?_⟩
  ·
   simp [encL_nil]
  ·
   first | rfl | simp [List.set_set]
theorem c94 {p0 : (List Int)} {r : Bool} (H : i_areWords p0 = some r) : APure Tryd.prog G 94 [.fsl (encL rI p0)] (.bool r) := by
 refine APure_fn (fun N0 => ?_) (by simp)
 refine ACalls_fn tok Tryd.func94 (by kernel_rfl) rfl Tryd.ntmps94 Tryd.results94 rfl ?_
 simp only [argsA, Nat.reduceAdd, hp_next]
 unfold i_areWords at H
 refine S0 tok [] [0] ?_
 refine AWP_sq [] fun K1 hK1 => ?_
 refine S0 tok [] [5, 6, 7] ?_
 refine AWP_block (AWP_thenB ?_)
 obtain ⟨e1, hse1, H⟩ := bindE H
 refine AWP_lp [5, 6, 7] (fun s a σ => ∃ M1 : Nat, N0 ≤ M1 ∧ a = [(5, .fsl (encL rI p0)), (6, .int .i64 (ilen p0)), (7, .int .i64 s)] ∧ σ = hp E0 [] M1) (fun e x a σ => match e with | .inl s => x = .exit 0 ∧ Rc G 15 N0 (fun a σ => ∃ M2 : Nat, N0 ≤ M2 ∧ a = [] ∧ σ = hp E0 [] M2) (AAct.keep a []) σ | .inr s => x = .ret ∧ ∃ vs, resA T σ a [.tmp 2] = some vs ∧ ∃ d, thawA (fun _ => true) σ d (tupA vs) = .bool s) hse1 ?_ ?_ ?_
 ·
  refine Rc.kp [5, 6, 7] [(5, .fsl (encL rI p0)), (6, .int .i64 (ilen p0)), (7, .int .i64 0)] rfl ?_
  exact Rc.fin (AHeap.Sub.refl _) ⟨N0 + 4, (by omega), rfl, rfl⟩
 ·
  clear H hse1
  rintro s1 fl a σ H ⟨M1, fM1_0, rfl, rfl⟩ K2 O2 hK2 hO2
  unfold i_areWords_L1 at H; dsimp only at H
  refine S0 tok [] [5, 6, 7, 8] ?_
  refine AWP_sq [5, 6, 7] fun K3 hK3 => ?_
  refine AWP_cond (ilt s1 (ilen p0)) rfl (fun C1 => ?_) (fun C1 => ?_)
  ·
   replace H := ifT C1 H
   refine AWP_skip (Jn hK3 ?_)
   refine AWP_sq [5, 6, 7] fun K4 hK4 => ?_
   refine AWP_block (AWP_thenB ?_)
   obtain ⟨v2, hv2, H⟩ := bindE H
   refine Sx tok [] [4, 5, 6, 7] (by intro K k; simp -dsimp -implicitDefEqProofs (maxDischargeDepth := 6) [ix22 hv2]; exact k) ?_
   obtain ⟨r3, hr3, H⟩ := bindE H
   refine Sx tok [] [5, 6, 7, 13] (by intro K k; (repeat first | simp -dsimp -implicitDefEqProofs (maxDischargeDepth := 6) | refine (c55 hr3).app ?_); exact k) ?_
   refine AWP_cond (bnot r3) rfl (fun C2 => ?_) (fun C2 => ?_)
   ·
    replace H := ifT C2 H
    refine S0 tok [] [2] ?_
    replace H := oi H; subst H
    refine Kp [2] ?_
    refine AWP_ret (hO2 _ _ _ _ rfl ⟨rfl, ?_⟩)
    exact ⟨[.bool false], by simp, 4, by simp [encL_nil]⟩
   ·
    replace H := ifF C2 H
    refine AWP_skip (Jn hK4 ?_)
    refine AWP_rt tok [] [5, 6, 7] (fun a σ => a = [(5, .fsl (encL rI p0)), (6, .int .i64 (ilen p0)), (7, .int .i64 (iadd .i64 s1 1))] ∧ σ = hp E0 [] (M1 + 9)) (fun K hK => ?_) ?_
    ·
     simp -dsimp -implicitDefEqProofs (maxDischargeDepth := 6)
     exact hK _ _ ⟨rfl, rfl⟩
    rintro a σ ⟨ha, rfl⟩
    replace H := oi H; subst H
    refine hK2 _ _ _ rfl ?_; rw [ha]
    exact Rc.fin (AHeap.Sub.refl _) ⟨M1 + 9, (by omega), rfl, rfl⟩
  ·
   replace H := ifF C1 H
   replace H := oi H; subst H
   refine AWP_exit (hO2 _ _ _ _ rfl ⟨rfl, ?_⟩)
   refine Rc.rw (l := []) (X := []) rfl ?_
   exact Rc.fin (AHeap.Sub.refl _) ⟨M1 + 1, (by omega), rfl, rfl⟩
 ·
  intro x a σ hx
  rcases e1 with ⟨⟩ | r0
  ·
   obtain ⟨rfl, b, τ, hr, M2, fM2_0, rfl, rfl⟩ := hx
   dsimp only at H
   show K1 _ _
   refine hK1 _ _ (Rc_ref hr ?_)
   refine Rc.mk ?_
   refine S0 tok [] [2] ?_
   replace H := oi H; subst H; exact AWP_ret ⟨_, rfl, 4, by simp [encL_nil]⟩
  ·
   obtain ⟨rfl, hx2⟩ := hx
   dsimp only at H
   replace H := oi H; subst H; exact hx2
theorem c51 {p0 : gMachine} {r : Bool} (H : i_MachineValid p0 = some r) : APure Tryd.prog G 51 [.agg [.fsl (encL rI p0.Regs), .int .i64 p0.Pc, .fsl (encL rI p0.Mem)]] (.bool r) := by
 refine APure_fn (fun N0 => ?_) (by simp)
 refine ACalls_fn tok Tryd.func51 (by kernel_rfl) rfl Tryd.ntmps51 Tryd.results51 rfl ?_
 simp only [argsA, Nat.reduceAdd, hp_next]
 unfold i_MachineValid at H
 refine S0 tok [0] [1] ?_
 obtain ⟨g2, hg2, H⟩ := bindE H
 obtain ⟨g4, hg4, H⟩ := bindE H
 obtain ⟨g6, hg6, H⟩ := bindE H
 obtain ⟨g7, hg7, H⟩ := bindE H
 obtain ⟨g9, hg9, H⟩ := bindE H
 refine AWP_sr tok [] [2] (fun a σ => a = [(2, .bool g9)] ∧ σ = hp E0 [] (N0 + 35)) (fun K hK => ?_) ?_
 ·
  simp -dsimp -implicitDefEqProofs (maxDischargeDepth := 6)
  cases hbg2 : ieq (ilen p0.Regs) 32
  ·
   replace hg2 := ifF hbg2 hg2
   replace hg2 := oi hg2; subst hg2
   try simp -dsimp -implicitDefEqProofs (maxDischargeDepth := 6) [hbg2]
   replace hg4 := ifF rfl hg4
   replace hg4 := oi hg4; subst hg4
   try simp -dsimp -implicitDefEqProofs (maxDischargeDepth := 6) [hbg2]
   replace hg6 := ifF rfl hg6
   replace hg6 := oi hg6; subst hg6
   try simp -dsimp -implicitDefEqProofs (maxDischargeDepth := 6) [hbg2]
   replace hg7 := ifF rfl hg7
   replace hg7 := oi hg7; subst hg7
   try simp -dsimp -implicitDefEqProofs (maxDischargeDepth := 6) [hbg2]
   replace hg9 := ifF rfl hg9
   replace hg9 := oi hg9; subst hg9
   try simp -dsimp -implicitDefEqProofs (maxDischargeDepth := 6) [hbg2]
   exact hK _ _ ⟨rfl, rfl⟩
  ·
   replace hg2 := ifT hbg2 hg2
   obtain ⟨r1, hr1, hg2⟩ := bindE hg2
   replace hg2 := oi hg2; subst hg2
   try simp -dsimp -implicitDefEqProofs (maxDischargeDepth := 6) [hbg2]
   refine (c94 hr1).app ?_; try simp -dsimp -implicitDefEqProofs (maxDischargeDepth := 6) [hbg2]
   cases hbg4 : r1
   ·
    replace hg4 := ifF hbg4 hg4
    replace hg4 := oi hg4; subst hg4
    try simp -dsimp -implicitDefEqProofs (maxDischargeDepth := 6) [hbg2, hbg4]
    replace hg6 := ifF rfl hg6
    replace hg6 := oi hg6; subst hg6
    try simp -dsimp -implicitDefEqProofs (maxDischargeDepth := 6) [hbg2, hbg4]
    replace hg7 := ifF rfl hg7
    replace hg7 := oi hg7; subst hg7
    try simp -dsimp -implicitDefEqProofs (maxDischargeDepth := 6) [hbg2, hbg4]
    replace hg9 := ifF rfl hg9
    replace hg9 := oi hg9; subst hg9
    try simp -dsimp -implicitDefEqProofs (maxDischargeDepth := 6) [hbg2, hbg4]
    exact hK _ _ ⟨rfl, rfl⟩
   ·
    replace hg4 := ifT hbg4 hg4
    obtain ⟨v3, hv3, hg4⟩ := bindE hg4
    replace hg4 := oi hg4; subst hg4
    try simp -dsimp -implicitDefEqProofs (maxDischargeDepth := 6) [hbg2, hbg4, ix22 hv3]
    cases hbg6 : (ieq v3 0)
    ·
     replace hg6 := ifF hbg6 hg6
     replace hg6 := oi hg6; subst hg6
     try simp -dsimp -implicitDefEqProofs (maxDischargeDepth := 6) [hbg2, hbg4, ix22 hv3, hbg6]
     replace hg7 := ifF rfl hg7
     replace hg7 := oi hg7; subst hg7
     try simp -dsimp -implicitDefEqProofs (maxDischargeDepth := 6) [hbg2, hbg4, ix22 hv3, hbg6]
     replace hg9 := ifF rfl hg9
     replace hg9 := oi hg9; subst hg9
     try simp -dsimp -implicitDefEqProofs (maxDischargeDepth := 6) [hbg2, hbg4, ix22 hv3, hbg6]
     exact hK _ _ ⟨rfl, rfl⟩
    ·
     replace hg6 := ifT hbg6 hg6
     obtain ⟨r5, hr5, hg6⟩ := bindE hg6
     replace hg6 := oi hg6; subst hg6
     try simp -dsimp -implicitDefEqProofs (maxDischargeDepth := 6) [hbg2, hbg4, ix22 hv3, hbg6]
     refine (c55 hr5).app ?_; try simp -dsimp -implicitDefEqProofs (maxDischargeDepth := 6) [hbg2, hbg4, ix22 hv3, hbg6]
     cases hbg7 : r5
     ·
      replace hg7 := ifF hbg7 hg7
      replace hg7 := oi hg7; subst hg7
      try simp -dsimp -implicitDefEqProofs (maxDischargeDepth := 6) [hbg2, hbg4, ix22 hv3, hbg6, hbg7]
      replace hg9 := ifF rfl hg9
      replace hg9 := oi hg9; subst hg9
      try simp -dsimp -implicitDefEqProofs (maxDischargeDepth := 6) [hbg2, hbg4, ix22 hv3, hbg6, hbg7]
      exact hK _ _ ⟨rfl, rfl⟩
     ·
      replace hg7 := ifT hbg7 hg7
      replace hg7 := oi hg7; subst hg7
      try simp -dsimp -implicitDefEqProofs (maxDischargeDepth := 6) [hbg2, hbg4, ix22 hv3, hbg6, hbg7]
      cases hbg9 : (ile (ilen p0.Mem) 10000)
      ·
       replace hg9 := ifF hbg9 hg9
       replace hg9 := oi hg9; subst hg9
       try simp -dsimp -implicitDefEqProofs (maxDischargeDepth := 6) [hbg2, hbg4, ix22 hv3, hbg6, hbg7, hbg9]
       exact hK _ _ ⟨rfl, rfl⟩
      ·
       replace hg9 := ifT hbg9 hg9
       obtain ⟨r8, hr8, hg9⟩ := bindE hg9
       replace hg9 := oi hg9; subst hg9
       try simp -dsimp -implicitDefEqProofs (maxDischargeDepth := 6) [hbg2, hbg4, ix22 hv3, hbg6, hbg7, hbg9]
       refine (c94 hr8).app ?_; try simp -dsimp -implicitDefEqProofs (maxDischargeDepth := 6) [hbg2, hbg4, ix22 hv3, hbg6, hbg7, hbg9]
       exact hK _ _ ⟨rfl, rfl⟩
 rintro a σ ⟨rfl, rfl⟩
 replace H := oi H; subst H; exact AWP_ret ⟨_, rfl, 4, by simp [encL_nil]⟩
end Go.Proofs.YtlcilhmkbmgkeaaDoor
