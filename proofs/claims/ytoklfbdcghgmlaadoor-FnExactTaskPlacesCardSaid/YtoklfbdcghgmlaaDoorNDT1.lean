/- The contracts of functions of the program, part 1: each computes what its mirror computes. No conditions. -/
import Derived.Test.YtoklfbdcghgmlaaDoorNDT0
set_option linter.unusedSimpArgs false
set_option linter.unusedVariables false
set_option maxRecDepth 20000
set_option maxHeartbeats 4000000
namespace Go.Proofs.YtoklfbdcghgmlaaDoor
open Go Go.Abs Go.RowKit

theorem c111 {p0 : (List gInstr)} {p1 : Int} {r : (List gInstr)} (H : s_l43Call p0 p1 = some r) {σ : AHeap} {w0 : Nat} (q0 : σ.objs w0 = some ⟨47, 5, encL rInstr p0⟩) : ACalls Tryd.prog G 111 [.sl w0 0 p0.length, .int .i64 p1] σ (fun v σ' => ∃ M : Nat, σ.next ≤ M ∧ v = .fsl (encL rInstr r) ∧ σ' = hp σ.objs [(w0, none)] M) := by
 refine ACalls_fr (L := [(w0, some ⟨47, 5, encL rInstr p0⟩)]) (Q1 := fun v σ' => ∃ M : Nat, σ.next ≤ M ∧ v = .fsl (encL rInstr r) ∧ σ' = hp E0 [(w0, none)] M) (by simp [q0]) (fun hlt => ?_) ?_ ⟨_, Tryd.func111, rfl, rfl⟩
 rotate_left
 ·
  rintro v σ1 ⟨M, h0, rfl, rfl⟩
  exact ⟨_, M, rfl, by simp, by simp; try omega, M, h0, rfl, rfl⟩
 generalize σ.next = N0 at hlt ⊢
 have lw0 : w0 < N0 := hlt _ (.head _) rfl
 refine ACalls_fn tok Tryd.func111 (by kernel_rfl) rfl Tryd.ntmps111 Tryd.results111 rfl ?_
 simp only [argsA, Nat.reduceAdd, hp_next]
 unfold s_l43Call at H
 refine AWP_sr tok [] [0, 1] (fun a σ => a = [(0, .sl w0 0 p0.length), (1, .int .i64 p1)] ∧ σ = hp E0 [(w0, some ⟨47, 5, encL rInstr p0⟩)] (N0 + 1)) (fun K hK => ?_) ?_
 ·
  skip
  simp -dsimp -implicitDefEqProofs (maxDischargeDepth := 6)
  exact hK _ _ ⟨rfl, rfl⟩
 rintro a σ ⟨rfl, rfl⟩
 obtain ⟨l1, hl1, H⟩ := bindE H
 have q0 : ∀ σ i, buildSliceA T 29 true i 1 [(0, .agg [.int .i64 12, .int .i64 17, .int .i64 0, .int .i64 0, .int .i64 p1])] σ = some (.fsl (encL rInstr ([(⟨12, 17, 0, 0, p1⟩ : gInstr)] : List gInstr)), σ) := fun _ _ => rfl
 refine AWP_sr tok [3] [0] (fun a σ => a = [(0, .sl (N0 + 5) 0 l1.length)] ∧ σ = hp E0 [(N0 + 5, some ⟨47, 5, encL rInstr l1⟩)] (N0 + 7)) (fun K hK => ?_) ?_
 ·
  skip
  have e0 : ¬ w0 = N0 + 5 := by omega
  have e1 : ¬ N0 + 5 = w0 := by omega
  simp -dsimp -implicitDefEqProofs (maxDischargeDepth := 6) [e0, e1, q0, app29 hl1]
  exact hK _ _ ⟨rfl, rfl⟩
 rintro a σ ⟨rfl, rfl⟩
 obtain ⟨l2, hl2, H⟩ := bindE H
 have q1 : ∀ σ i, buildSliceA T 29 true i 1 [(0, .agg [.int .i64 15, .int .i64 1, .int .i64 0, .int .i64 0, .int .i64 0])] σ = some (.fsl (encL rInstr ([(⟨15, 1, 0, 0, 0⟩ : gInstr)] : List gInstr)), σ) := fun _ _ => rfl
 refine AWP_sr tok [2] [4] (fun a σ => a = [(4, .sl (N0 + 10) 0 l2.length)] ∧ σ = hp E0 [(N0 + 10, some ⟨47, 5, encL rInstr l2⟩)] (N0 + 12)) (fun K hK => ?_) ?_
 ·
  skip
  simp -dsimp -implicitDefEqProofs (maxDischargeDepth := 6) [q1, app29 hl2]
  exact hK _ _ ⟨rfl, rfl⟩
 rintro a σ ⟨rfl, rfl⟩
 refine gFrz AWP_ref 4 [N0 + 10] [] [(4, .fsl (encL rInstr l2))] (by simp) (cutD (by simp)) ?_
 replace H := Option.some.inj H; subst H
 refine AWP_kp [4] [(4, .fsl (encL rInstr l2))] rfl ?_
 refine AWP_ret ?_
 refine ⟨[.fsl (encL rInstr l2)], by simp, N0 + 12, by omega, ?_, ?_⟩
 ·
  simp [encL_nil]
 ·
  symm; first | exact hp_tail (L := []) | (simp only [List.set_set]; exact hp_tail (L := []))
theorem c111_o {p0 : (List gInstr)} {p1 : Int} {r : (List gInstr)} (H : s_l43Call_o p0 p1 = some r) {σ : AHeap} {w0 : Nat} (q0 : σ.objs w0 = some ⟨47, 5, encL rInstr p0⟩) : ACalls Tryd.prog G 111 [.sl w0 0 p0.length, .int .i64 p1] σ (fun v σ' => ∃ M n0 : Nat, σ.next ≤ M ∧ σ.next ≤ n0 ∧ n0 < M ∧ v = .sl n0 0 r.length ∧ σ' = hp σ.objs [(n0, some ⟨47, 5, encL rInstr r⟩), (w0, none)] M) := by
 refine ACalls_fr (L := [(w0, some ⟨47, 5, encL rInstr p0⟩)]) (Q1 := fun v σ' => ∃ M n0 : Nat, σ.next ≤ M ∧ σ.next ≤ n0 ∧ n0 < M ∧ v = .sl n0 0 r.length ∧ σ' = hp E0 [(n0, some ⟨47, 5, encL rInstr r⟩), (w0, none)] M) (by simp [q0]) (fun hlt => ?_) ?_ ⟨_, Tryd.func111, rfl, rfl⟩
 rotate_left
 ·
  rintro v σ1 ⟨M, n0, h0, h1, h2, rfl, rfl⟩
  exact ⟨_, M, rfl, by simp, by simp; try omega, M, n0, h0, h1, h2, rfl, rfl⟩
 generalize σ.next = N0 at hlt ⊢
 have lw0 : w0 < N0 := hlt _ (.head _) rfl
 refine ACalls_fn tok Tryd.func111 (by kernel_rfl) rfl Tryd.ntmps111 Tryd.results111 rfl ?_
 simp only [argsA, Nat.reduceAdd, hp_next]
 unfold s_l43Call_o at H
 refine AWP_sr tok [] [0, 1] (fun a σ => a = [(0, .sl w0 0 p0.length), (1, .int .i64 p1)] ∧ σ = hp E0 [(w0, some ⟨47, 5, encL rInstr p0⟩)] (N0 + 1)) (fun K hK => ?_) ?_
 ·
  skip
  simp -dsimp -implicitDefEqProofs (maxDischargeDepth := 6)
  exact hK _ _ ⟨rfl, rfl⟩
 rintro a σ ⟨rfl, rfl⟩
 obtain ⟨l1, hl1, H⟩ := bindE H
 have q0 : ∀ σ i, buildSliceA T 29 true i 1 [(0, .agg [.int .i64 12, .int .i64 17, .int .i64 0, .int .i64 0, .int .i64 p1])] σ = some (.fsl (encL rInstr ([(⟨12, 17, 0, 0, p1⟩ : gInstr)] : List gInstr)), σ) := fun _ _ => rfl
 refine AWP_sr tok [3] [0] (fun a σ => a = [(0, .sl (N0 + 5) 0 l1.length)] ∧ σ = hp E0 [(N0 + 5, some ⟨47, 5, encL rInstr l1⟩)] (N0 + 7)) (fun K hK => ?_) ?_
 ·
  skip
  have e0 : ¬ w0 = N0 + 5 := by omega
  have e1 : ¬ N0 + 5 = w0 := by omega
  simp -dsimp -implicitDefEqProofs (maxDischargeDepth := 6) [e0, e1, q0, app29 hl1]
  exact hK _ _ ⟨rfl, rfl⟩
 rintro a σ ⟨rfl, rfl⟩
 obtain ⟨l2, hl2, H⟩ := bindE H
 have q1 : ∀ σ i, buildSliceA T 29 true i 1 [(0, .agg [.int .i64 15, .int .i64 1, .int .i64 0, .int .i64 0, .int .i64 0])] σ = some (.fsl (encL rInstr ([(⟨15, 1, 0, 0, 0⟩ : gInstr)] : List gInstr)), σ) := fun _ _ => rfl
 refine AWP_sr tok [2] [4] (fun a σ => a = [(4, .sl (N0 + 10) 0 l2.length)] ∧ σ = hp E0 [(N0 + 10, some ⟨47, 5, encL rInstr l2⟩)] (N0 + 12)) (fun K hK => ?_) ?_
 ·
  skip
  simp -dsimp -implicitDefEqProofs (maxDischargeDepth := 6) [q1, app29 hl2]
  exact hK _ _ ⟨rfl, rfl⟩
 rintro a σ ⟨rfl, rfl⟩
 replace H := Option.some.inj H; subst H
 refine AWP_kp [4] [(4, .sl (N0 + 10) 0 l2.length)] rfl ?_
 refine AWP_ret ?_
 refine ⟨[.sl (N0 + 10) 0 l2.length], by simp, N0 + 12, N0 + 10, by omega, by omega, by omega, ?_, ?_⟩
 ·
  simp [encL_nil]
 ·
  symm; first | exact hp_tail (L := [(N0 + 10, some ⟨47, 5, encL rInstr l2⟩)]) | (simp only [List.set_set]; exact hp_tail (L := [(N0 + 10, some ⟨47, 5, encL rInstr l2⟩)]))
theorem c66 {p0 : gQuad} {p1 : Int} {p2 : Int} {r : (List gInstr)} (H : s_l43Quad p0 p1 p2 = some r) : APure Tryd.prog G 66 [.agg [.int .i64 p0.Op, .int .i64 p0.Dst, .int .i64 p0.A, .int .i64 p0.B, .int .i64 p0.N], .int .i64 p1, .int .i64 p2] (.fsl (encL rInstr r)) := by
 refine APure_fn (fun N0 => ?_) (by simp)
 refine ACalls_fn tok Tryd.func66 (by kernel_rfl) rfl Tryd.ntmps66 Tryd.results66 rfl ?_
 simp only [argsA, Nat.reduceAdd, hp_next]
 unfold s_l43Quad at H
 refine AWP_sr tok [0] [1, 2, 3] (fun a σ => a = [(1, .int .i64 p1), (2, .int .i64 p2), (3, .fptr [.int .i64 p0.Op, .int .i64 p0.Dst, .int .i64 p0.A, .int .i64 p0.B, .int .i64 p0.N] 0)] ∧ σ = hp E0 [] (N0 + 2)) (fun K hK => ?_) ?_
 ·
  skip
  simp -dsimp -implicitDefEqProofs (maxDischargeDepth := 6)
  exact hK _ _ ⟨rfl, rfl⟩
 rintro a σ ⟨rfl, rfl⟩
 obtain ⟨r1, hr1, H⟩ := bindE H
 refine AWP_sr tok [] [1, 2, 3, 7] (fun a σ => a = [(1, .int .i64 p1), (2, .int .i64 p2), (3, .fptr [.int .i64 p0.Op, .int .i64 p0.Dst, .int .i64 p0.A, .int .i64 p0.B, .int .i64 p0.N] 0), (7, .int .i64 r1)] ∧ σ = hp E0 [] (N0 + 7)) (fun K hK => ?_) ?_
 ·
  skip
  simp -dsimp -implicitDefEqProofs (maxDischargeDepth := 6)
  refine (c105 hr1).app ?_; try simp -dsimp -implicitDefEqProofs (maxDischargeDepth := 6)
  exact hK _ _ ⟨rfl, rfl⟩
 rintro a σ ⟨rfl, rfl⟩
 refine AWP_sq [] fun K1 hK1 => ?_
 refine AWP_sr tok [] [1, 2, 3, 7, 14] (fun a σ => a = [(1, .int .i64 p1), (2, .int .i64 p2), (3, .fptr [.int .i64 p0.Op, .int .i64 p0.Dst, .int .i64 p0.A, .int .i64 p0.B, .int .i64 p0.N] 0), (7, .int .i64 r1), (14, .int .i64 p0.Op)] ∧ σ = hp E0 [] (N0 + 9)) (fun K hK => ?_) ?_
 ·
  skip
  simp -dsimp -implicitDefEqProofs (maxDischargeDepth := 6)
  exact hK _ _ ⟨rfl, rfl⟩
 rintro a σ ⟨rfl, rfl⟩
 refine AWP_block (AWP_thenB ?_)
 refine AWP_sr tok [] [1, 2, 3, 7, 14, 15] (fun a σ => a = [(1, .int .i64 p1), (2, .int .i64 p2), (3, .fptr [.int .i64 p0.Op, .int .i64 p0.Dst, .int .i64 p0.A, .int .i64 p0.B, .int .i64 p0.N] 0), (7, .int .i64 r1), (14, .int .i64 p0.Op), (15, .bool (ieq p0.Op 1))] ∧ σ = hp E0 [] (N0 + 11)) (fun K hK => ?_) ?_
 ·
  skip
  simp -dsimp -implicitDefEqProofs (maxDischargeDepth := 6)
  exact hK _ _ ⟨rfl, rfl⟩
 rintro a σ ⟨rfl, rfl⟩
 refine AWP_cond (ieq p0.Op 1) rfl (fun C1 => ?_) (fun C1 => ?_)
 ·
  replace H := ifT C1 H
  obtain ⟨r2, hr2, H⟩ := bindE H
  obtain ⟨r3, hr3, H⟩ := bindE H
  refine AWP_sd tok tokM [] [3, 7] [0, 1, 2, 4, 5, 6, 3, 7, 8] [6] (fun a σ => ∃ M1 o1 : Nat, ∃ M2 : Nat, N0 + 20 ≤ M1 ∧ N0 + 20 ≤ o1 ∧ o1 < M1 ∧ M1 ≤ M2 ∧ a = [(6, .fsl (encL rInstr r3))] ∧ σ = hp E0 [] M2) (by decide) (fun K hK => ?_) ?_
  ·
   simp only [pickL, nthO_succ, nthO_zero]
   simp -dsimp -implicitDefEqProofs (maxDischargeDepth := 6)
   refine (c76_o (H := hr2) ).mono ?_; rintro _ _ ⟨M1, o1, fM1_0, fM1_1, fM1_2, rfl, rfl⟩; simp only [hp_next] at fM1_0 fM1_1 fM1_2
   try simp -dsimp -implicitDefEqProofs (maxDischargeDepth := 6) [hp_over_some, hp_over_none]
   refine (c106 (H := hr3) (by simp [hp_over_some, hp_over_none])).mono ?_; rintro _ _ ⟨M2, fM2_0, rfl, rfl⟩; simp only [hp_next] at fM2_0
   try simp -dsimp -implicitDefEqProofs (maxDischargeDepth := 6) [hp_over_some, hp_over_none, hp_over_some, hp_over_none]
   exact hK _ _ ⟨M1, o1, M2, (by omega), (by omega), (by omega), (by omega), rfl, rfl⟩
  rintro a σ ⟨M1, o1, M2, fM1_0, fM1_1, fM1_2, fM2_0, rfl, rfl⟩
  replace H := Option.some.inj H; subst H
  refine AWP_kp [6] [(6, .fsl (encL rInstr r3))] rfl ?_
  refine AWP_ret ?_
  exact ⟨[.fsl (encL rInstr r3)], by simp, 4, by simp [encL_nil]⟩
 ·
  replace H := ifF C1 H
  refine AWP_sr tok [] [1, 2, 3, 7, 14, 25] (fun a σ => a = [(1, .int .i64 p1), (2, .int .i64 p2), (3, .fptr [.int .i64 p0.Op, .int .i64 p0.Dst, .int .i64 p0.A, .int .i64 p0.B, .int .i64 p0.N] 0), (7, .int .i64 r1), (14, .int .i64 p0.Op), (25, .bool (ieq p0.Op 2))] ∧ σ = hp E0 [] (N0 + 13)) (fun K hK => ?_) ?_
  ·
   skip
   simp -dsimp -implicitDefEqProofs (maxDischargeDepth := 6)
   exact hK _ _ ⟨rfl, rfl⟩
  rintro a σ ⟨rfl, rfl⟩
  refine AWP_cond (ieq p0.Op 2) rfl (fun C2 => ?_) (fun C2 => ?_)
  ·
   replace H := ifT C2 H
   obtain ⟨r4, hr4, H⟩ := bindE H
   obtain ⟨r5, hr5, H⟩ := bindE H
   obtain ⟨r6, hr6, H⟩ := bindE H
   obtain ⟨l7, hl7, H⟩ := bindE H
   obtain ⟨r8, hr8, H⟩ := bindE H
   have q0 : ∀ σ i, buildSliceA T 29 true i 1 [(0, .agg [.int .i64 r6.Op, .int .i64 r6.Rd, .int .i64 r6.Rs, .int .i64 r6.Rt, .int .i64 r6.Imm])] σ = some (.fsl (encL rInstr ([r6] : List gInstr)), σ) := fun _ _ => rfl
   refine AWP_sd tok tokM [10] [3, 11, 15] [0, 1, 2, 4, 5, 6, 7, 12, 13, 14, 3, 8, 9, 10, 11, 15, 16] [6] (fun a σ => ∃ M3 o2 : Nat, ∃ M4 : Nat, N0 + 30 ≤ M3 ∧ N0 + 30 ≤ o2 ∧ o2 < M3 ∧ M3 ≤ M4 ∧ a = [(6, .fsl (encL rInstr r8))] ∧ σ = hp E0 [] M4) (by decide) (fun K hK => ?_) ?_
   ·
    simp only [pickL, nthO_succ, nthO_zero]
    simp -dsimp -implicitDefEqProofs (maxDischargeDepth := 6) [q0, app29 hl7]
    refine (c107_o (H := hr4) ).mono ?_; rintro _ _ ⟨M3, o2, fM3_0, fM3_1, fM3_2, rfl, rfl⟩; simp only [hp_next] at fM3_0 fM3_1 fM3_2
    have eM3_0 : ¬ o2 = N0 + 24 := by omega
    have eM3_1 : ¬ N0 + 24 = o2 := by omega
    try simp -dsimp -implicitDefEqProofs (maxDischargeDepth := 6) [q0, app29 hl7, eM3_0, eM3_1, hp_over_some, hp_over_none]
    refine Pc.mk (c105 hr5) ?_; try simp -dsimp -implicitDefEqProofs (maxDischargeDepth := 6) [q0, app29 hl7, eM3_0, eM3_1, hp_over_some, hp_over_none]
    refine Pc.mk (c108 hr6) ?_; try simp -dsimp -implicitDefEqProofs (maxDischargeDepth := 6) [q0, app29 hl7, eM3_0, eM3_1, hp_over_some, hp_over_none]
    refine (c106 (H := hr8) (by simp [q0, app29 hl7, eM3_0, eM3_1, hp_over_some, hp_over_none])).mono ?_; rintro _ _ ⟨M4, fM4_0, rfl, rfl⟩; simp only [hp_next] at fM4_0
    try simp -dsimp -implicitDefEqProofs (maxDischargeDepth := 6) [q0, app29 hl7, eM3_0, eM3_1, hp_over_some, hp_over_none, hp_over_some, hp_over_none]
    exact hK _ _ ⟨M3, o2, M4, (by omega), (by omega), (by omega), (by omega), rfl, rfl⟩
   rintro a σ ⟨M3, o2, M4, fM3_0, fM3_1, fM3_2, fM4_0, rfl, rfl⟩
   refine gFrz AWP_ref 4 [] [] [(6, .fsl (encL rInstr r8))] (by simp) (cutD (by simp)) ?_
   replace H := Option.some.inj H; subst H
   refine AWP_kp [6] [(6, .fsl (encL rInstr r8))] rfl ?_
   refine AWP_ret ?_
   exact ⟨[.fsl (encL rInstr r8)], by simp, 4, by simp [encL_nil]⟩
  ·
   replace H := ifF C2 H
   refine AWP_sr tok [] [1, 2, 3, 7, 14, 43] (fun a σ => a = [(1, .int .i64 p1), (2, .int .i64 p2), (3, .fptr [.int .i64 p0.Op, .int .i64 p0.Dst, .int .i64 p0.A, .int .i64 p0.B, .int .i64 p0.N] 0), (7, .int .i64 r1), (14, .int .i64 p0.Op), (43, .bool (ieq p0.Op 3))] ∧ σ = hp E0 [] (N0 + 15)) (fun K hK => ?_) ?_
   ·
    skip
    simp -dsimp -implicitDefEqProofs (maxDischargeDepth := 6)
    exact hK _ _ ⟨rfl, rfl⟩
   rintro a σ ⟨rfl, rfl⟩
   refine AWP_cond (ieq p0.Op 3) rfl (fun C3 => ?_) (fun C3 => ?_)
   ·
    replace H := ifT C3 H
    obtain ⟨r9, hr9, H⟩ := bindE H
    refine AWP_sr tok [] [6] (fun a σ => a = [(6, .fsl (encL rInstr r9))] ∧ σ = hp E0 [] (N0 + 19)) (fun K hK => ?_) ?_
    ·
     skip
     simp -dsimp -implicitDefEqProofs (maxDischargeDepth := 6)
     refine (c109 hr9).app ?_; try simp -dsimp -implicitDefEqProofs (maxDischargeDepth := 6)
     exact hK _ _ ⟨rfl, rfl⟩
    rintro a σ ⟨rfl, rfl⟩
    replace H := Option.some.inj H; subst H
    refine AWP_kp [6] [(6, .fsl (encL rInstr r9))] rfl ?_
    refine AWP_ret ?_
    exact ⟨[.fsl (encL rInstr r9)], by simp, 4, by simp [encL_nil]⟩
   ·
    replace H := ifF C3 H
    refine AWP_sr tok [] [1, 2, 3, 7, 14, 48] (fun a σ => a = [(1, .int .i64 p1), (2, .int .i64 p2), (3, .fptr [.int .i64 p0.Op, .int .i64 p0.Dst, .int .i64 p0.A, .int .i64 p0.B, .int .i64 p0.N] 0), (7, .int .i64 r1), (14, .int .i64 p0.Op), (48, .bool (ieq p0.Op 4))] ∧ σ = hp E0 [] (N0 + 17)) (fun K hK => ?_) ?_
    ·
     skip
     simp -dsimp -implicitDefEqProofs (maxDischargeDepth := 6)
     exact hK _ _ ⟨rfl, rfl⟩
    rintro a σ ⟨rfl, rfl⟩
    refine AWP_cond (ieq p0.Op 4) rfl (fun C4 => ?_) (fun C4 => ?_)
    ·
     replace H := ifT C4 H
     have q1 : ∀ σ i, buildSliceA T 29 true i 1 [(0, .agg [.int .i64 20, .int .i64 0, .int .i64 0, .int .i64 0, .int .i64 p2])] σ = some (.fsl (encL rInstr ([(⟨20, 0, 0, 0, p2⟩ : gInstr)] : List gInstr)), σ) := fun _ _ => rfl
     refine AWP_sr tok [2] [6] (fun a σ => a = [(6, .fsl (encL rInstr ([(⟨20, 0, 0, 0, p2⟩ : gInstr)] : List gInstr)))] ∧ σ = hp E0 [] (N0 + 21)) (fun K hK => ?_) ?_
     ·
      skip
      simp -dsimp -implicitDefEqProofs (maxDischargeDepth := 6) [q1]
      exact hK _ _ ⟨rfl, rfl⟩
     rintro a σ ⟨rfl, rfl⟩
     replace H := Option.some.inj H; subst H
     refine AWP_kp [6] [(6, .fsl (encL rInstr ([(⟨20, 0, 0, 0, p2⟩ : gInstr)] : List gInstr)))] rfl ?_
     refine AWP_ret ?_
     exact ⟨[.fsl (encL rInstr ([(⟨20, 0, 0, 0, p2⟩ : gInstr)] : List gInstr))], by simp, 4, by simp [encL_nil]⟩
    ·
     replace H := ifF C4 H
     refine AWP_sr tok [] [1, 2, 3, 7, 14, 53] (fun a σ => a = [(1, .int .i64 p1), (2, .int .i64 p2), (3, .fptr [.int .i64 p0.Op, .int .i64 p0.Dst, .int .i64 p0.A, .int .i64 p0.B, .int .i64 p0.N] 0), (7, .int .i64 r1), (14, .int .i64 p0.Op), (53, .bool (ieq p0.Op 5))] ∧ σ = hp E0 [] (N0 + 19)) (fun K hK => ?_) ?_
     ·
      skip
      simp -dsimp -implicitDefEqProofs (maxDischargeDepth := 6)
      exact hK _ _ ⟨rfl, rfl⟩
     rintro a σ ⟨rfl, rfl⟩
     refine AWP_cond (ieq p0.Op 5) rfl (fun C5 => ?_) (fun C5 => ?_)
     ·
      replace H := ifT C5 H
      obtain ⟨r10, hr10, H⟩ := bindE H
      refine AWP_sr tok [] [6] (fun a σ => a = [(6, .fsl (encL rInstr r10))] ∧ σ = hp E0 [] (N0 + 24)) (fun K hK => ?_) ?_
      ·
       skip
       simp -dsimp -implicitDefEqProofs (maxDischargeDepth := 6)
       refine (c110 hr10).app ?_; try simp -dsimp -implicitDefEqProofs (maxDischargeDepth := 6)
       exact hK _ _ ⟨rfl, rfl⟩
      rintro a σ ⟨rfl, rfl⟩
      replace H := Option.some.inj H; subst H
      refine AWP_kp [6] [(6, .fsl (encL rInstr r10))] rfl ?_
      refine AWP_ret ?_
      exact ⟨[.fsl (encL rInstr r10)], by simp, 4, by simp [encL_nil]⟩
     ·
      replace H := ifF C5 H
      refine AWP_sr tok [] [1, 3, 7, 14, 59] (fun a σ => a = [(1, .int .i64 p1), (3, .fptr [.int .i64 p0.Op, .int .i64 p0.Dst, .int .i64 p0.A, .int .i64 p0.B, .int .i64 p0.N] 0), (7, .int .i64 r1), (14, .int .i64 p0.Op), (59, .bool (ieq p0.Op 6))] ∧ σ = hp E0 [] (N0 + 21)) (fun K hK => ?_) ?_
      ·
       skip
       simp -dsimp -implicitDefEqProofs (maxDischargeDepth := 6)
       exact hK _ _ ⟨rfl, rfl⟩
      rintro a σ ⟨rfl, rfl⟩
      refine AWP_cond (ieq p0.Op 6) rfl (fun C6 => ?_) (fun C6 => ?_)
      ·
       replace H := ifT C6 H
       obtain ⟨r11, hr11, H⟩ := bindE H
       obtain ⟨r12, hr12, H⟩ := bindE H
       obtain ⟨l13, hl13, H⟩ := bindE H
       obtain ⟨r14, hr14, H⟩ := bindE H
       have q2 : ∀ σ i, buildSliceA T 29 true i 1 [(0, .agg [.int .i64 r12.Op, .int .i64 r12.Rd, .int .i64 r12.Rs, .int .i64 r12.Rt, .int .i64 r12.Imm])] σ = some (.fsl (encL rInstr ([r12] : List gInstr)), σ) := fun _ _ => rfl
       refine AWP_sd tok tokM [7] [3, 8, 9] [0, 1, 2, 4, 5, 3, 6, 7, 8, 9, 10] [6] (fun a σ => ∃ M5 o3 : Nat, ∃ M6 : Nat, N0 + 32 ≤ M5 ∧ N0 + 32 ≤ o3 ∧ o3 < M5 ∧ M5 ≤ M6 ∧ a = [(6, .fsl (encL rInstr r14))] ∧ σ = hp E0 [] M6) (by decide) (fun K hK => ?_) ?_
       ·
        simp only [pickL, nthO_succ, nthO_zero]
        simp -dsimp -implicitDefEqProofs (maxDischargeDepth := 6) [q2, app29 hl13]
        refine (c112_o (H := hr11) ).mono ?_; rintro _ _ ⟨M5, o3, fM5_0, fM5_1, fM5_2, rfl, rfl⟩; simp only [hp_next] at fM5_0 fM5_1 fM5_2
        have eM5_0 : ¬ o3 = N0 + 29 := by omega
        have eM5_1 : ¬ N0 + 29 = o3 := by omega
        try simp -dsimp -implicitDefEqProofs (maxDischargeDepth := 6) [q2, app29 hl13, eM5_0, eM5_1, hp_over_some, hp_over_none]
        refine Pc.mk (c113 hr12) ?_; try simp -dsimp -implicitDefEqProofs (maxDischargeDepth := 6) [q2, app29 hl13, eM5_0, eM5_1, hp_over_some, hp_over_none]
        refine (c111 (H := hr14) (by simp [q2, app29 hl13, eM5_0, eM5_1, hp_over_some, hp_over_none])).mono ?_; rintro _ _ ⟨M6, fM6_0, rfl, rfl⟩; simp only [hp_next] at fM6_0
        try simp -dsimp -implicitDefEqProofs (maxDischargeDepth := 6) [q2, app29 hl13, eM5_0, eM5_1, hp_over_some, hp_over_none, hp_over_some, hp_over_none]
        exact hK _ _ ⟨M5, o3, M6, (by omega), (by omega), (by omega), (by omega), rfl, rfl⟩
       rintro a σ ⟨M5, o3, M6, fM5_0, fM5_1, fM5_2, fM6_0, rfl, rfl⟩
       refine gFrz AWP_ref 4 [] [] [(6, .fsl (encL rInstr r14))] (by simp) (cutD (by simp)) ?_
       replace H := Option.some.inj H; subst H
       refine AWP_kp [6] [(6, .fsl (encL rInstr r14))] rfl ?_
       refine AWP_ret ?_
       exact ⟨[.fsl (encL rInstr r14)], by simp, 4, by simp [encL_nil]⟩
      ·
       replace H := ifF C6 H
       refine AWP_sr tok [] [1, 3, 7, 14, 71] (fun a σ => a = [(1, .int .i64 p1), (3, .fptr [.int .i64 p0.Op, .int .i64 p0.Dst, .int .i64 p0.A, .int .i64 p0.B, .int .i64 p0.N] 0), (7, .int .i64 r1), (14, .int .i64 p0.Op), (71, .bool (ieq p0.Op 7))] ∧ σ = hp E0 [] (N0 + 23)) (fun K hK => ?_) ?_
       ·
        skip
        simp -dsimp -implicitDefEqProofs (maxDischargeDepth := 6)
        exact hK _ _ ⟨rfl, rfl⟩
       rintro a σ ⟨rfl, rfl⟩
       refine AWP_cond (ieq p0.Op 7) rfl (fun C7 => ?_) (fun C7 => ?_)
       ·
        replace H := ifT C7 H
        obtain ⟨r15, hr15, H⟩ := bindE H
        obtain ⟨l16, hl16, H⟩ := bindE H
        obtain ⟨r17, hr17, H⟩ := bindE H
        have q3 : ∀ σ i, buildSliceA T 29 false i 1 [(0, .agg [.int .i64 r15.Op, .int .i64 r15.Rd, .int .i64 r15.Rs, .int .i64 r15.Rt, .int .i64 r15.Imm])] σ = some (.sl i 0 (List.length l16), σ.put i ⟨47, 5, encL rInstr l16⟩) := by rw [← Option.some.inj hl16]; intro _ _; rfl
        refine AWP_sr tok [] [1, 3, 7, 8] (fun a σ => ∃ M7 o4 : Nat, N0 + 29 ≤ M7 ∧ N0 + 29 ≤ o4 ∧ o4 < M7 ∧ a = [(1, .int .i64 p1), (3, .fptr [.int .i64 p0.Op, .int .i64 p0.Dst, .int .i64 p0.A, .int .i64 p0.B, .int .i64 p0.N] 0), (7, .int .i64 r1), (8, .sl o4 0 r17.length)] ∧ σ = hp E0 [(o4, some ⟨47, 5, encL rInstr r17⟩)] M7) (fun K hK => ?_) ?_
        ·
         skip
         simp -dsimp -implicitDefEqProofs (maxDischargeDepth := 6) [q3]
         refine (c113 hr15).app ?_; try simp -dsimp -implicitDefEqProofs (maxDischargeDepth := 6) [q3]
         refine (c111_o (H := hr17) (by simp [q3])).mono ?_; rintro _ _ ⟨M7, o4, fM7_0, fM7_1, fM7_2, rfl, rfl⟩; simp only [hp_next] at fM7_0 fM7_1 fM7_2
         have eM7_0 : ¬ o4 = N0 + 26 := by omega
         have eM7_1 : ¬ N0 + 26 = o4 := by omega
         try simp -dsimp -implicitDefEqProofs (maxDischargeDepth := 6) [q3, eM7_0, eM7_1, hp_over_some, hp_over_none]
         exact hK _ _ ⟨M7, o4, (by omega), (by omega), (by omega), rfl, rfl⟩
        rintro a σ ⟨M7, o4, fM7_0, fM7_1, fM7_2, rfl, rfl⟩
        obtain ⟨r18, hr18, H⟩ := bindE H
        obtain ⟨l19, hl19, H⟩ := bindE H
        obtain ⟨r20, hr20, H⟩ := bindE H
        have q4 : ∀ σ i, buildSliceA T 29 true i 1 [(0, .agg [.int .i64 r18.Op, .int .i64 r18.Rd, .int .i64 r18.Rs, .int .i64 r18.Rt, .int .i64 r18.Imm])] σ = some (.fsl (encL rInstr ([r18] : List gInstr)), σ) := fun _ _ => rfl
        refine AWP_sd tok tokM [3] [4, 8] [0, 1, 2, 3, 5, 6, 7, 4, 8, 9] [6] (fun a σ => ∃ M8 : Nat, M7 + 10 ≤ M8 ∧ a = [(6, .fsl (encL rInstr r20))] ∧ σ = hp E0 [] M8) (by decide) (fun K hK => ?_) ?_
        ·
         simp only [pickL, nthO_succ, nthO_zero]
         have e0 : ¬ o4 = M7 + 4 := by omega
         have e1 : ¬ M7 + 4 = o4 := by omega
         simp -dsimp -implicitDefEqProofs (maxDischargeDepth := 6) [e0, e1, q4, app29 hl19]
         refine Pc.mk (c108 hr18) ?_; try simp -dsimp -implicitDefEqProofs (maxDischargeDepth := 6) [e0, e1, q4, app29 hl19]
         refine (c106 (H := hr20) (by simp [e0, e1, q4, app29 hl19])).mono ?_; rintro _ _ ⟨M8, fM8_0, rfl, rfl⟩; simp only [hp_next] at fM8_0
         try simp -dsimp -implicitDefEqProofs (maxDischargeDepth := 6) [e0, e1, q4, app29 hl19, hp_over_some, hp_over_none]
         exact hK _ _ ⟨M8, (by omega), rfl, rfl⟩
        rintro a σ ⟨M8, fM8_0, rfl, rfl⟩
        refine gFrz AWP_ref 4 [] [] [(6, .fsl (encL rInstr r20))] (by simp) (cutD (by simp)) ?_
        replace H := Option.some.inj H; subst H
        refine AWP_kp [6] [(6, .fsl (encL rInstr r20))] rfl ?_
        refine AWP_ret ?_
        exact ⟨[.fsl (encL rInstr r20)], by simp, 4, by simp [encL_nil]⟩
       ·
        replace H := ifF C7 H
        refine AWP_sr tok [] [1, 3, 14, 87] (fun a σ => a = [(1, .int .i64 p1), (3, .fptr [.int .i64 p0.Op, .int .i64 p0.Dst, .int .i64 p0.A, .int .i64 p0.B, .int .i64 p0.N] 0), (14, .int .i64 p0.Op), (87, .bool (ieq p0.Op 8))] ∧ σ = hp E0 [] (N0 + 25)) (fun K hK => ?_) ?_
        ·
         skip
         simp -dsimp -implicitDefEqProofs (maxDischargeDepth := 6)
         exact hK _ _ ⟨rfl, rfl⟩
        rintro a σ ⟨rfl, rfl⟩
        refine AWP_cond (ieq p0.Op 8) rfl (fun C8 => ?_) (fun C8 => ?_)
        ·
         replace H := ifT C8 H
         obtain ⟨l21, hl21, H⟩ := bindE H
         obtain ⟨r22, hr22, H⟩ := bindE H
         have q5 : ∀ σ i, buildSliceA T 29 false i 0 [] σ = some (.sl i 0 (List.length l21), σ.put i ⟨47, 5, encL rInstr l21⟩) := by rw [← Option.some.inj hl21]; intro _ _; rfl
         refine AWP_sr tok [] [6] (fun a σ => ∃ M9 : Nat, N0 + 28 ≤ M9 ∧ a = [(6, .fsl (encL rInstr r22))] ∧ σ = hp E0 [] M9) (fun K hK => ?_) ?_
         ·
          skip
          simp -dsimp -implicitDefEqProofs (maxDischargeDepth := 6) [q5]
          refine (c111 (H := hr22) (by simp [q5])).mono ?_; rintro _ _ ⟨M9, fM9_0, rfl, rfl⟩; simp only [hp_next] at fM9_0
          try simp -dsimp -implicitDefEqProofs (maxDischargeDepth := 6) [q5, hp_over_some, hp_over_none]
          exact hK _ _ ⟨M9, (by omega), rfl, rfl⟩
         rintro a σ ⟨M9, fM9_0, rfl, rfl⟩
         replace H := Option.some.inj H; subst H
         refine AWP_kp [6] [(6, .fsl (encL rInstr r22))] rfl ?_
         refine AWP_ret ?_
         exact ⟨[.fsl (encL rInstr r22)], by simp, 4, by simp [encL_nil]⟩
        ·
         replace H := ifF C8 H
         refine AWP_sr tok [] [1, 3, 91] (fun a σ => a = [(1, .int .i64 p1), (3, .fptr [.int .i64 p0.Op, .int .i64 p0.Dst, .int .i64 p0.A, .int .i64 p0.B, .int .i64 p0.N] 0), (91, .bool (ieq p0.Op 9))] ∧ σ = hp E0 [] (N0 + 27)) (fun K hK => ?_) ?_
         ·
          skip
          simp -dsimp -implicitDefEqProofs (maxDischargeDepth := 6)
          exact hK _ _ ⟨rfl, rfl⟩
         rintro a σ ⟨rfl, rfl⟩
         refine AWP_cond (ieq p0.Op 9) rfl (fun C9 => ?_) (fun C9 => ?_)
         ·
          replace H := ifT C9 H
          obtain ⟨r23, hr23, H⟩ := bindE H
          obtain ⟨r24, hr24, H⟩ := bindE H
          refine AWP_sr tok [] [6] (fun a σ => ∃ M10 o5 : Nat, ∃ M11 : Nat, N0 + 33 ≤ M10 ∧ N0 + 33 ≤ o5 ∧ o5 < M10 ∧ M10 ≤ M11 ∧ a = [(6, .fsl (encL rInstr r24))] ∧ σ = hp E0 [] M11) (fun K hK => ?_) ?_
          ·
           skip
           simp -dsimp -implicitDefEqProofs (maxDischargeDepth := 6)
           refine (c112_o (H := hr23) ).mono ?_; rintro _ _ ⟨M10, o5, fM10_0, fM10_1, fM10_2, rfl, rfl⟩; simp only [hp_next] at fM10_0 fM10_1 fM10_2
           try simp -dsimp -implicitDefEqProofs (maxDischargeDepth := 6) [hp_over_some, hp_over_none]
           refine (c111 (H := hr24) (by simp [hp_over_some, hp_over_none])).mono ?_; rintro _ _ ⟨M11, fM11_0, rfl, rfl⟩; simp only [hp_next] at fM11_0
           try simp -dsimp -implicitDefEqProofs (maxDischargeDepth := 6) [hp_over_some, hp_over_none, hp_over_some, hp_over_none]
           exact hK _ _ ⟨M10, o5, M11, (by omega), (by omega), (by omega), (by omega), rfl, rfl⟩
          rintro a σ ⟨M10, o5, M11, fM10_0, fM10_1, fM10_2, fM11_0, rfl, rfl⟩
          replace H := Option.some.inj H; subst H
          refine AWP_kp [6] [(6, .fsl (encL rInstr r24))] rfl ?_
          refine AWP_ret ?_
          exact ⟨[.fsl (encL rInstr r24)], by simp, 4, by simp [encL_nil]⟩
         ·
          replace H := ifF C9 H
          refine AWP_skip ?_
          show K1 _ _
          refine keepE (l := []) (x := []) rfl fun a' ha => ?_
          refine hK1 _ _ ?_; rw [ha]
          refine Rc.mk ?_
          obtain ⟨l25, hl25, H⟩ := bindE H
          obtain ⟨r26, hr26, H⟩ := bindE H
          have q6 : ∀ σ i, buildSliceA T 29 false i 0 [] σ = some (.sl i 0 (List.length l25), σ.put i ⟨47, 5, encL rInstr l25⟩) := by rw [← Option.some.inj hl25]; intro _ _; rfl
          refine AWP_sr tok [] [6] (fun a σ => ∃ M12 : Nat, N0 + 30 ≤ M12 ∧ a = [(6, .fsl (encL rInstr r26))] ∧ σ = hp E0 [] M12) (fun K hK => ?_) ?_
          ·
           skip
           simp -dsimp -implicitDefEqProofs (maxDischargeDepth := 6) [q6]
           refine (c111 (H := hr26) (by simp [q6])).mono ?_; rintro _ _ ⟨M12, fM12_0, rfl, rfl⟩; simp only [hp_next] at fM12_0
           try simp -dsimp -implicitDefEqProofs (maxDischargeDepth := 6) [q6, hp_over_some, hp_over_none]
           exact hK _ _ ⟨M12, (by omega), rfl, rfl⟩
          rintro a σ ⟨M12, fM12_0, rfl, rfl⟩
          replace H := Option.some.inj H; subst H
          refine AWP_kp [6] [(6, .fsl (encL rInstr r26))] rfl ?_
          refine AWP_ret ?_
          exact ⟨[.fsl (encL rInstr r26)], by simp, 4, by simp [encL_nil]⟩
theorem c82 {p0 : (List gQuad)} {p1 : Int} {r : (List Int)} (H : s_l43Places p0 p1 = some r) : APure Tryd.prog G 82 [.fsl (encL rQuad p0), .int .i64 p1] (.fsl (encL rI r)) := by
 refine APure_fn (fun N0 => ?_) (by simp)
 refine ACalls_fn tok Tryd.func82 (by kernel_rfl) rfl Tryd.ntmps82 Tryd.results82 rfl ?_
 simp only [argsA, Nat.reduceAdd, hp_next]
 unfold s_l43Places at H
 refine AWP_sr tok [] [0, 1] (fun a σ => a = [(0, .fsl (encL rQuad p0)), (1, .int .i64 p1)] ∧ σ = hp E0 [] (N0 + 1)) (fun K hK => ?_) ?_
 ·
  skip
  simp -dsimp -implicitDefEqProofs (maxDischargeDepth := 6)
  exact hK _ _ ⟨rfl, rfl⟩
 rintro a σ ⟨rfl, rfl⟩
 have q0 : ∀ σ i, buildSliceA T 24 true i 0 [] σ = some (.esl, σ) := fun _ _ => rfl
 refine AWP_sr tok [0] [0, 1, 5] (fun a σ => a = [(0, .fsl (encL rQuad p0)), (1, .int .i64 p1), (5, .esl)] ∧ σ = hp E0 [] (N0 + 3)) (fun K hK => ?_) ?_
 ·
  skip
  simp -dsimp -implicitDefEqProofs (maxDischargeDepth := 6) [q0]
  exact hK _ _ ⟨rfl, rfl⟩
 rintro a σ ⟨rfl, rfl⟩
 refine AWP_sr tok [] [0, 1, 5, 6] (fun a σ => a = [(0, .fsl (encL rQuad p0)), (1, .int .i64 p1), (5, .esl), (6, .int .i64 0)] ∧ σ = hp E0 [] (N0 + 4)) (fun K hK => ?_) ?_
 ·
  skip
  simp -dsimp -implicitDefEqProofs (maxDischargeDepth := 6)
  exact hK _ _ ⟨rfl, rfl⟩
 rintro a σ ⟨rfl, rfl⟩
 refine AWP_sq [5] fun K1 hK1 => ?_
 refine AWP_sr tok [] [0, 1, 5, 6, 7] (fun a σ => a = [(0, .fsl (encL rQuad p0)), (1, .int .i64 p1), (5, .esl), (6, .int .i64 0), (7, .int .i64 0)] ∧ σ = hp E0 [] (N0 + 5)) (fun K hK => ?_) ?_
 ·
  skip
  simp -dsimp -implicitDefEqProofs (maxDischargeDepth := 6)
  exact hK _ _ ⟨rfl, rfl⟩
 rintro a σ ⟨rfl, rfl⟩
 refine AWP_block (AWP_thenB ?_)
 obtain ⟨e1, hse1, H⟩ := bindE H
 refine AWP_lp [0, 1, 5, 6, 7] (fun s a σ => ∃ M1 o1 : Nat, N0 ≤ M1 ∧ N0 ≤ o1 ∧ o1 < M1 ∧ a = [(0, .fsl (encL rQuad p0)), (1, .int .i64 p1), (5, .sl o1 0 s.2.2.length), (6, .int .i64 s.1), (7, .int .i64 s.2.1)] ∧ σ = hp E0 [(o1, some ⟨3, 1, encL rI s.2.2⟩)] M1) (fun s x a σ => x = .exit 0 ∧ Rc G 29 N0 (fun a σ => ∃ M2 o2 : Nat, N0 ≤ M2 ∧ N0 ≤ o2 ∧ o2 < M2 ∧ a = [(5, .sl o2 0 s.length)] ∧ σ = hp E0 [(o2, some ⟨3, 1, encL rI s⟩)] M2) (AAct.keep a [5]) σ) hse1 ?_ ?_ ?_
 ·
  refine Rc.kp [0, 1, 5, 6, 7] [(0, .fsl (encL rQuad p0)), (1, .int .i64 p1), (5, .esl), (6, .int .i64 0), (7, .int .i64 0)] rfl ?_
  refine gNilS Rc_ref 5 3 1 [(N0 + 5, some ⟨3, 1, encL rI ([] : List Int)⟩)] [(0, .fsl (encL rQuad p0)), (1, .int .i64 p1), (5, .sl (N0 + 5) 0 ([] : List Int).length), (6, .int .i64 0), (7, .int .i64 0)] (by simp) (by simp [encL_nil]) [0, 1, 5, 6, 7] rfl ?_
  exact Rc.fin (AHeap.Sub.refl _) ⟨N0 + 6, (N0 + 5), (by omega), (by omega), (by omega), rfl, rfl⟩
 ·
  clear H hse1
  rintro ⟨s1, s2, s3⟩ fl a σ H ⟨M1, o1, fM1_0, fM1_1, fM1_2, rfl, rfl⟩ K2 O2 hK2 hO2
  unfold s_l43Places_L1 at H; dsimp only at H
  refine AWP_sq [0, 1, 5, 6, 7] fun K3 hK3 => ?_
  refine AWP_sr tok [] [0, 1, 5, 6, 7, 12] (fun a σ => a = [(0, .fsl (encL rQuad p0)), (1, .int .i64 p1), (5, .sl o1 0 s3.length), (6, .int .i64 s1), (7, .int .i64 s2), (12, .bool (ilt s2 (ilen p0)))] ∧ σ = hp E0 [(o1, some ⟨3, 1, encL rI s3⟩)] (M1 + 4)) (fun K hK => ?_) ?_
  ·
   skip
   simp -dsimp -implicitDefEqProofs (maxDischargeDepth := 6)
   exact hK _ _ ⟨rfl, rfl⟩
  rintro a σ ⟨rfl, rfl⟩
  refine AWP_cond (ilt s2 (ilen p0)) rfl (fun C1 => ?_) (fun C1 => ?_)
  ·
   replace H := ifT C1 H
   refine AWP_skip ?_
   show K3 _ _
   refine keepE (l := [0, 1, 5, 6, 7]) (x := [(0, .fsl (encL rQuad p0)), (1, .int .i64 p1), (5, .sl o1 0 s3.length), (6, .int .i64 s1), (7, .int .i64 s2)]) rfl fun a' ha => ?_
   refine hK3 _ _ ?_; rw [ha]
   refine Rc.mk ?_
   refine AWP_sq [0, 1, 5, 6, 7] fun K4 hK4 => ?_
   refine AWP_block (AWP_thenB ?_)
   obtain ⟨l5, hl5, H⟩ := bindE H
   have q1 : ∀ σ i, buildSliceA T 24 true i 1 [(0, .int .i64 s1)] σ = some (.fsl (encL rI ([s1] : List Int)), σ) := fun _ _ => rfl
   refine AWP_sr tok [2] [0, 1, 5, 6, 7] (fun a σ => a = [(0, .fsl (encL rQuad p0)), (1, .int .i64 p1), (5, .sl (M1 + 7) 0 l5.length), (6, .int .i64 s1), (7, .int .i64 s2)] ∧ σ = hp E0 [(M1 + 7, some ⟨3, 1, encL rI l5⟩)] (M1 + 9)) (fun K hK => ?_) ?_
   ·
    skip
    have e0 : ¬ o1 = M1 + 7 := by omega
    have e1 : ¬ M1 + 7 = o1 := by omega
    simp -dsimp -implicitDefEqProofs (maxDischargeDepth := 6) [e0, e1, q1, app24 hl5]
    exact hK _ _ ⟨rfl, rfl⟩
   rintro a σ ⟨rfl, rfl⟩
   obtain ⟨v6, hv6, H⟩ := bindE H
   obtain ⟨r7, hr7, H⟩ := bindE H
   refine AWP_rt tok [] [0, 1, 5, 6, 7] (fun a σ => a = [(0, .fsl (encL rQuad p0)), (1, .int .i64 p1), (5, .sl (M1 + 7) 0 l5.length), (6, .int .i64 (iadd .i64 s1 (ilen r7))), (7, .int .i64 s2)] ∧ σ = hp E0 [(M1 + 7, some ⟨3, 1, encL rI l5⟩)] (M1 + 19)) (fun K hK => ?_) ?_
   ·
    skip
    simp -dsimp -implicitDefEqProofs (maxDischargeDepth := 6) [ix59 hv6]
    refine (c66 hr7).app ?_; try simp -dsimp -implicitDefEqProofs (maxDischargeDepth := 6) [ix59 hv6]
    exact hK _ _ ⟨rfl, rfl⟩
   rintro a σ ⟨ha, rfl⟩
   refine hK4 _ _ ?_; rw [ha]
   refine Rc.mk ?_
   refine AWP_rt tok [] [0, 1, 5, 6, 7] (fun a σ => a = [(0, .fsl (encL rQuad p0)), (1, .int .i64 p1), (5, .sl (M1 + 7) 0 l5.length), (6, .int .i64 (iadd .i64 s1 (ilen r7))), (7, .int .i64 (iadd .i64 s2 1))] ∧ σ = hp E0 [(M1 + 7, some ⟨3, 1, encL rI l5⟩)] (M1 + 22)) (fun K hK => ?_) ?_
   ·
    skip
    simp -dsimp -implicitDefEqProofs (maxDischargeDepth := 6)
    exact hK _ _ ⟨rfl, rfl⟩
   rintro a σ ⟨ha, rfl⟩
   replace H := Option.some.inj H; subst H
   refine hK2 _ _ _ rfl ?_; rw [ha]
   exact Rc.fin (AHeap.Sub.refl _) ⟨M1 + 22, (M1 + 7), (by omega), (by omega), (by omega), rfl, rfl⟩
  ·
   replace H := ifF C1 H
   replace H := Option.some.inj H; subst H
   refine AWP_exit (hO2 _ _ _ _ rfl ⟨rfl, ?_⟩)
   refine Rc.rw (l := [5]) (X := [(5, .sl o1 0 s3.length)]) rfl ?_
   exact Rc.fin (AHeap.Sub.refl _) ⟨M1 + 4, o1, (by omega), (by omega), (by omega), rfl, rfl⟩
 ·
  intro x a σ hx
  obtain ⟨y4, rfl⟩ : ∃ x, x = e1 := ⟨_, rfl⟩
  obtain ⟨rfl, b, τ, hr, M2, o2, fM2_0, fM2_1, fM2_2, rfl, rfl⟩ := hx
  dsimp only at H
  show K1 _ _
  refine hK1 _ _ (Rc_ref hr ?_)
  refine Rc.mk ?_
  refine AWP_sr tok [] [4] (fun a σ => a = [(4, .sl o2 0 y4.length)] ∧ σ = hp E0 [(o2, some ⟨3, 1, encL rI y4⟩)] (M2 + 2)) (fun K hK => ?_) ?_
  ·
   skip
   simp -dsimp -implicitDefEqProofs (maxDischargeDepth := 6)
   exact hK _ _ ⟨rfl, rfl⟩
  rintro a σ ⟨rfl, rfl⟩
  replace H := Option.some.inj H; subst H
  refine AWP_kp [4] [(4, .sl o2 0 y4.length)] rfl ?_
  refine AWP_ret ?_
  exact ⟨[.sl o2 0 y4.length], by simp, 4, by simp [encL_nil]⟩
theorem c36 {p0 : (List gQuad)} {p1 : Int} {r : (List Int)} (H : s_TaskPlaces p0 p1 = some r) : APure Tryd.prog G 36 [.fsl (encL rQuad p0), .int .i64 p1] (.fsl (encL rI r)) := by
 refine APure_fn (fun N0 => ?_) (by simp)
 refine ACalls_fn tok Tryd.func36 (by kernel_rfl) rfl Tryd.ntmps36 Tryd.results36 rfl ?_
 simp only [argsA, Nat.reduceAdd, hp_next]
 unfold s_TaskPlaces at H
 refine AWP_sr tok [] [0, 1] (fun a σ => a = [(0, .fsl (encL rQuad p0)), (1, .int .i64 p1)] ∧ σ = hp E0 [] (N0 + 1)) (fun K hK => ?_) ?_
 ·
  skip
  simp -dsimp -implicitDefEqProofs (maxDischargeDepth := 6)
  exact hK _ _ ⟨rfl, rfl⟩
 rintro a σ ⟨rfl, rfl⟩
 refine AWP_sq [0, 1] fun K1 hK1 => ?_
 obtain ⟨r1, hr1, H⟩ := bindE H
 obtain ⟨g3, hg3, H⟩ := bindE H
 refine AWP_sr tok [] [0, 1, 12] (fun a σ => a = [(0, .fsl (encL rQuad p0)), (1, .int .i64 p1), (12, .bool g3)] ∧ σ = hp E0 [] (N0 + 9)) (fun K hK => ?_) ?_
 ·
  skip
  simp -dsimp -implicitDefEqProofs (maxDischargeDepth := 6)
  refine (c81 hr1).app ?_; try simp -dsimp -implicitDefEqProofs (maxDischargeDepth := 6)
  cases hbg3 : bnot r1
  ·
   replace hg3 := ifF hbg3 hg3
   obtain ⟨r2, hr2, hg3⟩ := bindE hg3
   replace hg3 := Option.some.inj hg3; subst hg3
   try simp -dsimp -implicitDefEqProofs (maxDischargeDepth := 6) [hbg3]
   refine (c65 hr2).app ?_; try simp -dsimp -implicitDefEqProofs (maxDischargeDepth := 6) [hbg3]
   exact hK _ _ ⟨rfl, rfl⟩
  ·
   replace hg3 := ifT hbg3 hg3
   replace hg3 := Option.some.inj hg3; subst hg3
   try simp -dsimp -implicitDefEqProofs (maxDischargeDepth := 6) [hbg3]
   exact hK _ _ ⟨rfl, rfl⟩
 rintro a σ ⟨rfl, rfl⟩
 refine AWP_cond g3 rfl (fun C1 => ?_) (fun C1 => ?_)
 ·
  replace H := ifT C1 H
  have q0 : ∀ σ i, buildSliceA T 24 true i 0 [] σ = some (.esl, σ) := fun _ _ => rfl
  refine AWP_sr tok [0] [4] (fun a σ => a = [(4, .esl)] ∧ σ = hp E0 [] (N0 + 11)) (fun K hK => ?_) ?_
  ·
   skip
   simp -dsimp -implicitDefEqProofs (maxDischargeDepth := 6) [q0]
   exact hK _ _ ⟨rfl, rfl⟩
  rintro a σ ⟨rfl, rfl⟩
  replace H := Option.some.inj H; subst H
  refine AWP_kp [4] [(4, .esl)] rfl ?_
  refine AWP_ret ?_
  exact ⟨[.esl], by simp, 4, by simp [encL_nil]⟩
 ·
  replace H := ifF C1 H
  refine AWP_skip ?_
  show K1 _ _
  refine keepE (l := [0, 1]) (x := [(0, .fsl (encL rQuad p0)), (1, .int .i64 p1)]) rfl fun a' ha => ?_
  refine hK1 _ _ ?_; rw [ha]
  refine Rc.mk ?_
  obtain ⟨r4, hr4, H⟩ := bindE H
  refine AWP_sr tok [] [4] (fun a σ => a = [(4, .fsl (encL rI r4))] ∧ σ = hp E0 [] (N0 + 13)) (fun K hK => ?_) ?_
  ·
   skip
   simp -dsimp -implicitDefEqProofs (maxDischargeDepth := 6)
   refine (c82 hr4).app ?_; try simp -dsimp -implicitDefEqProofs (maxDischargeDepth := 6)
   exact hK _ _ ⟨rfl, rfl⟩
  rintro a σ ⟨rfl, rfl⟩
  replace H := Option.some.inj H; subst H
  refine AWP_kp [4] [(4, .fsl (encL rI r4))] rfl ?_
  refine AWP_ret ?_
  exact ⟨[.fsl (encL rI r4)], by simp, 4, by simp [encL_nil]⟩
theorem c114 {p0 : Int} {r : Bool} (H : i_isReg p0 = some r) : APure Tryd.prog G 114 [.int .i64 p0] (.bool r) := by
 refine APure_fn (fun N0 => ?_) (by simp)
 refine ACalls_fn tok Tryd.func114 (by kernel_rfl) rfl Tryd.ntmps114 Tryd.results114 rfl ?_
 simp only [argsA, Nat.reduceAdd, hp_next]
 unfold i_isReg at H
 refine AWP_sr tok [] [0] (fun a σ => a = [(0, .int .i64 p0)] ∧ σ = hp E0 [] (N0 + 1)) (fun K hK => ?_) ?_
 ·
  skip
  simp -dsimp -implicitDefEqProofs (maxDischargeDepth := 6)
  exact hK _ _ ⟨rfl, rfl⟩
 rintro a σ ⟨rfl, rfl⟩
 obtain ⟨g1, hg1, H⟩ := bindE H
 refine AWP_sr tok [] [2] (fun a σ => a = [(2, .bool g1)] ∧ σ = hp E0 [] (N0 + 8)) (fun K hK => ?_) ?_
 ·
  skip
  simp -dsimp -implicitDefEqProofs (maxDischargeDepth := 6)
  cases hbg1 : ige p0 0
  ·
   replace hg1 := ifF hbg1 hg1
   replace hg1 := Option.some.inj hg1; subst hg1
   try simp -dsimp -implicitDefEqProofs (maxDischargeDepth := 6) [hbg1]
   exact hK _ _ ⟨rfl, rfl⟩
  ·
   replace hg1 := ifT hbg1 hg1
   replace hg1 := Option.some.inj hg1; subst hg1
   try simp -dsimp -implicitDefEqProofs (maxDischargeDepth := 6) [hbg1]
   exact hK _ _ ⟨rfl, rfl⟩
 rintro a σ ⟨rfl, rfl⟩
 replace H := Option.some.inj H; subst H
 refine AWP_kp [2] [(2, .bool g1)] rfl ?_
 refine AWP_ret ?_
 exact ⟨[.bool g1], by simp, 4, by simp [encL_nil]⟩
theorem c73 {p0 : Int} {r : Bool} (H : i_WordValid p0 = some r) : APure Tryd.prog G 73 [.int .i64 p0] (.bool r) := by
 refine APure_fn (fun N0 => ?_) (by simp)
 refine ACalls_fn tok Tryd.func73 (by kernel_rfl) rfl Tryd.ntmps73 Tryd.results73 rfl ?_
 simp only [argsA, Nat.reduceAdd, hp_next]
 unfold i_WordValid at H
 refine AWP_sr tok [] [0] (fun a σ => a = [(0, .int .i64 p0)] ∧ σ = hp E0 [] (N0 + 1)) (fun K hK => ?_) ?_
 ·
  skip
  simp -dsimp -implicitDefEqProofs (maxDischargeDepth := 6)
  exact hK _ _ ⟨rfl, rfl⟩
 rintro a σ ⟨rfl, rfl⟩
 obtain ⟨g1, hg1, H⟩ := bindE H
 refine AWP_sr tok [] [2] (fun a σ => a = [(2, .bool g1)] ∧ σ = hp E0 [] (N0 + 8)) (fun K hK => ?_) ?_
 ·
  skip
  simp -dsimp -implicitDefEqProofs (maxDischargeDepth := 6)
  cases hbg1 : ige p0 (-2147483648)
  ·
   replace hg1 := ifF hbg1 hg1
   replace hg1 := Option.some.inj hg1; subst hg1
   try simp -dsimp -implicitDefEqProofs (maxDischargeDepth := 6) [hbg1]
   exact hK _ _ ⟨rfl, rfl⟩
  ·
   replace hg1 := ifT hbg1 hg1
   replace hg1 := Option.some.inj hg1; subst hg1
   try simp -dsimp -implicitDefEqProofs (maxDischargeDepth := 6) [hbg1]
   exact hK _ _ ⟨rfl, rfl⟩
 rintro a σ ⟨rfl, rfl⟩
 replace H := Option.some.inj H; subst H
 refine AWP_kp [2] [(2, .bool g1)] rfl ?_
 refine AWP_ret ?_
 exact ⟨[.bool g1], by simp, 4, by simp [encL_nil]⟩
theorem c99 {p0 : Int} {r : Bool} (H : i_OpValid p0 = some r) : APure Tryd.prog G 99 [.int .i64 p0] (.bool r) := by
 refine APure_fn (fun N0 => ?_) (by simp)
 refine ACalls_fn tok Tryd.func99 (by kernel_rfl) rfl Tryd.ntmps99 Tryd.results99 rfl ?_
 simp only [argsA, Nat.reduceAdd, hp_next]
 unfold i_OpValid at H
 refine AWP_sr tok [] [0] (fun a σ => a = [(0, .int .i64 p0)] ∧ σ = hp E0 [] (N0 + 1)) (fun K hK => ?_) ?_
 ·
  skip
  simp -dsimp -implicitDefEqProofs (maxDischargeDepth := 6)
  exact hK _ _ ⟨rfl, rfl⟩
 rintro a σ ⟨rfl, rfl⟩
 obtain ⟨g1, hg1, H⟩ := bindE H
 refine AWP_sr tok [] [2] (fun a σ => a = [(2, .bool g1)] ∧ σ = hp E0 [] (N0 + 8)) (fun K hK => ?_) ?_
 ·
  skip
  simp -dsimp -implicitDefEqProofs (maxDischargeDepth := 6)
  cases hbg1 : ige p0 1
  ·
   replace hg1 := ifF hbg1 hg1
   replace hg1 := Option.some.inj hg1; subst hg1
   try simp -dsimp -implicitDefEqProofs (maxDischargeDepth := 6) [hbg1]
   exact hK _ _ ⟨rfl, rfl⟩
  ·
   replace hg1 := ifT hbg1 hg1
   replace hg1 := Option.some.inj hg1; subst hg1
   try simp -dsimp -implicitDefEqProofs (maxDischargeDepth := 6) [hbg1]
   exact hK _ _ ⟨rfl, rfl⟩
 rintro a σ ⟨rfl, rfl⟩
 replace H := Option.some.inj H; subst H
 refine AWP_kp [2] [(2, .bool g1)] rfl ?_
 refine AWP_ret ?_
 exact ⟨[.bool g1], by simp, 4, by simp [encL_nil]⟩
theorem c67 {p0 : gQuad} {p1 : Int} {r : Bool} (H : i_QuadValid p0 p1 = some r) : APure Tryd.prog G 67 [.agg [.int .i64 p0.Op, .int .i64 p0.Dst, .int .i64 p0.A, .int .i64 p0.B, .int .i64 p0.N], .int .i64 p1] (.bool r) := by
 refine APure_fn (fun N0 => ?_) (by simp)
 refine ACalls_fn tok Tryd.func67 (by kernel_rfl) rfl Tryd.ntmps67 Tryd.results67 rfl ?_
 simp only [argsA, Nat.reduceAdd, hp_next]
 unfold i_QuadValid at H
 refine AWP_sr tok [0] [1, 2] (fun a σ => a = [(1, .int .i64 p1), (2, .fptr [.int .i64 p0.Op, .int .i64 p0.Dst, .int .i64 p0.A, .int .i64 p0.B, .int .i64 p0.N] 0)] ∧ σ = hp E0 [] (N0 + 2)) (fun K hK => ?_) ?_
 ·
  skip
  simp -dsimp -implicitDefEqProofs (maxDischargeDepth := 6)
  exact hK _ _ ⟨rfl, rfl⟩
 rintro a σ ⟨rfl, rfl⟩
 obtain ⟨r1, hr1, H⟩ := bindE H
 obtain ⟨r2, hr2, H⟩ := bindE H
 obtain ⟨r3, hr3, H⟩ := bindE H
 refine AWP_sd tok tokM [] [] [0, 1, 2, 3, 4, 5, 6, 7, 8, 9, 10, 11, 12, 13, 14] [1, 2, 5, 6, 7, 8] (fun a σ => a = [(1, .int .i64 p1), (2, .fptr [.int .i64 p0.Op, .int .i64 p0.Dst, .int .i64 p0.A, .int .i64 p0.B, .int .i64 p0.N] 0), (5, .bool r1), (6, .bool r2), (7, .bool r3), (8, .int .i64 p0.N)] ∧ σ = hp E0 [] (N0 + 17)) (by decide) (fun K hK => ?_) ?_
 ·
  simp only [pickL, nthO_succ, nthO_zero]
  simp -dsimp -implicitDefEqProofs (maxDischargeDepth := 6)
  refine Pc.mk (c114 hr1) ?_; try simp -dsimp -implicitDefEqProofs (maxDischargeDepth := 6)
  refine Pc.mk (c114 hr2) ?_; try simp -dsimp -implicitDefEqProofs (maxDischargeDepth := 6)
  refine Pc.mk (c114 hr3) ?_; try simp -dsimp -implicitDefEqProofs (maxDischargeDepth := 6)
  exact hK _ _ ⟨rfl, rfl⟩
 rintro a σ ⟨rfl, rfl⟩
 refine AWP_sq [] fun K1 hK1 => ?_
 refine AWP_sr tok [] [1, 2, 5, 6, 7, 8, 21] (fun a σ => a = [(1, .int .i64 p1), (2, .fptr [.int .i64 p0.Op, .int .i64 p0.Dst, .int .i64 p0.A, .int .i64 p0.B, .int .i64 p0.N] 0), (5, .bool r1), (6, .bool r2), (7, .bool r3), (8, .int .i64 p0.N), (21, .int .i64 p0.Op)] ∧ σ = hp E0 [] (N0 + 19)) (fun K hK => ?_) ?_
 ·
  skip
  simp -dsimp -implicitDefEqProofs (maxDischargeDepth := 6)
  exact hK _ _ ⟨rfl, rfl⟩
 rintro a σ ⟨rfl, rfl⟩
 refine AWP_block (AWP_thenB ?_)
 refine AWP_sr tok [] [1, 2, 5, 6, 7, 8, 21, 22] (fun a σ => a = [(1, .int .i64 p1), (2, .fptr [.int .i64 p0.Op, .int .i64 p0.Dst, .int .i64 p0.A, .int .i64 p0.B, .int .i64 p0.N] 0), (5, .bool r1), (6, .bool r2), (7, .bool r3), (8, .int .i64 p0.N), (21, .int .i64 p0.Op), (22, .bool (ieq p0.Op 1))] ∧ σ = hp E0 [] (N0 + 21)) (fun K hK => ?_) ?_
 ·
  skip
  simp -dsimp -implicitDefEqProofs (maxDischargeDepth := 6)
  exact hK _ _ ⟨rfl, rfl⟩
 rintro a σ ⟨rfl, rfl⟩
 refine AWP_cond (ieq p0.Op 1) rfl (fun C1 => ?_) (fun C1 => ?_)
 ·
  replace H := ifT C1 H
  obtain ⟨g4, hg4, H⟩ := bindE H
  obtain ⟨g6, hg6, H⟩ := bindE H
  refine AWP_sr tok [] [4] (fun a σ => a = [(4, .bool g6)] ∧ σ = hp E0 [] (N0 + 35)) (fun K hK => ?_) ?_
  ·
   skip
   simp -dsimp -implicitDefEqProofs (maxDischargeDepth := 6)
   cases hbg4 : eqD p0 (⟨1, p0.Dst, 0, 0, p0.N⟩ : gQuad)
   ·
    replace hg4 := ifF hbg4 hg4
    replace hg4 := Option.some.inj hg4; subst hg4
    try simp -dsimp -implicitDefEqProofs (maxDischargeDepth := 6) [hbg4]
    replace hg6 := ifF rfl hg6
    replace hg6 := Option.some.inj hg6; subst hg6
    try simp -dsimp -implicitDefEqProofs (maxDischargeDepth := 6) [hbg4]
    exact hK _ _ ⟨rfl, rfl⟩
   ·
    replace hg4 := ifT hbg4 hg4
    replace hg4 := Option.some.inj hg4; subst hg4
    try simp -dsimp -implicitDefEqProofs (maxDischargeDepth := 6) [hbg4]
    cases hbg6 : r1
    ·
     replace hg6 := ifF hbg6 hg6
     replace hg6 := Option.some.inj hg6; subst hg6
     try simp -dsimp -implicitDefEqProofs (maxDischargeDepth := 6) [hbg4, hbg6]
     exact hK _ _ ⟨rfl, rfl⟩
    ·
     replace hg6 := ifT hbg6 hg6
     obtain ⟨r5, hr5, hg6⟩ := bindE hg6
     replace hg6 := Option.some.inj hg6; subst hg6
     try simp -dsimp -implicitDefEqProofs (maxDischargeDepth := 6) [hbg4, hbg6]
     refine (c73 hr5).app ?_; try simp -dsimp -implicitDefEqProofs (maxDischargeDepth := 6) [hbg4, hbg6]
     exact hK _ _ ⟨rfl, rfl⟩
  rintro a σ ⟨rfl, rfl⟩
  replace H := Option.some.inj H; subst H
  refine AWP_kp [4] [(4, .bool g6)] rfl ?_
  refine AWP_ret ?_
  exact ⟨[.bool g6], by simp, 4, by simp [encL_nil]⟩
 ·
  replace H := ifF C1 H
  refine AWP_sr tok [] [1, 2, 5, 6, 7, 8, 21, 37] (fun a σ => a = [(1, .int .i64 p1), (2, .fptr [.int .i64 p0.Op, .int .i64 p0.Dst, .int .i64 p0.A, .int .i64 p0.B, .int .i64 p0.N] 0), (5, .bool r1), (6, .bool r2), (7, .bool r3), (8, .int .i64 p0.N), (21, .int .i64 p0.Op), (37, .bool (ieq p0.Op 2))] ∧ σ = hp E0 [] (N0 + 23)) (fun K hK => ?_) ?_
  ·
   skip
   simp -dsimp -implicitDefEqProofs (maxDischargeDepth := 6)
   exact hK _ _ ⟨rfl, rfl⟩
  rintro a σ ⟨rfl, rfl⟩
  refine AWP_cond (ieq p0.Op 2) rfl (fun C2 => ?_) (fun C2 => ?_)
  ·
   replace H := ifT C2 H
   obtain ⟨g7, hg7, H⟩ := bindE H
   obtain ⟨g8, hg8, H⟩ := bindE H
   refine AWP_sr tok [] [4] (fun a σ => a = [(4, .bool g8)] ∧ σ = hp E0 [] (N0 + 37)) (fun K hK => ?_) ?_
   ·
    skip
    simp -dsimp -implicitDefEqProofs (maxDischargeDepth := 6)
    cases hbg7 : eqD p0 (⟨2, p0.Dst, p0.A, 0, 0⟩ : gQuad)
    ·
     replace hg7 := ifF hbg7 hg7
     replace hg7 := Option.some.inj hg7; subst hg7
     try simp -dsimp -implicitDefEqProofs (maxDischargeDepth := 6) [hbg7]
     replace hg8 := ifF rfl hg8
     replace hg8 := Option.some.inj hg8; subst hg8
     try simp -dsimp -implicitDefEqProofs (maxDischargeDepth := 6) [hbg7]
     exact hK _ _ ⟨rfl, rfl⟩
    ·
     replace hg7 := ifT hbg7 hg7
     replace hg7 := Option.some.inj hg7; subst hg7
     try simp -dsimp -implicitDefEqProofs (maxDischargeDepth := 6) [hbg7]
     cases hbg8 : r1
     ·
      replace hg8 := ifF hbg8 hg8
      replace hg8 := Option.some.inj hg8; subst hg8
      try simp -dsimp -implicitDefEqProofs (maxDischargeDepth := 6) [hbg7, hbg8]
      exact hK _ _ ⟨rfl, rfl⟩
     ·
      replace hg8 := ifT hbg8 hg8
      replace hg8 := Option.some.inj hg8; subst hg8
      try simp -dsimp -implicitDefEqProofs (maxDischargeDepth := 6) [hbg7, hbg8]
      exact hK _ _ ⟨rfl, rfl⟩
   rintro a σ ⟨rfl, rfl⟩
   replace H := Option.some.inj H; subst H
   refine AWP_kp [4] [(4, .bool g8)] rfl ?_
   refine AWP_ret ?_
   exact ⟨[.bool g8], by simp, 4, by simp [encL_nil]⟩
  ·
   replace H := ifF C2 H
   refine AWP_sr tok [] [1, 2, 5, 6, 7, 8, 21, 52] (fun a σ => a = [(1, .int .i64 p1), (2, .fptr [.int .i64 p0.Op, .int .i64 p0.Dst, .int .i64 p0.A, .int .i64 p0.B, .int .i64 p0.N] 0), (5, .bool r1), (6, .bool r2), (7, .bool r3), (8, .int .i64 p0.N), (21, .int .i64 p0.Op), (52, .bool (ieq p0.Op 3))] ∧ σ = hp E0 [] (N0 + 25)) (fun K hK => ?_) ?_
   ·
    skip
    simp -dsimp -implicitDefEqProofs (maxDischargeDepth := 6)
    exact hK _ _ ⟨rfl, rfl⟩
   rintro a σ ⟨rfl, rfl⟩
   refine AWP_cond (ieq p0.Op 3) rfl (fun C3 => ?_) (fun C3 => ?_)
   ·
    replace H := ifT C3 H
    obtain ⟨g9, hg9, H⟩ := bindE H
    obtain ⟨g10, hg10, H⟩ := bindE H
    obtain ⟨g12, hg12, H⟩ := bindE H
    refine AWP_sr tok [] [4] (fun a σ => a = [(4, .bool g12)] ∧ σ = hp E0 [] (N0 + 37)) (fun K hK => ?_) ?_
    ·
     skip
     simp -dsimp -implicitDefEqProofs (maxDischargeDepth := 6)
     cases hbg9 : r1
     ·
      replace hg9 := ifF hbg9 hg9
      replace hg9 := Option.some.inj hg9; subst hg9
      try simp -dsimp -implicitDefEqProofs (maxDischargeDepth := 6) [hbg9]
      replace hg10 := ifF rfl hg10
      replace hg10 := Option.some.inj hg10; subst hg10
      try simp -dsimp -implicitDefEqProofs (maxDischargeDepth := 6) [hbg9]
      replace hg12 := ifF rfl hg12
      replace hg12 := Option.some.inj hg12; subst hg12
      try simp -dsimp -implicitDefEqProofs (maxDischargeDepth := 6) [hbg9]
      exact hK _ _ ⟨rfl, rfl⟩
     ·
      replace hg9 := ifT hbg9 hg9
      replace hg9 := Option.some.inj hg9; subst hg9
      try simp -dsimp -implicitDefEqProofs (maxDischargeDepth := 6) [hbg9]
      cases hbg10 : r2
      ·
       replace hg10 := ifF hbg10 hg10
       replace hg10 := Option.some.inj hg10; subst hg10
       try simp -dsimp -implicitDefEqProofs (maxDischargeDepth := 6) [hbg9, hbg10]
       replace hg12 := ifF rfl hg12
       replace hg12 := Option.some.inj hg12; subst hg12
       try simp -dsimp -implicitDefEqProofs (maxDischargeDepth := 6) [hbg9, hbg10]
       exact hK _ _ ⟨rfl, rfl⟩
      ·
       replace hg10 := ifT hbg10 hg10
       replace hg10 := Option.some.inj hg10; subst hg10
       try simp -dsimp -implicitDefEqProofs (maxDischargeDepth := 6) [hbg9, hbg10]
       cases hbg12 : r3
       ·
        replace hg12 := ifF hbg12 hg12
        replace hg12 := Option.some.inj hg12; subst hg12
        try simp -dsimp -implicitDefEqProofs (maxDischargeDepth := 6) [hbg9, hbg10, hbg12]
        exact hK _ _ ⟨rfl, rfl⟩
       ·
        replace hg12 := ifT hbg12 hg12
        obtain ⟨r11, hr11, hg12⟩ := bindE hg12
        replace hg12 := Option.some.inj hg12; subst hg12
        try simp -dsimp -implicitDefEqProofs (maxDischargeDepth := 6) [hbg9, hbg10, hbg12]
        refine (c99 hr11).app ?_; try simp -dsimp -implicitDefEqProofs (maxDischargeDepth := 6) [hbg9, hbg10, hbg12]
        exact hK _ _ ⟨rfl, rfl⟩
    rintro a σ ⟨rfl, rfl⟩
    replace H := Option.some.inj H; subst H
    refine AWP_kp [4] [(4, .bool g12)] rfl ?_
    refine AWP_ret ?_
    exact ⟨[.bool g12], by simp, 4, by simp [encL_nil]⟩
   ·
    replace H := ifF C3 H
    refine AWP_sr tok [] [1, 2, 5, 6, 8, 21, 65] (fun a σ => a = [(1, .int .i64 p1), (2, .fptr [.int .i64 p0.Op, .int .i64 p0.Dst, .int .i64 p0.A, .int .i64 p0.B, .int .i64 p0.N] 0), (5, .bool r1), (6, .bool r2), (8, .int .i64 p0.N), (21, .int .i64 p0.Op), (65, .bool (ieq p0.Op 4))] ∧ σ = hp E0 [] (N0 + 27)) (fun K hK => ?_) ?_
    ·
     skip
     simp -dsimp -implicitDefEqProofs (maxDischargeDepth := 6)
     exact hK _ _ ⟨rfl, rfl⟩
    rintro a σ ⟨rfl, rfl⟩
    refine AWP_cond (ieq p0.Op 4) rfl (fun C4 => ?_) (fun C4 => ?_)
    ·
     replace H := ifT C4 H
     obtain ⟨g13, hg13, H⟩ := bindE H
     obtain ⟨g14, hg14, H⟩ := bindE H
     refine AWP_sr tok [] [4] (fun a σ => a = [(4, .bool g14)] ∧ σ = hp E0 [] (N0 + 41)) (fun K hK => ?_) ?_
     ·
      skip
      simp -dsimp -implicitDefEqProofs (maxDischargeDepth := 6)
      cases hbg13 : eqD p0 (⟨4, 0, 0, 0, p0.N⟩ : gQuad)
      ·
       replace hg13 := ifF hbg13 hg13
       replace hg13 := Option.some.inj hg13; subst hg13
       try simp -dsimp -implicitDefEqProofs (maxDischargeDepth := 6) [hbg13]
       replace hg14 := ifF rfl hg14
       replace hg14 := Option.some.inj hg14; subst hg14
       try simp -dsimp -implicitDefEqProofs (maxDischargeDepth := 6) [hbg13]
       exact hK _ _ ⟨rfl, rfl⟩
      ·
       replace hg13 := ifT hbg13 hg13
       replace hg13 := Option.some.inj hg13; subst hg13
       try simp -dsimp -implicitDefEqProofs (maxDischargeDepth := 6) [hbg13]
       cases hbg14 : (ige p0.N 0)
       ·
        replace hg14 := ifF hbg14 hg14
        replace hg14 := Option.some.inj hg14; subst hg14
        try simp -dsimp -implicitDefEqProofs (maxDischargeDepth := 6) [hbg13, hbg14]
        exact hK _ _ ⟨rfl, rfl⟩
       ·
        replace hg14 := ifT hbg14 hg14
        replace hg14 := Option.some.inj hg14; subst hg14
        try simp -dsimp -implicitDefEqProofs (maxDischargeDepth := 6) [hbg13, hbg14]
        exact hK _ _ ⟨rfl, rfl⟩
     rintro a σ ⟨rfl, rfl⟩
     replace H := Option.some.inj H; subst H
     refine AWP_kp [4] [(4, .bool g14)] rfl ?_
     refine AWP_ret ?_
     exact ⟨[.bool g14], by simp, 4, by simp [encL_nil]⟩
    ·
     replace H := ifF C4 H
     refine AWP_sr tok [] [1, 2, 5, 6, 8, 21, 80] (fun a σ => a = [(1, .int .i64 p1), (2, .fptr [.int .i64 p0.Op, .int .i64 p0.Dst, .int .i64 p0.A, .int .i64 p0.B, .int .i64 p0.N] 0), (5, .bool r1), (6, .bool r2), (8, .int .i64 p0.N), (21, .int .i64 p0.Op), (80, .bool (ieq p0.Op 5))] ∧ σ = hp E0 [] (N0 + 29)) (fun K hK => ?_) ?_
     ·
      skip
      simp -dsimp -implicitDefEqProofs (maxDischargeDepth := 6)
      exact hK _ _ ⟨rfl, rfl⟩
     rintro a σ ⟨rfl, rfl⟩
     refine AWP_cond (ieq p0.Op 5) rfl (fun C5 => ?_) (fun C5 => ?_)
     ·
      replace H := ifT C5 H
      obtain ⟨g15, hg15, H⟩ := bindE H
      obtain ⟨g16, hg16, H⟩ := bindE H
      obtain ⟨g17, hg17, H⟩ := bindE H
      refine AWP_sr tok [] [4] (fun a σ => a = [(4, .bool g17)] ∧ σ = hp E0 [] (N0 + 48)) (fun K hK => ?_) ?_
      ·
       skip
       simp -dsimp -implicitDefEqProofs (maxDischargeDepth := 6)
       cases hbg15 : eqD p0 (⟨5, 0, p0.A, 0, p0.N⟩ : gQuad)
       ·
        replace hg15 := ifF hbg15 hg15
        replace hg15 := Option.some.inj hg15; subst hg15
        try simp -dsimp -implicitDefEqProofs (maxDischargeDepth := 6) [hbg15]
        replace hg16 := ifF rfl hg16
        replace hg16 := Option.some.inj hg16; subst hg16
        try simp -dsimp -implicitDefEqProofs (maxDischargeDepth := 6) [hbg15]
        replace hg17 := ifF rfl hg17
        replace hg17 := Option.some.inj hg17; subst hg17
        try simp -dsimp -implicitDefEqProofs (maxDischargeDepth := 6) [hbg15]
        exact hK _ _ ⟨rfl, rfl⟩
       ·
        replace hg15 := ifT hbg15 hg15
        replace hg15 := Option.some.inj hg15; subst hg15
        try simp -dsimp -implicitDefEqProofs (maxDischargeDepth := 6) [hbg15]
        cases hbg16 : r2
        ·
         replace hg16 := ifF hbg16 hg16
         replace hg16 := Option.some.inj hg16; subst hg16
         try simp -dsimp -implicitDefEqProofs (maxDischargeDepth := 6) [hbg15, hbg16]
         replace hg17 := ifF rfl hg17
         replace hg17 := Option.some.inj hg17; subst hg17
         try simp -dsimp -implicitDefEqProofs (maxDischargeDepth := 6) [hbg15, hbg16]
         exact hK _ _ ⟨rfl, rfl⟩
        ·
         replace hg16 := ifT hbg16 hg16
         replace hg16 := Option.some.inj hg16; subst hg16
         try simp -dsimp -implicitDefEqProofs (maxDischargeDepth := 6) [hbg15, hbg16]
         cases hbg17 : (ige p0.N 0)
         ·
          replace hg17 := ifF hbg17 hg17
          replace hg17 := Option.some.inj hg17; subst hg17
          try simp -dsimp -implicitDefEqProofs (maxDischargeDepth := 6) [hbg15, hbg16, hbg17]
          exact hK _ _ ⟨rfl, rfl⟩
         ·
          replace hg17 := ifT hbg17 hg17
          replace hg17 := Option.some.inj hg17; subst hg17
          try simp -dsimp -implicitDefEqProofs (maxDischargeDepth := 6) [hbg15, hbg16, hbg17]
          exact hK _ _ ⟨rfl, rfl⟩
      rintro a σ ⟨rfl, rfl⟩
      replace H := Option.some.inj H; subst H
      refine AWP_kp [4] [(4, .bool g17)] rfl ?_
      refine AWP_ret ?_
      exact ⟨[.bool g17], by simp, 4, by simp [encL_nil]⟩
     ·
      replace H := ifF C5 H
      refine AWP_sr tok [] [2, 5, 6, 8, 21, 100] (fun a σ => a = [(2, .fptr [.int .i64 p0.Op, .int .i64 p0.Dst, .int .i64 p0.A, .int .i64 p0.B, .int .i64 p0.N] 0), (5, .bool r1), (6, .bool r2), (8, .int .i64 p0.N), (21, .int .i64 p0.Op), (100, .bool (ieq p0.Op 6))] ∧ σ = hp E0 [] (N0 + 31)) (fun K hK => ?_) ?_
      ·
       skip
       simp -dsimp -implicitDefEqProofs (maxDischargeDepth := 6)
       exact hK _ _ ⟨rfl, rfl⟩
      rintro a σ ⟨rfl, rfl⟩
      refine AWP_cond (ieq p0.Op 6) rfl (fun C6 => ?_) (fun C6 => ?_)
      ·
       replace H := ifT C6 H
       obtain ⟨g18, hg18, H⟩ := bindE H
       obtain ⟨g19, hg19, H⟩ := bindE H
       obtain ⟨g20, hg20, H⟩ := bindE H
       refine AWP_sr tok [] [4] (fun a σ => a = [(4, .bool g20)] ∧ σ = hp E0 [] (N0 + 49)) (fun K hK => ?_) ?_
       ·
        skip
        simp -dsimp -implicitDefEqProofs (maxDischargeDepth := 6)
        cases hbg18 : eqD p0 (⟨6, 0, p0.A, 0, p0.N⟩ : gQuad)
        ·
         replace hg18 := ifF hbg18 hg18
         replace hg18 := Option.some.inj hg18; subst hg18
         try simp -dsimp -implicitDefEqProofs (maxDischargeDepth := 6) [hbg18]
         replace hg19 := ifF rfl hg19
         replace hg19 := Option.some.inj hg19; subst hg19
         try simp -dsimp -implicitDefEqProofs (maxDischargeDepth := 6) [hbg18]
         replace hg20 := ifF rfl hg20
         replace hg20 := Option.some.inj hg20; subst hg20
         try simp -dsimp -implicitDefEqProofs (maxDischargeDepth := 6) [hbg18]
         exact hK _ _ ⟨rfl, rfl⟩
        ·
         replace hg18 := ifT hbg18 hg18
         replace hg18 := Option.some.inj hg18; subst hg18
         try simp -dsimp -implicitDefEqProofs (maxDischargeDepth := 6) [hbg18]
         cases hbg19 : r2
         ·
          replace hg19 := ifF hbg19 hg19
          replace hg19 := Option.some.inj hg19; subst hg19
          try simp -dsimp -implicitDefEqProofs (maxDischargeDepth := 6) [hbg18, hbg19]
          replace hg20 := ifF rfl hg20
          replace hg20 := Option.some.inj hg20; subst hg20
          try simp -dsimp -implicitDefEqProofs (maxDischargeDepth := 6) [hbg18, hbg19]
          exact hK _ _ ⟨rfl, rfl⟩
         ·
          replace hg19 := ifT hbg19 hg19
          replace hg19 := Option.some.inj hg19; subst hg19
          try simp -dsimp -implicitDefEqProofs (maxDischargeDepth := 6) [hbg18, hbg19]
          cases hbg20 : (ige p0.N 0)
          ·
           replace hg20 := ifF hbg20 hg20
           replace hg20 := Option.some.inj hg20; subst hg20
           try simp -dsimp -implicitDefEqProofs (maxDischargeDepth := 6) [hbg18, hbg19, hbg20]
           exact hK _ _ ⟨rfl, rfl⟩
          ·
           replace hg20 := ifT hbg20 hg20
           replace hg20 := Option.some.inj hg20; subst hg20
           try simp -dsimp -implicitDefEqProofs (maxDischargeDepth := 6) [hbg18, hbg19, hbg20]
           exact hK _ _ ⟨rfl, rfl⟩
       rintro a σ ⟨rfl, rfl⟩
       replace H := Option.some.inj H; subst H
       refine AWP_kp [4] [(4, .bool g20)] rfl ?_
       refine AWP_ret ?_
       exact ⟨[.bool g20], by simp, 4, by simp [encL_nil]⟩
      ·
       replace H := ifF C6 H
       refine AWP_sr tok [] [2, 5, 6, 8, 21, 119] (fun a σ => a = [(2, .fptr [.int .i64 p0.Op, .int .i64 p0.Dst, .int .i64 p0.A, .int .i64 p0.B, .int .i64 p0.N] 0), (5, .bool r1), (6, .bool r2), (8, .int .i64 p0.N), (21, .int .i64 p0.Op), (119, .bool (ieq p0.Op 7))] ∧ σ = hp E0 [] (N0 + 33)) (fun K hK => ?_) ?_
       ·
        skip
        simp -dsimp -implicitDefEqProofs (maxDischargeDepth := 6)
        exact hK _ _ ⟨rfl, rfl⟩
       rintro a σ ⟨rfl, rfl⟩
       refine AWP_cond (ieq p0.Op 7) rfl (fun C7 => ?_) (fun C7 => ?_)
       ·
        replace H := ifT C7 H
        obtain ⟨g21, hg21, H⟩ := bindE H
        obtain ⟨g22, hg22, H⟩ := bindE H
        obtain ⟨g23, hg23, H⟩ := bindE H
        refine AWP_sr tok [] [4] (fun a σ => a = [(4, .bool g23)] ∧ σ = hp E0 [] (N0 + 51)) (fun K hK => ?_) ?_
        ·
         skip
         simp -dsimp -implicitDefEqProofs (maxDischargeDepth := 6)
         cases hbg21 : eqD p0 (⟨7, p0.Dst, 0, 0, p0.N⟩ : gQuad)
         ·
          replace hg21 := ifF hbg21 hg21
          replace hg21 := Option.some.inj hg21; subst hg21
          try simp -dsimp -implicitDefEqProofs (maxDischargeDepth := 6) [hbg21]
          replace hg22 := ifF rfl hg22
          replace hg22 := Option.some.inj hg22; subst hg22
          try simp -dsimp -implicitDefEqProofs (maxDischargeDepth := 6) [hbg21]
          replace hg23 := ifF rfl hg23
          replace hg23 := Option.some.inj hg23; subst hg23
          try simp -dsimp -implicitDefEqProofs (maxDischargeDepth := 6) [hbg21]
          exact hK _ _ ⟨rfl, rfl⟩
         ·
          replace hg21 := ifT hbg21 hg21
          replace hg21 := Option.some.inj hg21; subst hg21
          try simp -dsimp -implicitDefEqProofs (maxDischargeDepth := 6) [hbg21]
          cases hbg22 : r1
          ·
           replace hg22 := ifF hbg22 hg22
           replace hg22 := Option.some.inj hg22; subst hg22
           try simp -dsimp -implicitDefEqProofs (maxDischargeDepth := 6) [hbg21, hbg22]
           replace hg23 := ifF rfl hg23
           replace hg23 := Option.some.inj hg23; subst hg23
           try simp -dsimp -implicitDefEqProofs (maxDischargeDepth := 6) [hbg21, hbg22]
           exact hK _ _ ⟨rfl, rfl⟩
          ·
           replace hg22 := ifT hbg22 hg22
           replace hg22 := Option.some.inj hg22; subst hg22
           try simp -dsimp -implicitDefEqProofs (maxDischargeDepth := 6) [hbg21, hbg22]
           cases hbg23 : (ige p0.N 0)
           ·
            replace hg23 := ifF hbg23 hg23
            replace hg23 := Option.some.inj hg23; subst hg23
            try simp -dsimp -implicitDefEqProofs (maxDischargeDepth := 6) [hbg21, hbg22, hbg23]
            exact hK _ _ ⟨rfl, rfl⟩
           ·
            replace hg23 := ifT hbg23 hg23
            replace hg23 := Option.some.inj hg23; subst hg23
            try simp -dsimp -implicitDefEqProofs (maxDischargeDepth := 6) [hbg21, hbg22, hbg23]
            exact hK _ _ ⟨rfl, rfl⟩
        rintro a σ ⟨rfl, rfl⟩
        replace H := Option.some.inj H; subst H
        refine AWP_kp [4] [(4, .bool g23)] rfl ?_
        refine AWP_ret ?_
        exact ⟨[.bool g23], by simp, 4, by simp [encL_nil]⟩
       ·
        replace H := ifF C7 H
        refine AWP_sr tok [] [2, 6, 21, 138] (fun a σ => a = [(2, .fptr [.int .i64 p0.Op, .int .i64 p0.Dst, .int .i64 p0.A, .int .i64 p0.B, .int .i64 p0.N] 0), (6, .bool r2), (21, .int .i64 p0.Op), (138, .bool (ieq p0.Op 9))] ∧ σ = hp E0 [] (N0 + 35)) (fun K hK => ?_) ?_
        ·
         skip
         simp -dsimp -implicitDefEqProofs (maxDischargeDepth := 6)
         exact hK _ _ ⟨rfl, rfl⟩
        rintro a σ ⟨rfl, rfl⟩
        refine AWP_cond (ieq p0.Op 9) rfl (fun C8 => ?_) (fun C8 => ?_)
        ·
         replace H := ifT C8 H
         obtain ⟨g24, hg24, H⟩ := bindE H
         refine AWP_sr tok [] [4] (fun a σ => a = [(4, .bool g24)] ∧ σ = hp E0 [] (N0 + 44)) (fun K hK => ?_) ?_
         ·
          skip
          simp -dsimp -implicitDefEqProofs (maxDischargeDepth := 6)
          cases hbg24 : eqD p0 (⟨9, 0, p0.A, 0, 0⟩ : gQuad)
          ·
           replace hg24 := ifF hbg24 hg24
           replace hg24 := Option.some.inj hg24; subst hg24
           try simp -dsimp -implicitDefEqProofs (maxDischargeDepth := 6) [hbg24]
           exact hK _ _ ⟨rfl, rfl⟩
          ·
           replace hg24 := ifT hbg24 hg24
           replace hg24 := Option.some.inj hg24; subst hg24
           try simp -dsimp -implicitDefEqProofs (maxDischargeDepth := 6) [hbg24]
           exact hK _ _ ⟨rfl, rfl⟩
         rintro a σ ⟨rfl, rfl⟩
         replace H := Option.some.inj H; subst H
         refine AWP_kp [4] [(4, .bool g24)] rfl ?_
         refine AWP_ret ?_
         exact ⟨[.bool g24], by simp, 4, by simp [encL_nil]⟩
        ·
         replace H := ifF C8 H
         obtain ⟨j1, hj1, H⟩ := bindE H
         refine AWP_seq (AWP_named fun K2 hK2 => ?_)
         have hJ1 : ∀ a σ, Rc G 156 N0 (fun a σ => ∃ M1 : Nat, N0 ≤ M1 ∧ a = [(2, .fptr [.int .i64 p0.Op, .int .i64 p0.Dst, .int .i64 p0.A, .int .i64 p0.B, .int .i64 p0.N] 0), (148, .bool j1)] ∧ σ = hp E0 [] M1) (a.keep [2, 148]) σ → K2 a σ := by
          rintro a σ ⟨b, τ, hr, M1, fM1_0, rfl, rfl⟩
          refine hK2 _ _ (AWP_keep [2, 148] (AWP_ref hr ?_))
          refine AWP_cond j1 rfl (fun C9 => ?_) (fun C9 => ?_)
          ·
           replace H := ifT C9 H
           refine AWP_sr tok [] [4] (fun a σ => a = [(4, .bool (eqD p0 (⟨p0.Op, 0, 0, 0, 0⟩ : gQuad)))] ∧ σ = hp E0 [] (M1 + 6)) (fun K hK => ?_) ?_
           ·
            skip
            simp -dsimp -implicitDefEqProofs (maxDischargeDepth := 6)
            exact hK _ _ ⟨rfl, rfl⟩
           rintro a σ ⟨rfl, rfl⟩
           replace H := Option.some.inj H; subst H
           refine AWP_kp [4] [(4, .bool (eqD p0 (⟨p0.Op, 0, 0, 0, 0⟩ : gQuad)))] rfl ?_
           refine AWP_ret ?_
           exact ⟨[.bool (eqD p0 (⟨p0.Op, 0, 0, 0, 0⟩ : gQuad))], by simp, 4, by simp [encL_nil]⟩
          ·
           replace H := ifF C9 H
           refine AWP_skip ?_
           show K1 _ _
           refine keepE (l := []) (x := []) rfl fun a' ha => ?_
           refine hK1 _ _ ?_; rw [ha]
           refine Rc.mk ?_
           refine AWP_sr tok [] [4] (fun a σ => a = [(4, .bool false)] ∧ σ = hp E0 [] (M1 + 1)) (fun K hK => ?_) ?_
           ·
            skip
            simp -dsimp -implicitDefEqProofs (maxDischargeDepth := 6)
            exact hK _ _ ⟨rfl, rfl⟩
           rintro a σ ⟨rfl, rfl⟩
           replace H := Option.some.inj H; subst H
           refine AWP_kp [4] [(4, .bool false)] rfl ?_
           refine AWP_ret ?_
           exact ⟨[.bool false], by simp, 4, by simp [encL_nil]⟩
         replace H := hj1
         refine AWP_sr tok [] [2, 21, 148] (fun a σ => a = [(2, .fptr [.int .i64 p0.Op, .int .i64 p0.Dst, .int .i64 p0.A, .int .i64 p0.B, .int .i64 p0.N] 0), (21, .int .i64 p0.Op), (148, .bool (ieq p0.Op 8))] ∧ σ = hp E0 [] (N0 + 37)) (fun K hK => ?_) ?_
         ·
          skip
          simp -dsimp -implicitDefEqProofs (maxDischargeDepth := 6)
          exact hK _ _ ⟨rfl, rfl⟩
         rintro a σ ⟨rfl, rfl⟩
         refine AWP_cond (ieq p0.Op 8) rfl (fun C10 => ?_) (fun C10 => ?_)
         ·
          replace H := ifT C10 H
          refine AWP_skip ?_
          show K2 _ _
          refine keepE (l := [2, 148]) (x := [(2, .fptr [.int .i64 p0.Op, .int .i64 p0.Dst, .int .i64 p0.A, .int .i64 p0.B, .int .i64 p0.N] 0), (148, .bool (ieq p0.Op 8))]) rfl fun a' ha => ?_
          replace H := Option.some.inj H; subst H
          refine hJ1 _ _ ?_; rw [ha]
          exact Rc.fin (AHeap.Sub.refl _) ⟨N0 + 37, (by omega), rfl, rfl⟩
         ·
          replace H := ifF C10 H
          refine AWP_rt tok [] [2, 148] (fun a σ => a = [(2, .fptr [.int .i64 p0.Op, .int .i64 p0.Dst, .int .i64 p0.A, .int .i64 p0.B, .int .i64 p0.N] 0), (148, .bool (ieq p0.Op 10))] ∧ σ = hp E0 [] (N0 + 39)) (fun K hK => ?_) ?_
          ·
           skip
           simp -dsimp -implicitDefEqProofs (maxDischargeDepth := 6)
           exact hK _ _ ⟨rfl, rfl⟩
          rintro a σ ⟨ha, rfl⟩
          replace H := Option.some.inj H; subst H
          refine hJ1 _ _ ?_; rw [ha]
          exact Rc.fin (AHeap.Sub.refl _) ⟨N0 + 39, (by omega), rfl, rfl⟩
theorem c83 {p0 : (List gQuad)} {r : Bool} (H : i_CodeValid p0 = some r) : APure Tryd.prog G 83 [.fsl (encL rQuad p0)] (.bool r) := by
 refine APure_fn (fun N0 => ?_) (by simp)
 refine ACalls_fn tok Tryd.func83 (by kernel_rfl) rfl Tryd.ntmps83 Tryd.results83 rfl ?_
 simp only [argsA, Nat.reduceAdd, hp_next]
 unfold i_CodeValid at H
 refine AWP_sr tok [] [0] (fun a σ => a = [(0, .fsl (encL rQuad p0))] ∧ σ = hp E0 [] (N0 + 1)) (fun K hK => ?_) ?_
 ·
  skip
  simp -dsimp -implicitDefEqProofs (maxDischargeDepth := 6)
  exact hK _ _ ⟨rfl, rfl⟩
 rintro a σ ⟨rfl, rfl⟩
 refine AWP_sq [0] fun K1 hK1 => ?_
 obtain ⟨g1, hg1, H⟩ := bindE H
 refine AWP_sr tok [] [0, 13] (fun a σ => a = [(0, .fsl (encL rQuad p0)), (13, .bool g1)] ∧ σ = hp E0 [] (N0 + 9)) (fun K hK => ?_) ?_
 ·
  skip
  simp -dsimp -implicitDefEqProofs (maxDischargeDepth := 6)
  cases hbg1 : ilt (ilen p0) 1
  ·
   replace hg1 := ifF hbg1 hg1
   replace hg1 := Option.some.inj hg1; subst hg1
   try simp -dsimp -implicitDefEqProofs (maxDischargeDepth := 6) [hbg1]
   exact hK _ _ ⟨rfl, rfl⟩
  ·
   replace hg1 := ifT hbg1 hg1
   replace hg1 := Option.some.inj hg1; subst hg1
   try simp -dsimp -implicitDefEqProofs (maxDischargeDepth := 6) [hbg1]
   exact hK _ _ ⟨rfl, rfl⟩
 rintro a σ ⟨rfl, rfl⟩
 refine AWP_cond g1 rfl (fun C1 => ?_) (fun C1 => ?_)
 ·
  replace H := ifT C1 H
  refine AWP_sr tok [] [2] (fun a σ => a = [(2, .bool false)] ∧ σ = hp E0 [] (N0 + 10)) (fun K hK => ?_) ?_
  ·
   skip
   simp -dsimp -implicitDefEqProofs (maxDischargeDepth := 6)
   exact hK _ _ ⟨rfl, rfl⟩
  rintro a σ ⟨rfl, rfl⟩
  replace H := Option.some.inj H; subst H
  refine AWP_kp [2] [(2, .bool false)] rfl ?_
  refine AWP_ret ?_
  exact ⟨[.bool false], by simp, 4, by simp [encL_nil]⟩
 ·
  replace H := ifF C1 H
  refine AWP_skip ?_
  show K1 _ _
  refine keepE (l := [0]) (x := [(0, .fsl (encL rQuad p0))]) rfl fun a' ha => ?_
  refine hK1 _ _ ?_; rw [ha]
  refine Rc.mk ?_
  refine AWP_sq [0] fun K2 hK2 => ?_
  refine AWP_sr tok [] [0, 14, 15, 16] (fun a σ => a = [(0, .fsl (encL rQuad p0)), (14, .fsl (encL rQuad p0)), (15, .int .i64 (ilen p0)), (16, .int .i64 0)] ∧ σ = hp E0 [] (N0 + 12)) (fun K hK => ?_) ?_
  ·
   skip
   simp -dsimp -implicitDefEqProofs (maxDischargeDepth := 6)
   exact hK _ _ ⟨rfl, rfl⟩
  rintro a σ ⟨rfl, rfl⟩
  refine AWP_block (AWP_thenB ?_)
  obtain ⟨e1, hse1, H⟩ := bindE H
  refine AWP_lp [0, 14, 15, 16] (fun s a σ => ∃ M1 : Nat, N0 ≤ M1 ∧ a = [(0, .fsl (encL rQuad p0)), (14, .fsl (encL rQuad p0)), (15, .int .i64 (ilen p0)), (16, .int .i64 s)] ∧ σ = hp E0 [] M1) (fun e x a σ => match e with | .inl s => x = .exit 0 ∧ Rc G 39 N0 (fun a σ => ∃ M2 : Nat, N0 ≤ M2 ∧ a = [(0, .fsl (encL rQuad p0))] ∧ σ = hp E0 [] M2) (AAct.keep a [0]) σ | .inr s => x = .ret ∧ ∃ vs, resA T σ a [.tmp 2] = some vs ∧ ∃ d, thawA (fun _ => true) σ d (tupA vs) = .bool s) hse1 ?_ ?_ ?_
  ·
   refine Rc.kp [0, 14, 15, 16] [(0, .fsl (encL rQuad p0)), (14, .fsl (encL rQuad p0)), (15, .int .i64 (ilen p0)), (16, .int .i64 0)] rfl ?_
   exact Rc.fin (AHeap.Sub.refl _) ⟨N0 + 12, (by omega), rfl, rfl⟩
  ·
   clear H hse1
   rintro s2 fl a σ H ⟨M1, fM1_0, rfl, rfl⟩ K3 O3 hK3 hO3
   unfold i_CodeValid_L1 at H; dsimp only at H
   refine AWP_sr tok [] [0, 14, 15, 16, 17] (fun a σ => a = [(0, .fsl (encL rQuad p0)), (14, .fsl (encL rQuad p0)), (15, .int .i64 (ilen p0)), (16, .int .i64 s2), (17, .bool (ilt s2 (ilen p0)))] ∧ σ = hp E0 [] (M1 + 1)) (fun K hK => ?_) ?_
   ·
    skip
    simp -dsimp -implicitDefEqProofs (maxDischargeDepth := 6)
    exact hK _ _ ⟨rfl, rfl⟩
   rintro a σ ⟨rfl, rfl⟩
   refine AWP_sq [0, 14, 15, 16] fun K4 hK4 => ?_
   refine AWP_cond (ilt s2 (ilen p0)) rfl (fun C2 => ?_) (fun C2 => ?_)
   ·
    replace H := ifT C2 H
    refine AWP_skip ?_
    show K4 _ _
    refine keepE (l := [0, 14, 15, 16]) (x := [(0, .fsl (encL rQuad p0)), (14, .fsl (encL rQuad p0)), (15, .int .i64 (ilen p0)), (16, .int .i64 s2)]) rfl fun a' ha => ?_
    refine hK4 _ _ ?_; rw [ha]
    refine Rc.mk ?_
    refine AWP_sq [0, 14, 15, 16] fun K5 hK5 => ?_
    refine AWP_block (AWP_thenB ?_)
    obtain ⟨v3, hv3, H⟩ := bindE H
    refine AWP_sr tok [] [0, 4, 14, 15, 16] (fun a σ => a = [(0, .fsl (encL rQuad p0)), (4, .ptr (M1 + 3) 0 0), (14, .fsl (encL rQuad p0)), (15, .int .i64 (ilen p0)), (16, .int .i64 s2)] ∧ σ = hp E0 [(M1 + 3, some ⟨40, 5, [[.int .i64 v3.Op, .int .i64 v3.Dst, .int .i64 v3.A, .int .i64 v3.B, .int .i64 v3.N]]⟩)] (M1 + 5)) (fun K hK => ?_) ?_
    ·
     skip
     simp -dsimp -implicitDefEqProofs (maxDischargeDepth := 6) [ix59 hv3]
     exact hK _ _ ⟨rfl, rfl⟩
    rintro a σ ⟨rfl, rfl⟩
    obtain ⟨r4, hr4, H⟩ := bindE H
    refine AWP_sr tok [] [0, 14, 15, 16, 24] (fun a σ => a = [(0, .fsl (encL rQuad p0)), (14, .fsl (encL rQuad p0)), (15, .int .i64 (ilen p0)), (16, .int .i64 s2), (24, .bool (bnot r4))] ∧ σ = hp E0 [(M1 + 3, some ⟨40, 5, [[.int .i64 v3.Op, .int .i64 v3.Dst, .int .i64 v3.A, .int .i64 v3.B, .int .i64 v3.N]]⟩)] (M1 + 10)) (fun K hK => ?_) ?_
    ·
     skip
     simp -dsimp -implicitDefEqProofs (maxDischargeDepth := 6)
     refine (c67 hr4).app ?_; try simp -dsimp -implicitDefEqProofs (maxDischargeDepth := 6)
     exact hK _ _ ⟨rfl, rfl⟩
    rintro a σ ⟨rfl, rfl⟩
    refine AWP_cond (bnot r4) rfl (fun C3 => ?_) (fun C3 => ?_)
    ·
     replace H := ifT C3 H
     refine AWP_sr tok [] [2] (fun a σ => a = [(2, .bool false)] ∧ σ = hp E0 [(M1 + 3, some ⟨40, 5, [[.int .i64 v3.Op, .int .i64 v3.Dst, .int .i64 v3.A, .int .i64 v3.B, .int .i64 v3.N]]⟩)] (M1 + 11)) (fun K hK => ?_) ?_
     ·
      skip
      simp -dsimp -implicitDefEqProofs (maxDischargeDepth := 6)
      exact hK _ _ ⟨rfl, rfl⟩
     rintro a σ ⟨rfl, rfl⟩
     replace H := Option.some.inj H; subst H
     refine AWP_kp [2] [(2, .bool false)] rfl ?_
     refine AWP_ret (hO3 _ _ _ _ rfl ⟨rfl, ?_⟩)
     exact ⟨[.bool false], by simp, 4, by simp [encL_nil]⟩
    ·
     replace H := ifF C3 H
     refine AWP_skip ?_
     show K5 _ _
     refine keepE (l := [0, 14, 15, 16]) (x := [(0, .fsl (encL rQuad p0)), (14, .fsl (encL rQuad p0)), (15, .int .i64 (ilen p0)), (16, .int .i64 s2)]) rfl fun a' ha => ?_
     refine hK5 _ _ ?_; rw [ha]
     refine Rc.mk ?_
     refine AWP_rt tok [] [0, 14, 15, 16] (fun a σ => a = [(0, .fsl (encL rQuad p0)), (14, .fsl (encL rQuad p0)), (15, .int .i64 (ilen p0)), (16, .int .i64 (iadd .i64 s2 1))] ∧ σ = hp E0 [(M1 + 3, some ⟨40, 5, [[.int .i64 v3.Op, .int .i64 v3.Dst, .int .i64 v3.A, .int .i64 v3.B, .int .i64 v3.N]]⟩)] (M1 + 12)) (fun K hK => ?_) ?_
     ·
      skip
      simp -dsimp -implicitDefEqProofs (maxDischargeDepth := 6)
      exact hK _ _ ⟨rfl, rfl⟩
     rintro a σ ⟨ha, rfl⟩
     replace H := Option.some.inj H; subst H
     refine hK3 _ _ _ rfl ?_; rw [ha]
     exact Rc.fin (AHeap.Sub.trans (AHeap.Sub.refl _) (hp_drop rfl (by simp; try omega))) ⟨M1 + 12, (by omega), rfl, rfl⟩
   ·
    replace H := ifF C2 H
    replace H := Option.some.inj H; subst H
    refine AWP_exit (hO3 _ _ _ _ rfl ⟨rfl, ?_⟩)
    refine Rc.rw (l := [0]) (X := [(0, .fsl (encL rQuad p0))]) rfl ?_
    exact Rc.fin (AHeap.Sub.refl _) ⟨M1 + 1, (by omega), rfl, rfl⟩
  ·
   intro x a σ hx
   rcases e1 with ⟨⟩ | r0
   ·
    obtain ⟨rfl, b, τ, hr, M2, fM2_0, rfl, rfl⟩ := hx
    dsimp only at H
    show K2 _ _
    refine hK2 _ _ (Rc_ref hr ?_)
    refine Rc.mk ?_
    obtain ⟨v5, hv5, H⟩ := bindE H
    refine AWP_sr tok [] [5] (fun a σ => a = [(5, .int .i64 v5.Op)] ∧ σ = hp E0 [] (M2 + 8)) (fun K hK => ?_) ?_
    ·
     skip
     simp -dsimp -implicitDefEqProofs (maxDischargeDepth := 6) [ix59 hv5]
     exact hK _ _ ⟨rfl, rfl⟩
    rintro a σ ⟨rfl, rfl⟩
    obtain ⟨g6, hg6, H⟩ := bindE H
    refine AWP_sr tok [] [2] (fun a σ => a = [(2, .bool g6)] ∧ σ = hp E0 [] (M2 + 15)) (fun K hK => ?_) ?_
    ·
     skip
     simp -dsimp -implicitDefEqProofs (maxDischargeDepth := 6)
     cases hbg6 : ieq v5.Op 10
     ·
      replace hg6 := ifF hbg6 hg6
      replace hg6 := Option.some.inj hg6; subst hg6
      try simp -dsimp -implicitDefEqProofs (maxDischargeDepth := 6) [hbg6]
      exact hK _ _ ⟨rfl, rfl⟩
     ·
      replace hg6 := ifT hbg6 hg6
      replace hg6 := Option.some.inj hg6; subst hg6
      try simp -dsimp -implicitDefEqProofs (maxDischargeDepth := 6) [hbg6]
      exact hK _ _ ⟨rfl, rfl⟩
    rintro a σ ⟨rfl, rfl⟩
    replace H := Option.some.inj H; subst H
    refine AWP_kp [2] [(2, .bool g6)] rfl ?_
    refine AWP_ret ?_
    exact ⟨[.bool g6], by simp, 4, by simp [encL_nil]⟩
   ·
    obtain ⟨rfl, hx2⟩ := hx
    dsimp only at H
    replace H := Option.some.inj H; subst H; exact hx2
theorem c119 {p0 : Int} {p1 : Int} {p2 : Int} {r : gInstr} (H : i_addi p0 p1 p2 = some r) : APure Tryd.prog G 119 [.int .i64 p0, .int .i64 p1, .int .i64 p2] (.agg [.int .i64 r.Op, .int .i64 r.Rd, .int .i64 r.Rs, .int .i64 r.Rt, .int .i64 r.Imm]) := by
 refine APure_fn (fun N0 => ?_) (by simp)
 refine ACalls_fn tok Tryd.func119 (by kernel_rfl) rfl Tryd.ntmps119 Tryd.results119 rfl ?_
 simp only [argsA, Nat.reduceAdd, hp_next]
 unfold i_addi at H
 refine AWP_sr tok [] [0, 1, 2, 6] (fun a σ => a = [(0, .int .i64 p0), (1, .int .i64 p1), (2, .int .i64 p2), (6, .ptr N0 0 0)] ∧ σ = hp E0 [(N0, some ⟨47, 5, [[.int .i64 0, .int .i64 0, .int .i64 0, .int .i64 0, .int .i64 0]]⟩)] (N0 + 1)) (fun K hK => ?_) ?_
 ·
  skip
  simp -dsimp -implicitDefEqProofs (maxDischargeDepth := 6)
  exact hK _ _ ⟨rfl, rfl⟩
 rintro a σ ⟨rfl, rfl⟩
 refine AWP_sr tok [] [6] (fun a σ => a = [(6, .ptr N0 0 0)] ∧ σ = hp E0 [(N0, some ⟨47, 5, [[.int .i64 12, .int .i64 p0, .int .i64 p1, .int .i64 0, .int .i64 p2]]⟩)] (N0 + 6)) (fun K hK => ?_) ?_
 ·
  skip
  simp -dsimp -implicitDefEqProofs (maxDischargeDepth := 6)
  exact hK _ _ ⟨rfl, rfl⟩
 rintro a σ ⟨rfl, rfl⟩
 replace H := Option.some.inj H; subst H
 refine AWP_kp [6] [(6, .ptr N0 0 0)] rfl ?_
 refine AWP_ret ?_
 exact ⟨[.agg [.int .i64 12, .int .i64 p0, .int .i64 p1, .int .i64 0, .int .i64 p2]], by simp, 4, by simp [encL_nil]⟩
theorem c128 {p0 : Int} {r : Int} (H : i_Unsigned p0 = some r) : APure Tryd.prog G 128 [.int .i64 p0] (.int .i64 r) := by
 refine APure_fn (fun N0 => ?_) (by simp)
 refine ACalls_fn tok Tryd.func128 (by kernel_rfl) rfl Tryd.ntmps128 Tryd.results128 rfl ?_
 simp only [argsA, Nat.reduceAdd, hp_next]
 unfold i_Unsigned at H
 refine AWP_sr tok [] [0] (fun a σ => a = [(0, .int .i64 p0)] ∧ σ = hp E0 [] (N0 + 1)) (fun K hK => ?_) ?_
 ·
  skip
  simp -dsimp -implicitDefEqProofs (maxDischargeDepth := 6)
  exact hK _ _ ⟨rfl, rfl⟩
 rintro a σ ⟨rfl, rfl⟩
 refine AWP_sq [0] fun K1 hK1 => ?_
 obtain ⟨r1, hr1, H⟩ := bindE H
 refine AWP_sr tok [] [0, 5] (fun a σ => a = [(0, .int .i64 p0), (5, .bool (bnot r1))] ∧ σ = hp E0 [] (N0 + 4)) (fun K hK => ?_) ?_
 ·
  skip
  simp -dsimp -implicitDefEqProofs (maxDischargeDepth := 6)
  refine (c73 hr1).app ?_; try simp -dsimp -implicitDefEqProofs (maxDischargeDepth := 6)
  exact hK _ _ ⟨rfl, rfl⟩
 rintro a σ ⟨rfl, rfl⟩
 refine AWP_cond (bnot r1) rfl (fun C1 => ?_) (fun C1 => ?_)
 ·
  replace H := ifT C1 H
  refine AWP_sr tok [] [2] (fun a σ => a = [(2, .int .i64 (-1))] ∧ σ = hp E0 [] (N0 + 5)) (fun K hK => ?_) ?_
  ·
   skip
   simp -dsimp -implicitDefEqProofs (maxDischargeDepth := 6)
   exact hK _ _ ⟨rfl, rfl⟩
  rintro a σ ⟨rfl, rfl⟩
  replace H := Option.some.inj H; subst H
  refine AWP_kp [2] [(2, .int .i64 (-1))] rfl ?_
  refine AWP_ret ?_
  exact ⟨[.int .i64 (-1)], by simp, 4, by simp [encL_nil]⟩
 ·
  replace H := ifF C1 H
  refine AWP_skip ?_
  show K1 _ _
  refine keepE (l := [0]) (x := [(0, .int .i64 p0)]) rfl fun a' ha => ?_
  refine hK1 _ _ ?_; rw [ha]
  refine Rc.mk ?_
  refine AWP_sr tok [] [2] (fun a σ => a = [(2, .int .i64 (iconv .i64 (iconv .u32 p0)))] ∧ σ = hp E0 [] (N0 + 8)) (fun K hK => ?_) ?_
  ·
   skip
   simp -dsimp -implicitDefEqProofs (maxDischargeDepth := 6)
   exact hK _ _ ⟨rfl, rfl⟩
  rintro a σ ⟨rfl, rfl⟩
  replace H := Option.some.inj H; subst H
  refine AWP_kp [2] [(2, .int .i64 (iconv .i64 (iconv .u32 p0)))] rfl ?_
  refine AWP_ret ?_
  exact ⟨[.int .i64 (iconv .i64 (iconv .u32 p0))], by simp, 4, by simp [encL_nil]⟩
theorem c146 {p0 : Int} {r : Bool} (H : i_isUnsigned p0 = some r) : APure Tryd.prog G 146 [.int .i64 p0] (.bool r) := by
 refine APure_fn (fun N0 => ?_) (by simp)
 refine ACalls_fn tok Tryd.func146 (by kernel_rfl) rfl Tryd.ntmps146 Tryd.results146 rfl ?_
 simp only [argsA, Nat.reduceAdd, hp_next]
 unfold i_isUnsigned at H
 refine AWP_sr tok [] [0] (fun a σ => a = [(0, .int .i64 p0)] ∧ σ = hp E0 [] (N0 + 1)) (fun K hK => ?_) ?_
 ·
  skip
  simp -dsimp -implicitDefEqProofs (maxDischargeDepth := 6)
  exact hK _ _ ⟨rfl, rfl⟩
 rintro a σ ⟨rfl, rfl⟩
 obtain ⟨g1, hg1, H⟩ := bindE H
 refine AWP_sr tok [] [2] (fun a σ => a = [(2, .bool g1)] ∧ σ = hp E0 [] (N0 + 8)) (fun K hK => ?_) ?_
 ·
  skip
  simp -dsimp -implicitDefEqProofs (maxDischargeDepth := 6)
  cases hbg1 : ige p0 0
  ·
   replace hg1 := ifF hbg1 hg1
   replace hg1 := Option.some.inj hg1; subst hg1
   try simp -dsimp -implicitDefEqProofs (maxDischargeDepth := 6) [hbg1]
   exact hK _ _ ⟨rfl, rfl⟩
  ·
   replace hg1 := ifT hbg1 hg1
   replace hg1 := Option.some.inj hg1; subst hg1
   try simp -dsimp -implicitDefEqProofs (maxDischargeDepth := 6) [hbg1]
   exact hK _ _ ⟨rfl, rfl⟩
 rintro a σ ⟨rfl, rfl⟩
 replace H := Option.some.inj H; subst H
 refine AWP_kp [2] [(2, .bool g1)] rfl ?_
 refine AWP_ret ?_
 exact ⟨[.bool g1], by simp, 4, by simp [encL_nil]⟩
theorem c127 {p0 : Int} {p1 : Int} {p2 : Int} {r : Int} (H : i_Bits p0 p1 p2 = some r) : APure Tryd.prog G 127 [.int .i64 p0, .int .i64 p1, .int .i64 p2] (.int .i64 r) := by
 refine APure_fn (fun N0 => ?_) (by simp)
 refine ACalls_fn tok Tryd.func127 (by kernel_rfl) rfl Tryd.ntmps127 Tryd.results127 rfl ?_
 simp only [argsA, Nat.reduceAdd, hp_next]
 unfold i_Bits at H
 refine AWP_sr tok [] [0, 1, 2] (fun a σ => a = [(0, .int .i64 p0), (1, .int .i64 p1), (2, .int .i64 p2)] ∧ σ = hp E0 [] (N0 + 1)) (fun K hK => ?_) ?_
 ·
  skip
  simp -dsimp -implicitDefEqProofs (maxDischargeDepth := 6)
  exact hK _ _ ⟨rfl, rfl⟩
 rintro a σ ⟨rfl, rfl⟩
 refine AWP_sq [0, 1, 2] fun K1 hK1 => ?_
 obtain ⟨r1, hr1, H⟩ := bindE H
 obtain ⟨g2, hg2, H⟩ := bindE H
 obtain ⟨g3, hg3, H⟩ := bindE H
 obtain ⟨g4, hg4, H⟩ := bindE H
 obtain ⟨g5, hg5, H⟩ := bindE H
 refine AWP_sr tok [] [0, 1, 2, 27] (fun a σ => a = [(0, .int .i64 p0), (1, .int .i64 p1), (2, .int .i64 p2), (27, .bool g5)] ∧ σ = hp E0 [] (N0 + 22)) (fun K hK => ?_) ?_
 ·
  skip
  simp -dsimp -implicitDefEqProofs (maxDischargeDepth := 6)
  refine (c146 hr1).app ?_; try simp -dsimp -implicitDefEqProofs (maxDischargeDepth := 6)
  cases hbg2 : bnot r1
  ·
   replace hg2 := ifF hbg2 hg2
   replace hg2 := Option.some.inj hg2; subst hg2
   try simp -dsimp -implicitDefEqProofs (maxDischargeDepth := 6) [hbg2]
   cases hbg3 : (ilt p1 0)
   ·
    replace hg3 := ifF hbg3 hg3
    replace hg3 := Option.some.inj hg3; subst hg3
    try simp -dsimp -implicitDefEqProofs (maxDischargeDepth := 6) [hbg2, hbg3]
    cases hbg4 : (igt p1 31)
    ·
     replace hg4 := ifF hbg4 hg4
     replace hg4 := Option.some.inj hg4; subst hg4
     try simp -dsimp -implicitDefEqProofs (maxDischargeDepth := 6) [hbg2, hbg3, hbg4]
     cases hbg5 : (ilt p2 1)
     ·
      replace hg5 := ifF hbg5 hg5
      replace hg5 := Option.some.inj hg5; subst hg5
      try simp -dsimp -implicitDefEqProofs (maxDischargeDepth := 6) [hbg2, hbg3, hbg4, hbg5]
      exact hK _ _ ⟨rfl, rfl⟩
     ·
      replace hg5 := ifT hbg5 hg5
      replace hg5 := Option.some.inj hg5; subst hg5
      try simp -dsimp -implicitDefEqProofs (maxDischargeDepth := 6) [hbg2, hbg3, hbg4, hbg5]
      exact hK _ _ ⟨rfl, rfl⟩
    ·
     replace hg4 := ifT hbg4 hg4
     replace hg4 := Option.some.inj hg4; subst hg4
     try simp -dsimp -implicitDefEqProofs (maxDischargeDepth := 6) [hbg2, hbg3, hbg4]
     replace hg5 := ifT rfl hg5
     replace hg5 := Option.some.inj hg5; subst hg5
     try simp -dsimp -implicitDefEqProofs (maxDischargeDepth := 6) [hbg2, hbg3, hbg4]
     exact hK _ _ ⟨rfl, rfl⟩
   ·
    replace hg3 := ifT hbg3 hg3
    replace hg3 := Option.some.inj hg3; subst hg3
    try simp -dsimp -implicitDefEqProofs (maxDischargeDepth := 6) [hbg2, hbg3]
    replace hg4 := ifT rfl hg4
    replace hg4 := Option.some.inj hg4; subst hg4
    try simp -dsimp -implicitDefEqProofs (maxDischargeDepth := 6) [hbg2, hbg3]
    replace hg5 := ifT rfl hg5
    replace hg5 := Option.some.inj hg5; subst hg5
    try simp -dsimp -implicitDefEqProofs (maxDischargeDepth := 6) [hbg2, hbg3]
    exact hK _ _ ⟨rfl, rfl⟩
  ·
   replace hg2 := ifT hbg2 hg2
   replace hg2 := Option.some.inj hg2; subst hg2
   try simp -dsimp -implicitDefEqProofs (maxDischargeDepth := 6) [hbg2]
   replace hg3 := ifT rfl hg3
   replace hg3 := Option.some.inj hg3; subst hg3
   try simp -dsimp -implicitDefEqProofs (maxDischargeDepth := 6) [hbg2]
   replace hg4 := ifT rfl hg4
   replace hg4 := Option.some.inj hg4; subst hg4
   try simp -dsimp -implicitDefEqProofs (maxDischargeDepth := 6) [hbg2]
   replace hg5 := ifT rfl hg5
   replace hg5 := Option.some.inj hg5; subst hg5
   try simp -dsimp -implicitDefEqProofs (maxDischargeDepth := 6) [hbg2]
   exact hK _ _ ⟨rfl, rfl⟩
 rintro a σ ⟨rfl, rfl⟩
 refine AWP_cond g5 rfl (fun C1 => ?_) (fun C1 => ?_)
 ·
  replace H := ifT C1 H
  refine AWP_sr tok [] [6] (fun a σ => a = [(6, .int .i64 0)] ∧ σ = hp E0 [] (N0 + 23)) (fun K hK => ?_) ?_
  ·
   skip
   simp -dsimp -implicitDefEqProofs (maxDischargeDepth := 6)
   exact hK _ _ ⟨rfl, rfl⟩
  rintro a σ ⟨rfl, rfl⟩
  replace H := Option.some.inj H; subst H
  refine AWP_kp [6] [(6, .int .i64 0)] rfl ?_
  refine AWP_ret ?_
  exact ⟨[.int .i64 0], by simp, 4, by simp [encL_nil]⟩
 ·
  replace H := ifF C1 H
  refine AWP_skip ?_
  show K1 _ _
  refine keepE (l := [0, 1, 2]) (x := [(0, .int .i64 p0), (1, .int .i64 p1), (2, .int .i64 p2)]) rfl fun a' ha => ?_
  refine hK1 _ _ ?_; rw [ha]
  refine Rc.mk ?_
  obtain ⟨v6, hv6, H⟩ := bindE H
  obtain ⟨v7, hv7, H⟩ := bindE H
  refine AWP_sd tok tokM [] [] [0, 1, 2, 3, 4, 5, 6, 7] [6] (fun a σ => a = [(6, .int .i64 (iand .i64 v6 (isub .i64 v7 1)))] ∧ σ = hp E0 [] (N0 + 30)) (by decide) (fun K hK => ?_) ?_
  ·
   simp only [pickL, nthO_succ, nthO_zero]
   simp -dsimp -implicitDefEqProofs (maxDischargeDepth := 6) [hv6, hv7]
   exact hK _ _ ⟨rfl, rfl⟩
  rintro a σ ⟨rfl, rfl⟩
  replace H := Option.some.inj H; subst H
  refine AWP_kp [6] [(6, .int .i64 (iand .i64 v6 (isub .i64 v7 1)))] rfl ?_
  refine AWP_ret ?_
  exact ⟨[.int .i64 (iand .i64 v6 (isub .i64 v7 1))], by simp, 4, by simp [encL_nil]⟩
theorem c126 {p0 : Int} {p1 : Int} {r : Int} (H : i_SignExtend p0 p1 = some r) : APure Tryd.prog G 126 [.int .i64 p0, .int .i64 p1] (.int .i64 r) := by
 refine APure_fn (fun N0 => ?_) (by simp)
 refine ACalls_fn tok Tryd.func126 (by kernel_rfl) rfl Tryd.ntmps126 Tryd.results126 rfl ?_
 simp only [argsA, Nat.reduceAdd, hp_next]
 unfold i_SignExtend at H
 refine AWP_sr tok [] [0, 1] (fun a σ => a = [(0, .int .i64 p0), (1, .int .i64 p1)] ∧ σ = hp E0 [] (N0 + 1)) (fun K hK => ?_) ?_
 ·
  skip
  simp -dsimp -implicitDefEqProofs (maxDischargeDepth := 6)
  exact hK _ _ ⟨rfl, rfl⟩
 rintro a σ ⟨rfl, rfl⟩
 refine AWP_sq [0, 1] fun K1 hK1 => ?_
 obtain ⟨g1, hg1, H⟩ := bindE H
 obtain ⟨g2, hg2, H⟩ := bindE H
 obtain ⟨g4, hg4, H⟩ := bindE H
 refine AWP_sr tok [] [0, 1, 20] (fun a σ => a = [(0, .int .i64 p0), (1, .int .i64 p1), (20, .bool g4)] ∧ σ = hp E0 [] (N0 + 17)) (fun K hK => ?_) ?_
 ·
  skip
  simp -dsimp -implicitDefEqProofs (maxDischargeDepth := 6)
  cases hbg1 : ilt p1 1
  ·
   replace hg1 := ifF hbg1 hg1
   replace hg1 := Option.some.inj hg1; subst hg1
   try simp -dsimp -implicitDefEqProofs (maxDischargeDepth := 6) [hbg1]
   cases hbg2 : (igt p1 32)
   ·
    replace hg2 := ifF hbg2 hg2
    replace hg2 := Option.some.inj hg2; subst hg2
    try simp -dsimp -implicitDefEqProofs (maxDischargeDepth := 6) [hbg1, hbg2]
    cases hbg4 : (ilt p0 0)
    ·
     replace hg4 := ifF hbg4 hg4
     obtain ⟨v3, hv3, hg4⟩ := bindE hg4
     replace hg4 := Option.some.inj hg4; subst hg4
     try simp -dsimp -implicitDefEqProofs (maxDischargeDepth := 6) [hbg1, hbg2, hbg4, hv3]
     exact hK _ _ ⟨rfl, rfl⟩
    ·
     replace hg4 := ifT hbg4 hg4
     replace hg4 := Option.some.inj hg4; subst hg4
     try simp -dsimp -implicitDefEqProofs (maxDischargeDepth := 6) [hbg1, hbg2, hbg4]
     exact hK _ _ ⟨rfl, rfl⟩
   ·
    replace hg2 := ifT hbg2 hg2
    replace hg2 := Option.some.inj hg2; subst hg2
    try simp -dsimp -implicitDefEqProofs (maxDischargeDepth := 6) [hbg1, hbg2]
    replace hg4 := ifT rfl hg4
    replace hg4 := Option.some.inj hg4; subst hg4
    try simp -dsimp -implicitDefEqProofs (maxDischargeDepth := 6) [hbg1, hbg2]
    exact hK _ _ ⟨rfl, rfl⟩
  ·
   replace hg1 := ifT hbg1 hg1
   replace hg1 := Option.some.inj hg1; subst hg1
   try simp -dsimp -implicitDefEqProofs (maxDischargeDepth := 6) [hbg1]
   replace hg2 := ifT rfl hg2
   replace hg2 := Option.some.inj hg2; subst hg2
   try simp -dsimp -implicitDefEqProofs (maxDischargeDepth := 6) [hbg1]
   replace hg4 := ifT rfl hg4
   replace hg4 := Option.some.inj hg4; subst hg4
   try simp -dsimp -implicitDefEqProofs (maxDischargeDepth := 6) [hbg1]
   exact hK _ _ ⟨rfl, rfl⟩
 rintro a σ ⟨rfl, rfl⟩
 refine AWP_cond g4 rfl (fun C1 => ?_) (fun C1 => ?_)
 ·
  replace H := ifT C1 H
  refine AWP_sr tok [] [4] (fun a σ => a = [(4, .int .i64 0)] ∧ σ = hp E0 [] (N0 + 18)) (fun K hK => ?_) ?_
  ·
   skip
   simp -dsimp -implicitDefEqProofs (maxDischargeDepth := 6)
   exact hK _ _ ⟨rfl, rfl⟩
  rintro a σ ⟨rfl, rfl⟩
  replace H := Option.some.inj H; subst H
  refine AWP_kp [4] [(4, .int .i64 0)] rfl ?_
  refine AWP_ret ?_
  exact ⟨[.int .i64 0], by simp, 4, by simp [encL_nil]⟩
 ·
  replace H := ifF C1 H
  refine AWP_skip ?_
  show K1 _ _
  refine keepE (l := [0, 1]) (x := [(0, .int .i64 p0), (1, .int .i64 p1)]) rfl fun a' ha => ?_
  refine hK1 _ _ ?_; rw [ha]
  refine Rc.mk ?_
  refine AWP_sq [0] fun K2 hK2 => ?_
  obtain ⟨v5, hv5, H⟩ := bindE H
  refine AWP_sr tok [] [0, 1, 25] (fun a σ => a = [(0, .int .i64 p0), (1, .int .i64 p1), (25, .bool (ige p0 v5))] ∧ σ = hp E0 [] (N0 + 22)) (fun K hK => ?_) ?_
  ·
   skip
   simp -dsimp -implicitDefEqProofs (maxDischargeDepth := 6) [hv5]
   exact hK _ _ ⟨rfl, rfl⟩
  rintro a σ ⟨rfl, rfl⟩
  refine AWP_cond (ige p0 v5) rfl (fun C2 => ?_) (fun C2 => ?_)
  ·
   replace H := ifT C2 H
   obtain ⟨v6, hv6, H⟩ := bindE H
   refine AWP_sr tok [] [4] (fun a σ => a = [(4, .int .i64 (isub .i64 p0 v6))] ∧ σ = hp E0 [] (N0 + 27)) (fun K hK => ?_) ?_
   ·
    skip
    simp -dsimp -implicitDefEqProofs (maxDischargeDepth := 6) [hv6]
    exact hK _ _ ⟨rfl, rfl⟩
   rintro a σ ⟨rfl, rfl⟩
   replace H := Option.some.inj H; subst H
   refine AWP_kp [4] [(4, .int .i64 (isub .i64 p0 v6))] rfl ?_
   refine AWP_ret ?_
   exact ⟨[.int .i64 (isub .i64 p0 v6)], by simp, 4, by simp [encL_nil]⟩
  ·
   replace H := ifF C2 H
   refine AWP_skip ?_
   show K2 _ _
   refine keepE (l := [0]) (x := [(0, .int .i64 p0)]) rfl fun a' ha => ?_
   refine hK2 _ _ ?_; rw [ha]
   refine Rc.mk ?_
   refine AWP_sr tok [] [4] (fun a σ => a = [(4, .int .i64 p0)] ∧ σ = hp E0 [] (N0 + 24)) (fun K hK => ?_) ?_
   ·
    skip
    simp -dsimp -implicitDefEqProofs (maxDischargeDepth := 6)
    exact hK _ _ ⟨rfl, rfl⟩
   rintro a σ ⟨rfl, rfl⟩
   replace H := Option.some.inj H; subst H
   refine AWP_kp [4] [(4, .int .i64 p0)] rfl ?_
   refine AWP_ret ?_
   exact ⟨[.int .i64 p0], by simp, 4, by simp [encL_nil]⟩
theorem c58 {p0 : Int} {r : Int} (H : i_Wrap p0 = some r) : APure Tryd.prog G 58 [.int .i64 p0] (.int .i64 r) := by
 refine APure_fn (fun N0 => ?_) (by simp)
 refine ACalls_fn tok Tryd.func58 (by kernel_rfl) rfl Tryd.ntmps58 Tryd.results58 rfl ?_
 simp only [argsA, Nat.reduceAdd, hp_next]
 unfold i_Wrap at H
 refine AWP_sr tok [] [0] (fun a σ => a = [(0, .int .i64 p0)] ∧ σ = hp E0 [] (N0 + 1)) (fun K hK => ?_) ?_
 ·
  skip
  simp -dsimp -implicitDefEqProofs (maxDischargeDepth := 6)
  exact hK _ _ ⟨rfl, rfl⟩
 rintro a σ ⟨rfl, rfl⟩
 refine AWP_sr tok [] [2] (fun a σ => a = [(2, .int .i64 (iconv .i64 (iconv .i32 p0)))] ∧ σ = hp E0 [] (N0 + 5)) (fun K hK => ?_) ?_
 ·
  skip
  simp -dsimp -implicitDefEqProofs (maxDischargeDepth := 6)
  exact hK _ _ ⟨rfl, rfl⟩
 rintro a σ ⟨rfl, rfl⟩
 replace H := Option.some.inj H; subst H
 refine AWP_kp [2] [(2, .int .i64 (iconv .i64 (iconv .i32 p0)))] rfl ?_
 refine AWP_ret ?_
 exact ⟨[.int .i64 (iconv .i64 (iconv .i32 p0))], by simp, 4, by simp [encL_nil]⟩
theorem c74 {p0 : Int} {p1 : Int} {r : (List gInstr)} (H : i_constInstrs p0 p1 = some r) : APure Tryd.prog G 74 [.int .i64 p0, .int .i64 p1] (.fsl (encL rInstr r)) := by
 refine APure_fn (fun N0 => ?_) (by simp)
 refine ACalls_fn tok Tryd.func74 (by kernel_rfl) rfl Tryd.ntmps74 Tryd.results74 rfl ?_
 simp only [argsA, Nat.reduceAdd, hp_next]
 unfold i_constInstrs at H
 refine AWP_sr tok [] [0, 1] (fun a σ => a = [(0, .int .i64 p0), (1, .int .i64 p1)] ∧ σ = hp E0 [] (N0 + 1)) (fun K hK => ?_) ?_
 ·
  skip
  simp -dsimp -implicitDefEqProofs (maxDischargeDepth := 6)
  exact hK _ _ ⟨rfl, rfl⟩
 rintro a σ ⟨rfl, rfl⟩
 refine AWP_sq [0, 1] fun K1 hK1 => ?_
 obtain ⟨g1, hg1, H⟩ := bindE H
 refine AWP_sr tok [] [0, 1, 12] (fun a σ => a = [(0, .int .i64 p0), (1, .int .i64 p1), (12, .bool g1)] ∧ σ = hp E0 [] (N0 + 7)) (fun K hK => ?_) ?_
 ·
  skip
  simp -dsimp -implicitDefEqProofs (maxDischargeDepth := 6)
  cases hbg1 : ige p1 (-2048)
  ·
   replace hg1 := ifF hbg1 hg1
   replace hg1 := Option.some.inj hg1; subst hg1
   try simp -dsimp -implicitDefEqProofs (maxDischargeDepth := 6) [hbg1]
   exact hK _ _ ⟨rfl, rfl⟩
  ·
   replace hg1 := ifT hbg1 hg1
   replace hg1 := Option.some.inj hg1; subst hg1
   try simp -dsimp -implicitDefEqProofs (maxDischargeDepth := 6) [hbg1]
   exact hK _ _ ⟨rfl, rfl⟩
 rintro a σ ⟨rfl, rfl⟩
 refine AWP_cond g1 rfl (fun C1 => ?_) (fun C1 => ?_)
 ·
  replace H := ifT C1 H
  obtain ⟨r2, hr2, H⟩ := bindE H
  have q0 : ∀ σ i, buildSliceA T 29 true i 1 [(0, .agg [.int .i64 r2.Op, .int .i64 r2.Rd, .int .i64 r2.Rs, .int .i64 r2.Rt, .int .i64 r2.Imm])] σ = some (.fsl (encL rInstr ([r2] : List gInstr)), σ) := fun _ _ => rfl
  refine AWP_sr tok [3] [4] (fun a σ => a = [(4, .fsl (encL rInstr ([r2] : List gInstr)))] ∧ σ = hp E0 [] (N0 + 12)) (fun K hK => ?_) ?_
  ·
   skip
   simp -dsimp -implicitDefEqProofs (maxDischargeDepth := 6) [q0]
   refine (c119 hr2).app ?_; try simp -dsimp -implicitDefEqProofs (maxDischargeDepth := 6) [q0]
   exact hK _ _ ⟨rfl, rfl⟩
  rintro a σ ⟨rfl, rfl⟩
  replace H := Option.some.inj H; subst H
  refine AWP_kp [4] [(4, .fsl (encL rInstr ([r2] : List gInstr)))] rfl ?_
  refine AWP_ret ?_
  exact ⟨[.fsl (encL rInstr ([r2] : List gInstr))], by simp, 4, by simp [encL_nil]⟩
 ·
  replace H := ifF C1 H
  refine AWP_skip ?_
  show K1 _ _
  refine keepE (l := [0, 1]) (x := [(0, .int .i64 p0), (1, .int .i64 p1)]) rfl fun a' ha => ?_
  refine hK1 _ _ ?_; rw [ha]
  refine Rc.mk ?_
  obtain ⟨r3, hr3, H⟩ := bindE H
  obtain ⟨r4, hr4, H⟩ := bindE H
  obtain ⟨r5, hr5, H⟩ := bindE H
  refine AWP_sr tok [] [0, 1, 5] (fun a σ => a = [(0, .int .i64 p0), (1, .int .i64 p1), (5, .int .i64 r5)] ∧ σ = hp E0 [] (N0 + 12)) (fun K hK => ?_) ?_
  ·
   skip
   simp -dsimp -implicitDefEqProofs (maxDischargeDepth := 6)
   refine (c128 hr3).app ?_; try simp -dsimp -implicitDefEqProofs (maxDischargeDepth := 6)
   refine (c127 hr4).app ?_; try simp -dsimp -implicitDefEqProofs (maxDischargeDepth := 6)
   refine (c126 hr5).app ?_; try simp -dsimp -implicitDefEqProofs (maxDischargeDepth := 6)
   exact hK _ _ ⟨rfl, rfl⟩
  rintro a σ ⟨rfl, rfl⟩
  obtain ⟨r6, hr6, H⟩ := bindE H
  obtain ⟨r7, hr7, H⟩ := bindE H
  obtain ⟨r8, hr8, H⟩ := bindE H
  refine AWP_sr tok [] [0, 5, 6] (fun a σ => a = [(0, .int .i64 p0), (5, .int .i64 r5), (6, .int .i64 r8)] ∧ σ = hp E0 [] (N0 + 19)) (fun K hK => ?_) ?_
  ·
   skip
   simp -dsimp -implicitDefEqProofs (maxDischargeDepth := 6)
   refine (c58 hr6).app ?_; try simp -dsimp -implicitDefEqProofs (maxDischargeDepth := 6)
   refine (c128 hr7).app ?_; try simp -dsimp -implicitDefEqProofs (maxDischargeDepth := 6)
   refine (c127 hr8).app ?_; try simp -dsimp -implicitDefEqProofs (maxDischargeDepth := 6)
   exact hK _ _ ⟨rfl, rfl⟩
  rintro a σ ⟨rfl, rfl⟩
  obtain ⟨r9, hr9, H⟩ := bindE H
  have q1 : ∀ σ i, buildSliceA T 29 true i 2 [(0, .agg [.int .i64 19, .int .i64 p0, .int .i64 0, .int .i64 0, .int .i64 r8]), (1, .agg [.int .i64 r9.Op, .int .i64 r9.Rd, .int .i64 r9.Rs, .int .i64 r9.Rt, .int .i64 r9.Imm])] σ = some (.fsl (encL rInstr ([(⟨19, p0, 0, 0, r8⟩ : gInstr), r9] : List gInstr)), σ) := fun _ _ => rfl
  refine AWP_sr tok [7] [4] (fun a σ => a = [(4, .fsl (encL rInstr ([(⟨19, p0, 0, 0, r8⟩ : gInstr), r9] : List gInstr)))] ∧ σ = hp E0 [] (N0 + 28)) (fun K hK => ?_) ?_
  ·
   skip
   simp -dsimp -implicitDefEqProofs (maxDischargeDepth := 6) [q1]
   refine (c119 hr9).app ?_; try simp -dsimp -implicitDefEqProofs (maxDischargeDepth := 6) [q1]
   exact hK _ _ ⟨rfl, rfl⟩
  rintro a σ ⟨rfl, rfl⟩
  replace H := Option.some.inj H; subst H
  refine AWP_kp [4] [(4, .fsl (encL rInstr ([(⟨19, p0, 0, 0, r8⟩ : gInstr), r9] : List gInstr)))] rfl ?_
  refine AWP_ret ?_
  exact ⟨[.fsl (encL rInstr ([(⟨19, p0, 0, 0, r8⟩ : gInstr), r9] : List gInstr))], by simp, 4, by simp [encL_nil]⟩
theorem c116 {p0 : Int} {pf0 : gQuad} {r : (List gInstr)} (H : i_quadInstrs_1 p0 pf0 = some r) : APure Tryd.prog G 116 [.int .i64 p0, .fptr [.int .i64 pf0.Op, .int .i64 pf0.Dst, .int .i64 pf0.A, .int .i64 pf0.B, .int .i64 pf0.N] 0] (.fsl (encL rInstr r)) := by
 refine APure_fn (fun N0 => ?_) (by simp)
 refine ACalls_fn tok Tryd.func116 (by kernel_rfl) rfl Tryd.ntmps116 Tryd.results116 rfl ?_
 simp only [argsA, Nat.reduceAdd, hp_next]
 unfold i_quadInstrs_1 at H
 refine AWP_sr tok [] [0, 1] (fun a σ => a = [(0, .int .i64 p0), (1, .fptr [.int .i64 pf0.Op, .int .i64 pf0.Dst, .int .i64 pf0.A, .int .i64 pf0.B, .int .i64 pf0.N] 0)] ∧ σ = hp E0 [] (N0 + 1)) (fun K hK => ?_) ?_
 ·
  skip
  simp -dsimp -implicitDefEqProofs (maxDischargeDepth := 6)
  exact hK _ _ ⟨rfl, rfl⟩
 rintro a σ ⟨rfl, rfl⟩
 obtain ⟨r1, hr1, H⟩ := bindE H
 refine AWP_sr tok [] [3] (fun a σ => a = [(3, .fsl (encL rInstr r1))] ∧ σ = hp E0 [] (N0 + 6)) (fun K hK => ?_) ?_
 ·
  skip
  simp -dsimp -implicitDefEqProofs (maxDischargeDepth := 6)
  refine (c74 hr1).app ?_; try simp -dsimp -implicitDefEqProofs (maxDischargeDepth := 6)
  exact hK _ _ ⟨rfl, rfl⟩
 rintro a σ ⟨rfl, rfl⟩
 replace H := Option.some.inj H; subst H
 refine AWP_kp [3] [(3, .fsl (encL rInstr r1))] rfl ?_
 refine AWP_ret ?_
 exact ⟨[.fsl (encL rInstr r1)], by simp, 4, by simp [encL_nil]⟩
theorem c122 {p0 : gEmitter} {p1 : (List gInstr)} {r : gEmitter} (H : i_emitter_emit p0 p1 = some r) {σ : AHeap} {w0 : Nat} {W0 : List (List AV)} {r0_ : Nat} (q0 : σ.objs w0 = some ⟨129, 2, W0⟩) (g0 : W0[r0_]? = some [.int .i64 p0.colors, .osl 47 5 (encL rInstr p0.list)]) : ACalls Tryd.prog G 122 [.ptr w0 r0_ 0, .fsl (encL rInstr p1)] σ (fun v σ' => ∃ M : Nat, σ.next ≤ M ∧ v = .tup [] ∧ σ' = hp σ.objs [(w0, some ⟨129, 2, W0.set r0_ [.int .i64 r.colors, .osl 47 5 (encL rInstr r.list)]⟩)] M) := by
 refine ACalls_fr (L := [(w0, some ⟨129, 2, W0⟩)]) (Q1 := fun v σ' => ∃ M : Nat, σ.next ≤ M ∧ v = .tup [] ∧ σ' = hp E0 [(w0, some ⟨129, 2, W0.set r0_ [.int .i64 r.colors, .osl 47 5 (encL rInstr r.list)]⟩)] M) (by simp [q0]) (fun hlt => ?_) ?_ ⟨_, Tryd.func122, rfl, rfl⟩
 rotate_left
 ·
  rintro v σ1 ⟨M, h0, rfl, rfl⟩
  exact ⟨_, M, rfl, by simp, by simp; try omega, M, h0, rfl, rfl⟩
 generalize σ.next = N0 at hlt ⊢
 have lw0 : w0 < N0 := hlt _ (.head _) rfl
 have gs_W0 : ∀ x, (W0.set r0_ x)[r0_]? = some x := gsetW g0
 rw [show W0 = W0.set r0_ [.int .i64 p0.colors, .osl 47 5 (encL rInstr p0.list)] from (set_same g0).symm]
 refine ACalls_fn tok Tryd.func122 (by kernel_rfl) rfl Tryd.ntmps122 Tryd.results122 rfl ?_
 simp only [argsA, Nat.reduceAdd, hp_next]
 unfold i_emitter_emit at H
 refine AWP_end [] fun KE hKE => ?_
 have z0 : ¬ w0 = N0 := by omega
 have z1 : ¬ N0 = w0 := by omega
 refine gUnp AWP_ref (ty := 47) (sz := 5) (es := encL rInstr p0.list) (o := w0) (ob := ⟨129, 2, W0.set r0_ [.int .i64 p0.colors, .osl 47 5 (encL rInstr p0.list)]⟩) (row := [.int .i64 p0.colors, .osl 47 5 (encL rInstr p0.list)]) (r := r0_) (i := 1) [(w0, some ⟨129, 2, W0.set r0_ [.int .i64 p0.colors, .sl N0 0 p0.list.length]⟩), (N0, some ⟨47, 5, encL rInstr p0.list⟩)] (by simp [z0, z1]) (by simp [gs_W0]) rfl (by simp [z0, z1, List.set_set]) ?_
 obtain ⟨l1, hl1, H⟩ := bindE H
 refine AWP_rt tok [] [] (fun a σ => a = [] ∧ σ = hp E0 [(w0, some ⟨129, 2, W0.set r0_ [.int .i64 p0.colors, .sl (N0 + 7) 0 l1.length]⟩), (N0 + 7, some ⟨47, 5, encL rInstr l1⟩)] (N0 + 11)) (fun K hK => ?_) ?_
 ·
  skip
  have e0 : ¬ w0 = N0 := by omega
  have e1 : ¬ N0 = w0 := by omega
  have e2 : ¬ w0 = N0 + 7 := by omega
  have e3 : ¬ N0 + 7 = w0 := by omega
  simp -dsimp -implicitDefEqProofs (maxDischargeDepth := 6) [e0, e1, e2, e3, gs_W0, List.set_set, app29 hl1]
  exact hK _ _ ⟨rfl, rfl⟩
 rintro a σ ⟨ha, rfl⟩
 replace H := Option.some.inj H; subst H
 refine hKE _ _ ?_; rw [ha]
 refine Rc.kp [] [] rfl ?_
 have z2 : ¬ w0 = N0 + 7 := by omega
 have z3 : ¬ N0 + 7 = w0 := by omega
 refine gPk Rc_ref (k := l1.length) (o := w0) (ob := ⟨129, 2, W0.set r0_ [.int .i64 p0.colors, .sl (N0 + 7) 0 l1.length]⟩) (row := [.int .i64 p0.colors, .sl (N0 + 7) 0 l1.length]) (d := (N0 + 7)) (obd := ⟨47, 5, encL rInstr l1⟩) (r := r0_) (i := 1) [(w0, some ⟨129, 2, W0.set r0_ [.int .i64 p0.colors, .osl 47 5 (encL rInstr l1)]⟩)] (by simp [z2, z3]) (by simp [gs_W0]) rfl (by simp [z2, z3]) (by simp) (by first | omega | simp) (by simp [List.set_set, z2, z3]) (by simp [List.set_set, z2, z3]) ?_
 refine Rc.mk ?_
 refine ⟨[], by simp [gs_W0], N0 + 11, by omega, ?_, ?_⟩
 ·
  simp [encL_nil]
 ·
  first | rfl | simp [List.set_set]
theorem c115_i_quadInstrs_1 {p0 : gEmitter} {p1 : Int} {p2_0 : gQuad} {r : gEmitter} (H : i_emitter_write_i_quadInstrs_1 p0 p1 p2_0 = some r) {σ : AHeap} {w0 : Nat} {W0 : List (List AV)} {r0_ : Nat} (q0 : σ.objs w0 = some ⟨129, 2, W0⟩) (g0 : W0[r0_]? = some [.int .i64 p0.colors, .osl 47 5 (encL rInstr p0.list)]) : ACalls Tryd.prog G 115 [.ptr w0 r0_ 0, .int .i64 p1, .clo 116 [] [.fptr [.int .i64 p2_0.Op, .int .i64 p2_0.Dst, .int .i64 p2_0.A, .int .i64 p2_0.B, .int .i64 p2_0.N] 0]] σ (fun v σ' => ∃ M : Nat, σ.next ≤ M ∧ v = .tup [] ∧ σ' = hp σ.objs [(w0, some ⟨129, 2, W0.set r0_ [.int .i64 r.colors, .osl 47 5 (encL rInstr r.list)]⟩)] M) := by
 refine ACalls_fr (L := [(w0, some ⟨129, 2, W0⟩)]) (Q1 := fun v σ' => ∃ M : Nat, σ.next ≤ M ∧ v = .tup [] ∧ σ' = hp E0 [(w0, some ⟨129, 2, W0.set r0_ [.int .i64 r.colors, .osl 47 5 (encL rInstr r.list)]⟩)] M) (by simp [q0]) (fun hlt => ?_) ?_ ⟨_, Tryd.func115, rfl, rfl⟩
 rotate_left
 ·
  rintro v σ1 ⟨M, h0, rfl, rfl⟩
  exact ⟨_, M, rfl, by simp, by simp; try omega, M, h0, rfl, rfl⟩
 generalize σ.next = N0 at hlt ⊢
 have lw0 : w0 < N0 := hlt _ (.head _) rfl
 have gs_W0 : ∀ x, (W0.set r0_ x)[r0_]? = some x := gsetW g0
 rw [show W0 = W0.set r0_ [.int .i64 p0.colors, .osl 47 5 (encL rInstr p0.list)] from (set_same g0).symm]
 refine ACalls_fn tok Tryd.func115 (by kernel_rfl) rfl Tryd.ntmps115 Tryd.results115 rfl ?_
 simp only [argsA, Nat.reduceAdd, hp_next]
 unfold i_emitter_write_i_quadInstrs_1 at H
 refine AWP_end [] fun KE hKE => ?_
 refine AWP_sq [0, 1, 2] fun K1 hK1 => ?_
 refine AWP_sr tok [] [0, 1, 2, 11] (fun a σ => a = [(0, .ptr w0 r0_ 0), (1, .int .i64 p1), (2, .clo 116 [] [.fptr [.int .i64 p2_0.Op, .int .i64 p2_0.Dst, .int .i64 p2_0.A, .int .i64 p2_0.B, .int .i64 p2_0.N] 0]), (11, .bool (ilt p1 p0.colors))] ∧ σ = hp E0 [(w0, some ⟨129, 2, W0.set r0_ [.int .i64 p0.colors, .osl 47 5 (encL rInstr p0.list)]⟩)] (N0 + 6)) (fun K hK => ?_) ?_
 ·
  skip
  simp -dsimp -implicitDefEqProofs (maxDischargeDepth := 6) [gs_W0, List.set_set]
  exact hK _ _ ⟨rfl, rfl⟩
 rintro a σ ⟨rfl, rfl⟩
 refine AWP_cond (ilt p1 p0.colors) rfl (fun C1 => ?_) (fun C1 => ?_)
 ·
  replace H := ifT C1 H
  obtain ⟨v1, hv1, H⟩ := bindE H
  obtain ⟨r2, hr2, H⟩ := bindE H
  obtain ⟨r3, hr3, H⟩ := bindE H
  refine AWP_sr tok [] [] (fun a σ => ∃ M1 : Nat, N0 + 13 ≤ M1 ∧ a = [] ∧ σ = hp E0 [(w0, some ⟨129, 2, W0.set r0_ [.int .i64 r3.colors, .osl 47 5 (encL rInstr r3.list)]⟩)] M1) (fun K hK => ?_) ?_
  ·
   skip
   simp -dsimp -implicitDefEqProofs (maxDischargeDepth := 6) [gs_W0, List.set_set, gx157 hv1, gl_get hv1]
   refine (c116 hr2).app ?_; try simp -dsimp -implicitDefEqProofs (maxDischargeDepth := 6) [gs_W0, List.set_set, gx157 hv1, gl_get hv1]
   refine (c122 (W0 := W0.set r0_ [.int .i64 p0.colors, .osl 47 5 (encL rInstr p0.list)]) (r0_ := r0_) (H := hr3) (by simp [gs_W0, List.set_set, gx157 hv1, gl_get hv1]) (by simp [gs_W0, List.set_set, gx157 hv1, gl_get hv1])).mono ?_; rintro _ _ ⟨M1, fM1_0, rfl, rfl⟩; simp only [hp_next] at fM1_0
   try simp -dsimp -implicitDefEqProofs (maxDischargeDepth := 6) [gs_W0, List.set_set, gx157 hv1, gl_get hv1, hp_over_some, hp_over_none]
   exact hK _ _ ⟨M1, (by omega), rfl, rfl⟩
  rintro a σ ⟨M1, fM1_0, rfl, rfl⟩
  replace H := Option.some.inj H; subst H
  refine AWP_kp [] [] rfl ?_
  refine AWP_ret ?_
  refine ⟨[], by simp [gs_W0], M1, by omega, ?_, ?_⟩
  ·
   simp [encL_nil]
  ·
   first | rfl | simp [List.set_set]
 ·
  replace H := ifF C1 H
  refine AWP_skip ?_
  show K1 _ _
  refine keepE (l := [0, 1, 2]) (x := [(0, .ptr w0 r0_ 0), (1, .int .i64 p1), (2, .clo 116 [] [.fptr [.int .i64 p2_0.Op, .int .i64 p2_0.Dst, .int .i64 p2_0.A, .int .i64 p2_0.B, .int .i64 p2_0.N] 0])]) rfl fun a' ha => ?_
  refine hK1 _ _ ?_; rw [ha]
  refine Rc.mk ?_
  obtain ⟨r4, hr4, H⟩ := bindE H
  obtain ⟨r5, hr5, H⟩ := bindE H
  refine AWP_sr tok [] [0, 1] (fun a σ => ∃ M2 : Nat, N0 + 10 ≤ M2 ∧ a = [(0, .ptr w0 r0_ 0), (1, .int .i64 p1)] ∧ σ = hp E0 [(w0, some ⟨129, 2, W0.set r0_ [.int .i64 r5.colors, .osl 47 5 (encL rInstr r5.list)]⟩)] M2) (fun K hK => ?_) ?_
  ·
   skip
   simp -dsimp -implicitDefEqProofs (maxDischargeDepth := 6) [gs_W0, List.set_set]
   refine (c116 hr4).app ?_; try simp -dsimp -implicitDefEqProofs (maxDischargeDepth := 6) [gs_W0, List.set_set]
   refine (c122 (W0 := W0.set r0_ [.int .i64 p0.colors, .osl 47 5 (encL rInstr p0.list)]) (r0_ := r0_) (H := hr5) (by simp [gs_W0, List.set_set]) (by simp [gs_W0, List.set_set])).mono ?_; rintro _ _ ⟨M2, fM2_0, rfl, rfl⟩; simp only [hp_next] at fM2_0
   try simp -dsimp -implicitDefEqProofs (maxDischargeDepth := 6) [gs_W0, List.set_set, hp_over_some, hp_over_none]
   exact hK _ _ ⟨M2, (by omega), rfl, rfl⟩
  rintro a σ ⟨M2, fM2_0, rfl, rfl⟩
  obtain ⟨r6, hr6, H⟩ := bindE H
  have q0 : ∀ σ i, buildSliceA T 29 true i 1 [(0, .agg [.int .i64 16, .int .i64 0, .int .i64 2, .int .i64 7, .int .i64 (imul .i64 4 (isub .i64 p1 r5.colors))])] σ = some (.fsl (encL rInstr ([(⟨16, 0, 2, 7, imul .i64 4 (isub .i64 p1 r5.colors)⟩ : gInstr)] : List gInstr)), σ) := fun _ _ => rfl
  refine AWP_rt tok [9] [] (fun a σ => ∃ M3 : Nat, M2 + 11 ≤ M3 ∧ a = [] ∧ σ = hp E0 [(w0, some ⟨129, 2, W0.set r0_ [.int .i64 r6.colors, .osl 47 5 (encL rInstr r6.list)]⟩)] M3) (fun K hK => ?_) ?_
  ·
   skip
   simp -dsimp -implicitDefEqProofs (maxDischargeDepth := 6) [gs_W0, List.set_set, q0]
   refine (c122 (W0 := W0.set r0_ [.int .i64 r5.colors, .osl 47 5 (encL rInstr r5.list)]) (r0_ := r0_) (H := hr6) (by simp [gs_W0, List.set_set, q0]) (by simp [gs_W0, List.set_set, q0])).mono ?_; rintro _ _ ⟨M3, fM3_0, rfl, rfl⟩; simp only [hp_next] at fM3_0
   try simp -dsimp -implicitDefEqProofs (maxDischargeDepth := 6) [gs_W0, List.set_set, q0, hp_over_some, hp_over_none]
   exact hK _ _ ⟨M3, (by omega), rfl, rfl⟩
  rintro a σ ⟨M3, fM3_0, ha, rfl⟩
  replace H := Option.some.inj H; subst H
  refine hKE _ _ ?_; rw [ha]
  refine Rc.kp [] [] rfl ?_
  refine Rc.mk ?_
  refine ⟨[], by simp [gs_W0], M3, by omega, ?_, ?_⟩
  ·
   simp [encL_nil]
  ·
   first | rfl | simp [List.set_set]
end Go.Proofs.YtoklfbdcghgmlaaDoor
