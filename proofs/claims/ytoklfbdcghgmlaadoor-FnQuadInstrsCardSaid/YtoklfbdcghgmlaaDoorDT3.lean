/- The contracts of functions of the program, part 3: each computes what its mirror computes. No conditions. -/
import Derived.Test.YtoklfbdcghgmlaaDoorDT2
set_option linter.unusedSimpArgs false
set_option linter.unusedVariables false
set_option maxRecDepth 20000
set_option maxHeartbeats 4000000
namespace Go.Proofs.YtoklfbdcghgmlaaDoor
open Go Go.Abs Go.RowKit

theorem c23 {p0 : gQuad} {p1 : Int} {p2 : Int} {r : (List gInstr) × Bool} (H : s_QuadInstrs p0 p1 p2 = some r) : APure Tryd.prog G 23 [.agg [.int .i64 p0.Op, .int .i64 p0.Dst, .int .i64 p0.A, .int .i64 p0.B, .int .i64 p0.N], .int .i64 p1, .int .i64 p2] (.tup [.fsl (encL rInstr r.1), .bool r.2]) := by
 refine APure_thaw 4 (fun σ => ?_) (by simp)
 refine ACalls_fn tok Tryd.func23 (by kernel_rfl) rfl Tryd.ntmps23 Tryd.results23 rfl ?_
 simp only [argsA, Nat.reduceAdd]
 refine AWP_ids fun hfr => ?_
 obtain ⟨B, hB⟩ : ∃ B, B = σ.objs := ⟨_, rfl⟩
 obtain ⟨N0, hN0⟩ : ∃ N, N = σ.next := ⟨_, rfl⟩
 have hσ : σ = hp B [] N0 := by rw [hB, hN0]; rfl
 rw [← hN0, ← hB] at hfr ⊢
 rw [hσ]; clear hσ
 unfold s_QuadInstrs at H
 refine AWP_seqk [1, 2, 3] fun K1 hK1 => ?_
 refine AWP_regl tok [0] ?_
 simp -dsimp -implicitDefEqProofs (maxDischargeDepth := 6)
 refine keepE2 (l := [1, 2, 3]) (x := [(1, .int .i64 p1), (2, .int .i64 p2), (3, .fptr [.int .i64 p0.Op, .int .i64 p0.Dst, .int .i64 p0.A, .int .i64 p0.B, .int .i64 p0.N] 0)]) (s := hp B [] (N0 + 3)) rfl rfl fun a' ha => ?_
 refine hK1 _ _ ?_; rw [ha]
 refine AWP_seqk [1, 2, 3] fun K2 hK2 => ?_
 refine AWP_seqk [1, 2, 3, 25] fun K3 hK3 => ?_
 obtain ⟨r1, hr1, H⟩ := bindE H
 obtain ⟨g3, hg3, H⟩ := bindE H
 obtain ⟨g5, hg5, H⟩ := bindE H
 obtain ⟨g7, hg7, H⟩ := bindE H
 have J1 : ∀ a' σ', AAct.keep a' [1, 2, 3, 25] = [(1, .int .i64 p1), (2, .int .i64 p2), (3, .fptr [.int .i64 p0.Op, .int .i64 p0.Dst, .int .i64 p0.A, .int .i64 p0.B, .int .i64 p0.N] 0), (25, .bool g7)] → σ' = hp B [] (N0 + 21) → K3 a' σ' := by
  intro a' σ' ha hs; subst hs
  refine hK3 _ _ ?_; rw [ha]
  refine AWP_cond g7 rfl (fun C1 => ?_) (fun C1 => ?_)
  ·
   replace H := ifT C1 H
   refine AWP_seqk [6, 7] fun K4 hK4 => ?_
   have q0 : ∀ σ i, buildSliceA T 29 true i 0 [] σ = some (.esl, σ) := fun _ _ => rfl
   refine AWP_regl tok [0] ?_
   simp -dsimp -implicitDefEqProofs (maxDischargeDepth := 6) [q0]
   refine keepE2 (l := [6, 7]) (x := [(6, .esl), (7, .bool false)]) (s := hp B [] (N0 + 24)) rfl rfl fun a' ha => ?_
   refine hK4 _ _ ?_; rw [ha]
   refine AWP_ret ?_
   replace H := Option.some.inj H; subst H
   refine ⟨[.esl, .bool false], by simp, ?_, ?_⟩
   ·
    simp [encL_nil]
   ·
    intro o ho; exact lk_out (by simp; try omega)
  ·
   replace H := ifF C1 H
   refine AWP_skip ?_
   show K2 _ _
   refine keepE (l := [1, 2, 3]) (x := [(1, .int .i64 p1), (2, .int .i64 p2), (3, .fptr [.int .i64 p0.Op, .int .i64 p0.Dst, .int .i64 p0.A, .int .i64 p0.B, .int .i64 p0.N] 0)]) rfl fun a' ha => ?_
   refine hK2 _ _ ?_; rw [ha]
   refine AWP_seqk [6, 7] fun K5 hK5 => ?_
   obtain ⟨r8, hr8, H⟩ := bindE H
   refine AWP_regl tok [] ?_
   simp -dsimp -implicitDefEqProofs (maxDischargeDepth := 6)
   refine (c66 hr8).app ?_; try simp -dsimp -implicitDefEqProofs (maxDischargeDepth := 6)
   refine keepE2 (l := [6, 7]) (x := [(6, .fsl (encL rInstr r8)), (7, .bool true)]) (s := hp B [] (N0 + 27)) rfl rfl fun a' ha => ?_
   refine hK5 _ _ ?_; rw [ha]
   refine AWP_ret ?_
   replace H := Option.some.inj H; subst H
   refine ⟨[.fsl (encL rInstr r8), .bool true], by simp, ?_, ?_⟩
   ·
    simp [encL_nil]
   ·
    intro o ho; exact lk_out (by simp; try omega)
 refine AWP_regl tok [] ?_
 simp -dsimp -implicitDefEqProofs (maxDischargeDepth := 6)
 refine (c64 hr1).app ?_; try simp -dsimp -implicitDefEqProofs (maxDischargeDepth := 6)
 cases hbg3 : bnot r1
 ·
  replace hg3 := ifF hbg3 hg3
  obtain ⟨r2, hr2, hg3⟩ := bindE hg3
  replace hg3 := Option.some.inj hg3; subst hg3
  try simp -dsimp -implicitDefEqProofs (maxDischargeDepth := 6) [hbg3]
  refine (c65 hr2).app ?_; try simp -dsimp -implicitDefEqProofs (maxDischargeDepth := 6) [hbg3]
  cases hbg5 : (bnot r2)
  ·
   replace hg5 := ifF hbg5 hg5
   obtain ⟨r4, hr4, hg5⟩ := bindE hg5
   replace hg5 := Option.some.inj hg5; subst hg5
   try simp -dsimp -implicitDefEqProofs (maxDischargeDepth := 6) [hbg3, hbg5]
   refine (c65 hr4).app ?_; try simp -dsimp -implicitDefEqProofs (maxDischargeDepth := 6) [hbg3, hbg5]
   cases hbg7 : (bnot r4)
   ·
    replace hg7 := ifF hbg7 hg7
    obtain ⟨v6, hv6, hg7⟩ := bindE hg7
    replace hg7 := Option.some.inj hg7; subst hg7
    try simp -dsimp -implicitDefEqProofs (maxDischargeDepth := 6) [hbg3, hbg5, hbg7, hv6]
    exact J1 _ _ rfl rfl
   ·
    replace hg7 := ifT hbg7 hg7
    replace hg7 := Option.some.inj hg7; subst hg7
    try simp -dsimp -implicitDefEqProofs (maxDischargeDepth := 6) [hbg3, hbg5, hbg7]
    exact J1 _ _ rfl rfl
  ·
   replace hg5 := ifT hbg5 hg5
   replace hg5 := Option.some.inj hg5; subst hg5
   try simp -dsimp -implicitDefEqProofs (maxDischargeDepth := 6) [hbg3, hbg5]
   replace hg7 := ifT rfl hg7
   replace hg7 := Option.some.inj hg7; subst hg7
   try simp -dsimp -implicitDefEqProofs (maxDischargeDepth := 6) [hbg3, hbg5]
   exact J1 _ _ rfl rfl
 ·
  replace hg3 := ifT hbg3 hg3
  replace hg3 := Option.some.inj hg3; subst hg3
  try simp -dsimp -implicitDefEqProofs (maxDischargeDepth := 6) [hbg3]
  replace hg5 := ifT rfl hg5
  replace hg5 := Option.some.inj hg5; subst hg5
  try simp -dsimp -implicitDefEqProofs (maxDischargeDepth := 6) [hbg3]
  replace hg7 := ifT rfl hg7
  replace hg7 := Option.some.inj hg7; subst hg7
  try simp -dsimp -implicitDefEqProofs (maxDischargeDepth := 6) [hbg3]
  exact J1 _ _ rfl rfl
theorem c73 {p0 : Int} {r : Bool} (H : i_WordValid p0 = some r) : APure Tryd.prog G 73 [.int .i64 p0] (.bool r) := by
 refine APure_thaw 4 (fun σ => ?_) (by simp)
 refine ACalls_fn tok Tryd.func73 (by kernel_rfl) rfl Tryd.ntmps73 Tryd.results73 rfl ?_
 simp only [argsA, Nat.reduceAdd]
 refine AWP_ids fun hfr => ?_
 obtain ⟨B, hB⟩ : ∃ B, B = σ.objs := ⟨_, rfl⟩
 obtain ⟨N0, hN0⟩ : ∃ N, N = σ.next := ⟨_, rfl⟩
 have hσ : σ = hp B [] N0 := by rw [hB, hN0]; rfl
 rw [← hN0, ← hB] at hfr ⊢
 rw [hσ]; clear hσ
 unfold i_WordValid at H
 refine AWP_seqk [0] fun K1 hK1 => ?_
 refine AWP_regl tok [] ?_
 simp -dsimp -implicitDefEqProofs (maxDischargeDepth := 6)
 refine keepE2 (l := [0]) (x := [(0, .int .i64 p0)]) (s := hp B [] (N0 + 1)) rfl rfl fun a' ha => ?_
 refine hK1 _ _ ?_; rw [ha]
 refine AWP_seqk [2] fun K2 hK2 => ?_
 obtain ⟨g1, hg1, H⟩ := bindE H
 have J1 : ∀ a' σ', AAct.keep a' [2] = [(2, .bool g1)] → σ' = hp B [] (N0 + 8) → K2 a' σ' := by
  intro a' σ' ha hs; subst hs
  refine hK2 _ _ ?_; rw [ha]
  refine AWP_ret ?_
  replace H := Option.some.inj H; subst H
  refine ⟨[.bool g1], by simp, ?_, ?_⟩
  ·
   simp [encL_nil]
  ·
   intro o ho; exact lk_out (by simp; try omega)
 refine AWP_regl tok [] ?_
 simp -dsimp -implicitDefEqProofs (maxDischargeDepth := 6)
 cases hbg1 : ige p0 (-2147483648)
 ·
  replace hg1 := ifF hbg1 hg1
  replace hg1 := Option.some.inj hg1; subst hg1
  try simp -dsimp -implicitDefEqProofs (maxDischargeDepth := 6) [hbg1]
  exact J1 _ _ rfl rfl
 ·
  replace hg1 := ifT hbg1 hg1
  replace hg1 := Option.some.inj hg1; subst hg1
  try simp -dsimp -implicitDefEqProofs (maxDischargeDepth := 6) [hbg1]
  exact J1 _ _ rfl rfl
theorem c99 {p0 : Int} {r : Bool} (H : i_OpValid p0 = some r) : APure Tryd.prog G 99 [.int .i64 p0] (.bool r) := by
 refine APure_thaw 4 (fun σ => ?_) (by simp)
 refine ACalls_fn tok Tryd.func99 (by kernel_rfl) rfl Tryd.ntmps99 Tryd.results99 rfl ?_
 simp only [argsA, Nat.reduceAdd]
 refine AWP_ids fun hfr => ?_
 obtain ⟨B, hB⟩ : ∃ B, B = σ.objs := ⟨_, rfl⟩
 obtain ⟨N0, hN0⟩ : ∃ N, N = σ.next := ⟨_, rfl⟩
 have hσ : σ = hp B [] N0 := by rw [hB, hN0]; rfl
 rw [← hN0, ← hB] at hfr ⊢
 rw [hσ]; clear hσ
 unfold i_OpValid at H
 refine AWP_seqk [0] fun K1 hK1 => ?_
 refine AWP_regl tok [] ?_
 simp -dsimp -implicitDefEqProofs (maxDischargeDepth := 6)
 refine keepE2 (l := [0]) (x := [(0, .int .i64 p0)]) (s := hp B [] (N0 + 1)) rfl rfl fun a' ha => ?_
 refine hK1 _ _ ?_; rw [ha]
 refine AWP_seqk [2] fun K2 hK2 => ?_
 obtain ⟨g1, hg1, H⟩ := bindE H
 have J1 : ∀ a' σ', AAct.keep a' [2] = [(2, .bool g1)] → σ' = hp B [] (N0 + 8) → K2 a' σ' := by
  intro a' σ' ha hs; subst hs
  refine hK2 _ _ ?_; rw [ha]
  refine AWP_ret ?_
  replace H := Option.some.inj H; subst H
  refine ⟨[.bool g1], by simp, ?_, ?_⟩
  ·
   simp [encL_nil]
  ·
   intro o ho; exact lk_out (by simp; try omega)
 refine AWP_regl tok [] ?_
 simp -dsimp -implicitDefEqProofs (maxDischargeDepth := 6)
 cases hbg1 : ige p0 1
 ·
  replace hg1 := ifF hbg1 hg1
  replace hg1 := Option.some.inj hg1; subst hg1
  try simp -dsimp -implicitDefEqProofs (maxDischargeDepth := 6) [hbg1]
  exact J1 _ _ rfl rfl
 ·
  replace hg1 := ifT hbg1 hg1
  replace hg1 := Option.some.inj hg1; subst hg1
  try simp -dsimp -implicitDefEqProofs (maxDischargeDepth := 6) [hbg1]
  exact J1 _ _ rfl rfl
theorem c114 {p0 : Int} {r : Bool} (H : i_isReg p0 = some r) : APure Tryd.prog G 114 [.int .i64 p0] (.bool r) := by
 refine APure_thaw 4 (fun σ => ?_) (by simp)
 refine ACalls_fn tok Tryd.func114 (by kernel_rfl) rfl Tryd.ntmps114 Tryd.results114 rfl ?_
 simp only [argsA, Nat.reduceAdd]
 refine AWP_ids fun hfr => ?_
 obtain ⟨B, hB⟩ : ∃ B, B = σ.objs := ⟨_, rfl⟩
 obtain ⟨N0, hN0⟩ : ∃ N, N = σ.next := ⟨_, rfl⟩
 have hσ : σ = hp B [] N0 := by rw [hB, hN0]; rfl
 rw [← hN0, ← hB] at hfr ⊢
 rw [hσ]; clear hσ
 unfold i_isReg at H
 refine AWP_seqk [0] fun K1 hK1 => ?_
 refine AWP_regl tok [] ?_
 simp -dsimp -implicitDefEqProofs (maxDischargeDepth := 6)
 refine keepE2 (l := [0]) (x := [(0, .int .i64 p0)]) (s := hp B [] (N0 + 1)) rfl rfl fun a' ha => ?_
 refine hK1 _ _ ?_; rw [ha]
 refine AWP_seqk [2] fun K2 hK2 => ?_
 obtain ⟨g1, hg1, H⟩ := bindE H
 have J1 : ∀ a' σ', AAct.keep a' [2] = [(2, .bool g1)] → σ' = hp B [] (N0 + 8) → K2 a' σ' := by
  intro a' σ' ha hs; subst hs
  refine hK2 _ _ ?_; rw [ha]
  refine AWP_ret ?_
  replace H := Option.some.inj H; subst H
  refine ⟨[.bool g1], by simp, ?_, ?_⟩
  ·
   simp [encL_nil]
  ·
   intro o ho; exact lk_out (by simp; try omega)
 refine AWP_regl tok [] ?_
 simp -dsimp -implicitDefEqProofs (maxDischargeDepth := 6)
 cases hbg1 : ige p0 0
 ·
  replace hg1 := ifF hbg1 hg1
  replace hg1 := Option.some.inj hg1; subst hg1
  try simp -dsimp -implicitDefEqProofs (maxDischargeDepth := 6) [hbg1]
  exact J1 _ _ rfl rfl
 ·
  replace hg1 := ifT hbg1 hg1
  replace hg1 := Option.some.inj hg1; subst hg1
  try simp -dsimp -implicitDefEqProofs (maxDischargeDepth := 6) [hbg1]
  exact J1 _ _ rfl rfl
theorem c67 {p0 : gQuad} {p1 : Int} {r : Bool} (H : i_QuadValid p0 p1 = some r) : APure Tryd.prog G 67 [.agg [.int .i64 p0.Op, .int .i64 p0.Dst, .int .i64 p0.A, .int .i64 p0.B, .int .i64 p0.N], .int .i64 p1] (.bool r) := by
 refine APure_thaw 4 (fun σ => ?_) (by simp)
 refine ACalls_fn tok Tryd.func67 (by kernel_rfl) rfl Tryd.ntmps67 Tryd.results67 rfl ?_
 simp only [argsA, Nat.reduceAdd]
 refine AWP_ids fun hfr => ?_
 obtain ⟨B, hB⟩ : ∃ B, B = σ.objs := ⟨_, rfl⟩
 obtain ⟨N0, hN0⟩ : ∃ N, N = σ.next := ⟨_, rfl⟩
 have hσ : σ = hp B [] N0 := by rw [hB, hN0]; rfl
 rw [← hN0, ← hB] at hfr ⊢
 rw [hσ]; clear hσ
 unfold i_QuadValid at H
 refine AWP_seqk [1, 2] fun K1 hK1 => ?_
 refine AWP_regl tok [0] ?_
 simp -dsimp -implicitDefEqProofs (maxDischargeDepth := 6)
 refine keepE2 (l := [1, 2]) (x := [(1, .int .i64 p1), (2, .fptr [.int .i64 p0.Op, .int .i64 p0.Dst, .int .i64 p0.A, .int .i64 p0.B, .int .i64 p0.N] 0)]) (s := hp B [] (N0 + 2)) rfl rfl fun a' ha => ?_
 refine hK1 _ _ ?_; rw [ha]
 refine AWP_seqk [1, 2, 5, 6, 7, 8] fun K2 hK2 => ?_
 obtain ⟨r1, hr1, H⟩ := bindE H
 obtain ⟨r2, hr2, H⟩ := bindE H
 obtain ⟨r3, hr3, H⟩ := bindE H
 refine AWP_drawl tok tokM [] [] [0, 1, 2, 3, 4, 5, 6, 7, 8, 9, 10, 11, 12, 13, 14] (by decide) ?_
 simp only [pickL, nthO_succ, nthO_zero]
 simp -dsimp -implicitDefEqProofs (maxDischargeDepth := 6)
 refine Pc.mk (c114 hr1) ?_; try simp -dsimp -implicitDefEqProofs (maxDischargeDepth := 6)
 refine Pc.mk (c114 hr2) ?_; try simp -dsimp -implicitDefEqProofs (maxDischargeDepth := 6)
 refine Pc.mk (c114 hr3) ?_; try simp -dsimp -implicitDefEqProofs (maxDischargeDepth := 6)
 refine keepE2 (l := [1, 2, 5, 6, 7, 8]) (x := [(1, .int .i64 p1), (2, .fptr [.int .i64 p0.Op, .int .i64 p0.Dst, .int .i64 p0.A, .int .i64 p0.B, .int .i64 p0.N] 0), (5, .bool r1), (6, .bool r2), (7, .bool r3), (8, .int .i64 p0.N)]) (s := hp B [] (N0 + 17)) rfl rfl fun a' ha => ?_
 refine hK2 _ _ ?_; rw [ha]
 refine AWP_seqk [] fun K3 hK3 => ?_
 refine AWP_seqk [1, 2, 5, 6, 7, 8, 21] fun K4 hK4 => ?_
 refine AWP_regl tok [] ?_
 simp -dsimp -implicitDefEqProofs (maxDischargeDepth := 6)
 refine keepE2 (l := [1, 2, 5, 6, 7, 8, 21]) (x := [(1, .int .i64 p1), (2, .fptr [.int .i64 p0.Op, .int .i64 p0.Dst, .int .i64 p0.A, .int .i64 p0.B, .int .i64 p0.N] 0), (5, .bool r1), (6, .bool r2), (7, .bool r3), (8, .int .i64 p0.N), (21, .int .i64 p0.Op)]) (s := hp B [] (N0 + 19)) rfl rfl fun a' ha => ?_
 refine hK4 _ _ ?_; rw [ha]
 refine AWP_block ?_
 refine AWP_seqk [1, 2, 5, 6, 7, 8, 21, 22] fun K5 hK5 => ?_
 refine AWP_regl tok [] ?_
 simp -dsimp -implicitDefEqProofs (maxDischargeDepth := 6)
 refine keepE2 (l := [1, 2, 5, 6, 7, 8, 21, 22]) (x := [(1, .int .i64 p1), (2, .fptr [.int .i64 p0.Op, .int .i64 p0.Dst, .int .i64 p0.A, .int .i64 p0.B, .int .i64 p0.N] 0), (5, .bool r1), (6, .bool r2), (7, .bool r3), (8, .int .i64 p0.N), (21, .int .i64 p0.Op), (22, .bool (ieq p0.Op 1))]) (s := hp B [] (N0 + 21)) rfl rfl fun a' ha => ?_
 refine hK5 _ _ ?_; rw [ha]
 refine AWP_cond (ieq p0.Op 1) rfl (fun C10 => ?_) (fun C10 => ?_)
 ·
  replace H := ifT C10 H
  refine AWP_seqk [4] fun K6 hK6 => ?_
  obtain ⟨g4, hg4, H⟩ := bindE H
  obtain ⟨g6, hg6, H⟩ := bindE H
  have J1 : ∀ a' σ', AAct.keep a' [4] = [(4, .bool g6)] → σ' = hp B [] (N0 + 35) → K6 a' σ' := by
   intro a' σ' ha hs; subst hs
   refine hK6 _ _ ?_; rw [ha]
   refine AWP_ret ?_
   replace H := Option.some.inj H; subst H
   refine ⟨[.bool g6], by simp, ?_, ?_⟩
   ·
    simp [encL_nil]
   ·
    intro o ho; exact lk_out (by simp; try omega)
  refine AWP_regl tok [] ?_
  simp -dsimp -implicitDefEqProofs (maxDischargeDepth := 6)
  cases hbg4 : eqD p0 (⟨1, p0.Dst, 0, 0, p0.N⟩ : gQuad)
  ·
   replace hg4 := ifF hbg4 hg4
   replace hg4 := Option.some.inj hg4; subst hg4
   try simp -dsimp -implicitDefEqProofs (maxDischargeDepth := 6) [hbg4]
   replace hg6 := ifF rfl hg6
   replace hg6 := Option.some.inj hg6; subst hg6
   try simp -dsimp -implicitDefEqProofs (maxDischargeDepth := 6) [hbg4]
   exact J1 _ _ rfl rfl
  ·
   replace hg4 := ifT hbg4 hg4
   replace hg4 := Option.some.inj hg4; subst hg4
   try simp -dsimp -implicitDefEqProofs (maxDischargeDepth := 6) [hbg4]
   cases hbg6 : r1
   ·
    replace hg6 := ifF hbg6 hg6
    replace hg6 := Option.some.inj hg6; subst hg6
    try simp -dsimp -implicitDefEqProofs (maxDischargeDepth := 6) [hbg4, hbg6]
    exact J1 _ _ rfl rfl
   ·
    replace hg6 := ifT hbg6 hg6
    obtain ⟨r5, hr5, hg6⟩ := bindE hg6
    replace hg6 := Option.some.inj hg6; subst hg6
    try simp -dsimp -implicitDefEqProofs (maxDischargeDepth := 6) [hbg4, hbg6]
    refine (c73 hr5).app ?_; try simp -dsimp -implicitDefEqProofs (maxDischargeDepth := 6) [hbg4, hbg6]
    exact J1 _ _ rfl rfl
 ·
  replace H := ifF C10 H
  refine AWP_seqk [1, 2, 5, 6, 7, 8, 21, 37] fun K7 hK7 => ?_
  refine AWP_regl tok [] ?_
  simp -dsimp -implicitDefEqProofs (maxDischargeDepth := 6)
  refine keepE2 (l := [1, 2, 5, 6, 7, 8, 21, 37]) (x := [(1, .int .i64 p1), (2, .fptr [.int .i64 p0.Op, .int .i64 p0.Dst, .int .i64 p0.A, .int .i64 p0.B, .int .i64 p0.N] 0), (5, .bool r1), (6, .bool r2), (7, .bool r3), (8, .int .i64 p0.N), (21, .int .i64 p0.Op), (37, .bool (ieq p0.Op 2))]) (s := hp B [] (N0 + 23)) rfl rfl fun a' ha => ?_
  refine hK7 _ _ ?_; rw [ha]
  refine AWP_cond (ieq p0.Op 2) rfl (fun C9 => ?_) (fun C9 => ?_)
  ·
   replace H := ifT C9 H
   refine AWP_seqk [4] fun K8 hK8 => ?_
   obtain ⟨g7, hg7, H⟩ := bindE H
   obtain ⟨g8, hg8, H⟩ := bindE H
   have J2 : ∀ a' σ', AAct.keep a' [4] = [(4, .bool g8)] → σ' = hp B [] (N0 + 37) → K8 a' σ' := by
    intro a' σ' ha hs; subst hs
    refine hK8 _ _ ?_; rw [ha]
    refine AWP_ret ?_
    replace H := Option.some.inj H; subst H
    refine ⟨[.bool g8], by simp, ?_, ?_⟩
    ·
     simp [encL_nil]
    ·
     intro o ho; exact lk_out (by simp; try omega)
   refine AWP_regl tok [] ?_
   simp -dsimp -implicitDefEqProofs (maxDischargeDepth := 6)
   cases hbg7 : eqD p0 (⟨2, p0.Dst, p0.A, 0, 0⟩ : gQuad)
   ·
    replace hg7 := ifF hbg7 hg7
    replace hg7 := Option.some.inj hg7; subst hg7
    try simp -dsimp -implicitDefEqProofs (maxDischargeDepth := 6) [hbg7]
    replace hg8 := ifF rfl hg8
    replace hg8 := Option.some.inj hg8; subst hg8
    try simp -dsimp -implicitDefEqProofs (maxDischargeDepth := 6) [hbg7]
    exact J2 _ _ rfl rfl
   ·
    replace hg7 := ifT hbg7 hg7
    replace hg7 := Option.some.inj hg7; subst hg7
    try simp -dsimp -implicitDefEqProofs (maxDischargeDepth := 6) [hbg7]
    cases hbg8 : r1
    ·
     replace hg8 := ifF hbg8 hg8
     replace hg8 := Option.some.inj hg8; subst hg8
     try simp -dsimp -implicitDefEqProofs (maxDischargeDepth := 6) [hbg7, hbg8]
     exact J2 _ _ rfl rfl
    ·
     replace hg8 := ifT hbg8 hg8
     replace hg8 := Option.some.inj hg8; subst hg8
     try simp -dsimp -implicitDefEqProofs (maxDischargeDepth := 6) [hbg7, hbg8]
     exact J2 _ _ rfl rfl
  ·
   replace H := ifF C9 H
   refine AWP_seqk [1, 2, 5, 6, 7, 8, 21, 52] fun K9 hK9 => ?_
   refine AWP_regl tok [] ?_
   simp -dsimp -implicitDefEqProofs (maxDischargeDepth := 6)
   refine keepE2 (l := [1, 2, 5, 6, 7, 8, 21, 52]) (x := [(1, .int .i64 p1), (2, .fptr [.int .i64 p0.Op, .int .i64 p0.Dst, .int .i64 p0.A, .int .i64 p0.B, .int .i64 p0.N] 0), (5, .bool r1), (6, .bool r2), (7, .bool r3), (8, .int .i64 p0.N), (21, .int .i64 p0.Op), (52, .bool (ieq p0.Op 3))]) (s := hp B [] (N0 + 25)) rfl rfl fun a' ha => ?_
   refine hK9 _ _ ?_; rw [ha]
   refine AWP_cond (ieq p0.Op 3) rfl (fun C8 => ?_) (fun C8 => ?_)
   ·
    replace H := ifT C8 H
    refine AWP_seqk [4] fun K10 hK10 => ?_
    obtain ⟨g9, hg9, H⟩ := bindE H
    obtain ⟨g10, hg10, H⟩ := bindE H
    obtain ⟨g12, hg12, H⟩ := bindE H
    have J3 : ∀ a' σ', AAct.keep a' [4] = [(4, .bool g12)] → σ' = hp B [] (N0 + 37) → K10 a' σ' := by
     intro a' σ' ha hs; subst hs
     refine hK10 _ _ ?_; rw [ha]
     refine AWP_ret ?_
     replace H := Option.some.inj H; subst H
     refine ⟨[.bool g12], by simp, ?_, ?_⟩
     ·
      simp [encL_nil]
     ·
      intro o ho; exact lk_out (by simp; try omega)
    refine AWP_regl tok [] ?_
    simp -dsimp -implicitDefEqProofs (maxDischargeDepth := 6)
    cases hbg9 : r1
    ·
     replace hg9 := ifF hbg9 hg9
     replace hg9 := Option.some.inj hg9; subst hg9
     try simp -dsimp -implicitDefEqProofs (maxDischargeDepth := 6) [hbg9]
     replace hg10 := ifF rfl hg10
     replace hg10 := Option.some.inj hg10; subst hg10
     try simp -dsimp -implicitDefEqProofs (maxDischargeDepth := 6) [hbg9]
     replace hg12 := ifF rfl hg12
     replace hg12 := Option.some.inj hg12; subst hg12
     try simp -dsimp -implicitDefEqProofs (maxDischargeDepth := 6) [hbg9]
     exact J3 _ _ rfl rfl
    ·
     replace hg9 := ifT hbg9 hg9
     replace hg9 := Option.some.inj hg9; subst hg9
     try simp -dsimp -implicitDefEqProofs (maxDischargeDepth := 6) [hbg9]
     cases hbg10 : r2
     ·
      replace hg10 := ifF hbg10 hg10
      replace hg10 := Option.some.inj hg10; subst hg10
      try simp -dsimp -implicitDefEqProofs (maxDischargeDepth := 6) [hbg9, hbg10]
      replace hg12 := ifF rfl hg12
      replace hg12 := Option.some.inj hg12; subst hg12
      try simp -dsimp -implicitDefEqProofs (maxDischargeDepth := 6) [hbg9, hbg10]
      exact J3 _ _ rfl rfl
     ·
      replace hg10 := ifT hbg10 hg10
      replace hg10 := Option.some.inj hg10; subst hg10
      try simp -dsimp -implicitDefEqProofs (maxDischargeDepth := 6) [hbg9, hbg10]
      cases hbg12 : r3
      ·
       replace hg12 := ifF hbg12 hg12
       replace hg12 := Option.some.inj hg12; subst hg12
       try simp -dsimp -implicitDefEqProofs (maxDischargeDepth := 6) [hbg9, hbg10, hbg12]
       exact J3 _ _ rfl rfl
      ·
       replace hg12 := ifT hbg12 hg12
       obtain ⟨r11, hr11, hg12⟩ := bindE hg12
       replace hg12 := Option.some.inj hg12; subst hg12
       try simp -dsimp -implicitDefEqProofs (maxDischargeDepth := 6) [hbg9, hbg10, hbg12]
       refine (c99 hr11).app ?_; try simp -dsimp -implicitDefEqProofs (maxDischargeDepth := 6) [hbg9, hbg10, hbg12]
       exact J3 _ _ rfl rfl
   ·
    replace H := ifF C8 H
    refine AWP_seqk [1, 2, 5, 6, 8, 21, 65] fun K11 hK11 => ?_
    refine AWP_regl tok [] ?_
    simp -dsimp -implicitDefEqProofs (maxDischargeDepth := 6)
    refine keepE2 (l := [1, 2, 5, 6, 8, 21, 65]) (x := [(1, .int .i64 p1), (2, .fptr [.int .i64 p0.Op, .int .i64 p0.Dst, .int .i64 p0.A, .int .i64 p0.B, .int .i64 p0.N] 0), (5, .bool r1), (6, .bool r2), (8, .int .i64 p0.N), (21, .int .i64 p0.Op), (65, .bool (ieq p0.Op 4))]) (s := hp B [] (N0 + 27)) rfl rfl fun a' ha => ?_
    refine hK11 _ _ ?_; rw [ha]
    refine AWP_cond (ieq p0.Op 4) rfl (fun C7 => ?_) (fun C7 => ?_)
    ·
     replace H := ifT C7 H
     refine AWP_seqk [4] fun K12 hK12 => ?_
     obtain ⟨g13, hg13, H⟩ := bindE H
     obtain ⟨g14, hg14, H⟩ := bindE H
     have J4 : ∀ a' σ', AAct.keep a' [4] = [(4, .bool g14)] → σ' = hp B [] (N0 + 41) → K12 a' σ' := by
      intro a' σ' ha hs; subst hs
      refine hK12 _ _ ?_; rw [ha]
      refine AWP_ret ?_
      replace H := Option.some.inj H; subst H
      refine ⟨[.bool g14], by simp, ?_, ?_⟩
      ·
       simp [encL_nil]
      ·
       intro o ho; exact lk_out (by simp; try omega)
     refine AWP_regl tok [] ?_
     simp -dsimp -implicitDefEqProofs (maxDischargeDepth := 6)
     cases hbg13 : eqD p0 (⟨4, 0, 0, 0, p0.N⟩ : gQuad)
     ·
      replace hg13 := ifF hbg13 hg13
      replace hg13 := Option.some.inj hg13; subst hg13
      try simp -dsimp -implicitDefEqProofs (maxDischargeDepth := 6) [hbg13]
      replace hg14 := ifF rfl hg14
      replace hg14 := Option.some.inj hg14; subst hg14
      try simp -dsimp -implicitDefEqProofs (maxDischargeDepth := 6) [hbg13]
      exact J4 _ _ rfl rfl
     ·
      replace hg13 := ifT hbg13 hg13
      replace hg13 := Option.some.inj hg13; subst hg13
      try simp -dsimp -implicitDefEqProofs (maxDischargeDepth := 6) [hbg13]
      cases hbg14 : (ige p0.N 0)
      ·
       replace hg14 := ifF hbg14 hg14
       replace hg14 := Option.some.inj hg14; subst hg14
       try simp -dsimp -implicitDefEqProofs (maxDischargeDepth := 6) [hbg13, hbg14]
       exact J4 _ _ rfl rfl
      ·
       replace hg14 := ifT hbg14 hg14
       replace hg14 := Option.some.inj hg14; subst hg14
       try simp -dsimp -implicitDefEqProofs (maxDischargeDepth := 6) [hbg13, hbg14]
       exact J4 _ _ rfl rfl
    ·
     replace H := ifF C7 H
     refine AWP_seqk [1, 2, 5, 6, 8, 21, 80] fun K13 hK13 => ?_
     refine AWP_regl tok [] ?_
     simp -dsimp -implicitDefEqProofs (maxDischargeDepth := 6)
     refine keepE2 (l := [1, 2, 5, 6, 8, 21, 80]) (x := [(1, .int .i64 p1), (2, .fptr [.int .i64 p0.Op, .int .i64 p0.Dst, .int .i64 p0.A, .int .i64 p0.B, .int .i64 p0.N] 0), (5, .bool r1), (6, .bool r2), (8, .int .i64 p0.N), (21, .int .i64 p0.Op), (80, .bool (ieq p0.Op 5))]) (s := hp B [] (N0 + 29)) rfl rfl fun a' ha => ?_
     refine hK13 _ _ ?_; rw [ha]
     refine AWP_cond (ieq p0.Op 5) rfl (fun C6 => ?_) (fun C6 => ?_)
     ·
      replace H := ifT C6 H
      refine AWP_seqk [4] fun K14 hK14 => ?_
      obtain ⟨g15, hg15, H⟩ := bindE H
      obtain ⟨g16, hg16, H⟩ := bindE H
      obtain ⟨g17, hg17, H⟩ := bindE H
      have J5 : ∀ a' σ', AAct.keep a' [4] = [(4, .bool g17)] → σ' = hp B [] (N0 + 48) → K14 a' σ' := by
       intro a' σ' ha hs; subst hs
       refine hK14 _ _ ?_; rw [ha]
       refine AWP_ret ?_
       replace H := Option.some.inj H; subst H
       refine ⟨[.bool g17], by simp, ?_, ?_⟩
       ·
        simp [encL_nil]
       ·
        intro o ho; exact lk_out (by simp; try omega)
      refine AWP_regl tok [] ?_
      simp -dsimp -implicitDefEqProofs (maxDischargeDepth := 6)
      cases hbg15 : eqD p0 (⟨5, 0, p0.A, 0, p0.N⟩ : gQuad)
      ·
       replace hg15 := ifF hbg15 hg15
       replace hg15 := Option.some.inj hg15; subst hg15
       try simp -dsimp -implicitDefEqProofs (maxDischargeDepth := 6) [hbg15]
       replace hg16 := ifF rfl hg16
       replace hg16 := Option.some.inj hg16; subst hg16
       try simp -dsimp -implicitDefEqProofs (maxDischargeDepth := 6) [hbg15]
       replace hg17 := ifF rfl hg17
       replace hg17 := Option.some.inj hg17; subst hg17
       try simp -dsimp -implicitDefEqProofs (maxDischargeDepth := 6) [hbg15]
       exact J5 _ _ rfl rfl
      ·
       replace hg15 := ifT hbg15 hg15
       replace hg15 := Option.some.inj hg15; subst hg15
       try simp -dsimp -implicitDefEqProofs (maxDischargeDepth := 6) [hbg15]
       cases hbg16 : r2
       ·
        replace hg16 := ifF hbg16 hg16
        replace hg16 := Option.some.inj hg16; subst hg16
        try simp -dsimp -implicitDefEqProofs (maxDischargeDepth := 6) [hbg15, hbg16]
        replace hg17 := ifF rfl hg17
        replace hg17 := Option.some.inj hg17; subst hg17
        try simp -dsimp -implicitDefEqProofs (maxDischargeDepth := 6) [hbg15, hbg16]
        exact J5 _ _ rfl rfl
       ·
        replace hg16 := ifT hbg16 hg16
        replace hg16 := Option.some.inj hg16; subst hg16
        try simp -dsimp -implicitDefEqProofs (maxDischargeDepth := 6) [hbg15, hbg16]
        cases hbg17 : (ige p0.N 0)
        ·
         replace hg17 := ifF hbg17 hg17
         replace hg17 := Option.some.inj hg17; subst hg17
         try simp -dsimp -implicitDefEqProofs (maxDischargeDepth := 6) [hbg15, hbg16, hbg17]
         exact J5 _ _ rfl rfl
        ·
         replace hg17 := ifT hbg17 hg17
         replace hg17 := Option.some.inj hg17; subst hg17
         try simp -dsimp -implicitDefEqProofs (maxDischargeDepth := 6) [hbg15, hbg16, hbg17]
         exact J5 _ _ rfl rfl
     ·
      replace H := ifF C6 H
      refine AWP_seqk [2, 5, 6, 8, 21, 100] fun K15 hK15 => ?_
      refine AWP_regl tok [] ?_
      simp -dsimp -implicitDefEqProofs (maxDischargeDepth := 6)
      refine keepE2 (l := [2, 5, 6, 8, 21, 100]) (x := [(2, .fptr [.int .i64 p0.Op, .int .i64 p0.Dst, .int .i64 p0.A, .int .i64 p0.B, .int .i64 p0.N] 0), (5, .bool r1), (6, .bool r2), (8, .int .i64 p0.N), (21, .int .i64 p0.Op), (100, .bool (ieq p0.Op 6))]) (s := hp B [] (N0 + 31)) rfl rfl fun a' ha => ?_
      refine hK15 _ _ ?_; rw [ha]
      refine AWP_cond (ieq p0.Op 6) rfl (fun C5 => ?_) (fun C5 => ?_)
      ·
       replace H := ifT C5 H
       refine AWP_seqk [4] fun K16 hK16 => ?_
       obtain ⟨g18, hg18, H⟩ := bindE H
       obtain ⟨g19, hg19, H⟩ := bindE H
       obtain ⟨g20, hg20, H⟩ := bindE H
       have J6 : ∀ a' σ', AAct.keep a' [4] = [(4, .bool g20)] → σ' = hp B [] (N0 + 49) → K16 a' σ' := by
        intro a' σ' ha hs; subst hs
        refine hK16 _ _ ?_; rw [ha]
        refine AWP_ret ?_
        replace H := Option.some.inj H; subst H
        refine ⟨[.bool g20], by simp, ?_, ?_⟩
        ·
         simp [encL_nil]
        ·
         intro o ho; exact lk_out (by simp; try omega)
       refine AWP_regl tok [] ?_
       simp -dsimp -implicitDefEqProofs (maxDischargeDepth := 6)
       cases hbg18 : eqD p0 (⟨6, 0, p0.A, 0, p0.N⟩ : gQuad)
       ·
        replace hg18 := ifF hbg18 hg18
        replace hg18 := Option.some.inj hg18; subst hg18
        try simp -dsimp -implicitDefEqProofs (maxDischargeDepth := 6) [hbg18]
        replace hg19 := ifF rfl hg19
        replace hg19 := Option.some.inj hg19; subst hg19
        try simp -dsimp -implicitDefEqProofs (maxDischargeDepth := 6) [hbg18]
        replace hg20 := ifF rfl hg20
        replace hg20 := Option.some.inj hg20; subst hg20
        try simp -dsimp -implicitDefEqProofs (maxDischargeDepth := 6) [hbg18]
        exact J6 _ _ rfl rfl
       ·
        replace hg18 := ifT hbg18 hg18
        replace hg18 := Option.some.inj hg18; subst hg18
        try simp -dsimp -implicitDefEqProofs (maxDischargeDepth := 6) [hbg18]
        cases hbg19 : r2
        ·
         replace hg19 := ifF hbg19 hg19
         replace hg19 := Option.some.inj hg19; subst hg19
         try simp -dsimp -implicitDefEqProofs (maxDischargeDepth := 6) [hbg18, hbg19]
         replace hg20 := ifF rfl hg20
         replace hg20 := Option.some.inj hg20; subst hg20
         try simp -dsimp -implicitDefEqProofs (maxDischargeDepth := 6) [hbg18, hbg19]
         exact J6 _ _ rfl rfl
        ·
         replace hg19 := ifT hbg19 hg19
         replace hg19 := Option.some.inj hg19; subst hg19
         try simp -dsimp -implicitDefEqProofs (maxDischargeDepth := 6) [hbg18, hbg19]
         cases hbg20 : (ige p0.N 0)
         ·
          replace hg20 := ifF hbg20 hg20
          replace hg20 := Option.some.inj hg20; subst hg20
          try simp -dsimp -implicitDefEqProofs (maxDischargeDepth := 6) [hbg18, hbg19, hbg20]
          exact J6 _ _ rfl rfl
         ·
          replace hg20 := ifT hbg20 hg20
          replace hg20 := Option.some.inj hg20; subst hg20
          try simp -dsimp -implicitDefEqProofs (maxDischargeDepth := 6) [hbg18, hbg19, hbg20]
          exact J6 _ _ rfl rfl
      ·
       replace H := ifF C5 H
       refine AWP_seqk [2, 5, 6, 8, 21, 119] fun K17 hK17 => ?_
       refine AWP_regl tok [] ?_
       simp -dsimp -implicitDefEqProofs (maxDischargeDepth := 6)
       refine keepE2 (l := [2, 5, 6, 8, 21, 119]) (x := [(2, .fptr [.int .i64 p0.Op, .int .i64 p0.Dst, .int .i64 p0.A, .int .i64 p0.B, .int .i64 p0.N] 0), (5, .bool r1), (6, .bool r2), (8, .int .i64 p0.N), (21, .int .i64 p0.Op), (119, .bool (ieq p0.Op 7))]) (s := hp B [] (N0 + 33)) rfl rfl fun a' ha => ?_
       refine hK17 _ _ ?_; rw [ha]
       refine AWP_cond (ieq p0.Op 7) rfl (fun C4 => ?_) (fun C4 => ?_)
       ·
        replace H := ifT C4 H
        refine AWP_seqk [4] fun K18 hK18 => ?_
        obtain ⟨g21, hg21, H⟩ := bindE H
        obtain ⟨g22, hg22, H⟩ := bindE H
        obtain ⟨g23, hg23, H⟩ := bindE H
        have J7 : ∀ a' σ', AAct.keep a' [4] = [(4, .bool g23)] → σ' = hp B [] (N0 + 51) → K18 a' σ' := by
         intro a' σ' ha hs; subst hs
         refine hK18 _ _ ?_; rw [ha]
         refine AWP_ret ?_
         replace H := Option.some.inj H; subst H
         refine ⟨[.bool g23], by simp, ?_, ?_⟩
         ·
          simp [encL_nil]
         ·
          intro o ho; exact lk_out (by simp; try omega)
        refine AWP_regl tok [] ?_
        simp -dsimp -implicitDefEqProofs (maxDischargeDepth := 6)
        cases hbg21 : eqD p0 (⟨7, p0.Dst, 0, 0, p0.N⟩ : gQuad)
        ·
         replace hg21 := ifF hbg21 hg21
         replace hg21 := Option.some.inj hg21; subst hg21
         try simp -dsimp -implicitDefEqProofs (maxDischargeDepth := 6) [hbg21]
         replace hg22 := ifF rfl hg22
         replace hg22 := Option.some.inj hg22; subst hg22
         try simp -dsimp -implicitDefEqProofs (maxDischargeDepth := 6) [hbg21]
         replace hg23 := ifF rfl hg23
         replace hg23 := Option.some.inj hg23; subst hg23
         try simp -dsimp -implicitDefEqProofs (maxDischargeDepth := 6) [hbg21]
         exact J7 _ _ rfl rfl
        ·
         replace hg21 := ifT hbg21 hg21
         replace hg21 := Option.some.inj hg21; subst hg21
         try simp -dsimp -implicitDefEqProofs (maxDischargeDepth := 6) [hbg21]
         cases hbg22 : r1
         ·
          replace hg22 := ifF hbg22 hg22
          replace hg22 := Option.some.inj hg22; subst hg22
          try simp -dsimp -implicitDefEqProofs (maxDischargeDepth := 6) [hbg21, hbg22]
          replace hg23 := ifF rfl hg23
          replace hg23 := Option.some.inj hg23; subst hg23
          try simp -dsimp -implicitDefEqProofs (maxDischargeDepth := 6) [hbg21, hbg22]
          exact J7 _ _ rfl rfl
         ·
          replace hg22 := ifT hbg22 hg22
          replace hg22 := Option.some.inj hg22; subst hg22
          try simp -dsimp -implicitDefEqProofs (maxDischargeDepth := 6) [hbg21, hbg22]
          cases hbg23 : (ige p0.N 0)
          ·
           replace hg23 := ifF hbg23 hg23
           replace hg23 := Option.some.inj hg23; subst hg23
           try simp -dsimp -implicitDefEqProofs (maxDischargeDepth := 6) [hbg21, hbg22, hbg23]
           exact J7 _ _ rfl rfl
          ·
           replace hg23 := ifT hbg23 hg23
           replace hg23 := Option.some.inj hg23; subst hg23
           try simp -dsimp -implicitDefEqProofs (maxDischargeDepth := 6) [hbg21, hbg22, hbg23]
           exact J7 _ _ rfl rfl
       ·
        replace H := ifF C4 H
        refine AWP_seqk [2, 6, 21, 138] fun K19 hK19 => ?_
        refine AWP_regl tok [] ?_
        simp -dsimp -implicitDefEqProofs (maxDischargeDepth := 6)
        refine keepE2 (l := [2, 6, 21, 138]) (x := [(2, .fptr [.int .i64 p0.Op, .int .i64 p0.Dst, .int .i64 p0.A, .int .i64 p0.B, .int .i64 p0.N] 0), (6, .bool r2), (21, .int .i64 p0.Op), (138, .bool (ieq p0.Op 9))]) (s := hp B [] (N0 + 35)) rfl rfl fun a' ha => ?_
        refine hK19 _ _ ?_; rw [ha]
        refine AWP_cond (ieq p0.Op 9) rfl (fun C3 => ?_) (fun C3 => ?_)
        ·
         replace H := ifT C3 H
         refine AWP_seqk [4] fun K20 hK20 => ?_
         obtain ⟨g24, hg24, H⟩ := bindE H
         have J8 : ∀ a' σ', AAct.keep a' [4] = [(4, .bool g24)] → σ' = hp B [] (N0 + 44) → K20 a' σ' := by
          intro a' σ' ha hs; subst hs
          refine hK20 _ _ ?_; rw [ha]
          refine AWP_ret ?_
          replace H := Option.some.inj H; subst H
          refine ⟨[.bool g24], by simp, ?_, ?_⟩
          ·
           simp [encL_nil]
          ·
           intro o ho; exact lk_out (by simp; try omega)
         refine AWP_regl tok [] ?_
         simp -dsimp -implicitDefEqProofs (maxDischargeDepth := 6)
         cases hbg24 : eqD p0 (⟨9, 0, p0.A, 0, 0⟩ : gQuad)
         ·
          replace hg24 := ifF hbg24 hg24
          replace hg24 := Option.some.inj hg24; subst hg24
          try simp -dsimp -implicitDefEqProofs (maxDischargeDepth := 6) [hbg24]
          exact J8 _ _ rfl rfl
         ·
          replace hg24 := ifT hbg24 hg24
          replace hg24 := Option.some.inj hg24; subst hg24
          try simp -dsimp -implicitDefEqProofs (maxDischargeDepth := 6) [hbg24]
          exact J8 _ _ rfl rfl
        ·
         replace H := ifF C3 H
         refine AWP_seqk [2, 148] fun K21 hK21 => ?_
         obtain ⟨j1, hj1, H⟩ := bindE H
         have J9 : ∀ a' σ' M1, N0 + 35 ≤ M1 → AAct.keep a' [2, 148] = [(2, .fptr [.int .i64 p0.Op, .int .i64 p0.Dst, .int .i64 p0.A, .int .i64 p0.B, .int .i64 p0.N] 0), (148, .bool j1)] → AHeap.Sub (hp B [] M1) σ' → K21 a' σ' := by
          intro a' σ' M1 hM1_0 ha hsub
          refine hK21 _ _ ?_; rw [ha]; refine AWP_sub hsub ?_
          refine AWP_cond j1 rfl (fun C1 => ?_) (fun C1 => ?_)
          ·
           replace H := ifT C1 H
           refine AWP_seqk [4] fun K22 hK22 => ?_
           refine AWP_regl tok [] ?_
           simp -dsimp -implicitDefEqProofs (maxDischargeDepth := 6)
           refine keepE2 (l := [4]) (x := [(4, .bool (eqD p0 (⟨p0.Op, 0, 0, 0, 0⟩ : gQuad)))]) (s := hp B [] (M1 + 6)) rfl rfl fun a' ha => ?_
           refine hK22 _ _ ?_; rw [ha]
           refine AWP_ret ?_
           replace H := Option.some.inj H; subst H
           refine ⟨[.bool (eqD p0 (⟨p0.Op, 0, 0, 0, 0⟩ : gQuad))], by simp, ?_, ?_⟩
           ·
            simp [encL_nil]
           ·
            intro o ho; exact lk_out (by simp; try omega)
          ·
           replace H := ifF C1 H
           refine AWP_skip ?_
           show K3 _ _
           refine keepE (l := []) (x := []) rfl fun a' ha => ?_
           refine hK3 _ _ ?_; rw [ha]
           refine AWP_seqk [4] fun K23 hK23 => ?_
           refine AWP_regl tok [] ?_
           simp -dsimp -implicitDefEqProofs (maxDischargeDepth := 6)
           refine keepE2 (l := [4]) (x := [(4, .bool false)]) (s := hp B [] (M1 + 1)) rfl rfl fun a' ha => ?_
           refine hK23 _ _ ?_; rw [ha]
           refine AWP_ret ?_
           replace H := Option.some.inj H; subst H
           refine ⟨[.bool false], by simp, ?_, ?_⟩
           ·
            simp [encL_nil]
           ·
            intro o ho; exact lk_out (by simp; try omega)
         replace H := hj1
         refine AWP_seqk [2, 21, 148] fun K24 hK24 => ?_
         refine AWP_regl tok [] ?_
         simp -dsimp -implicitDefEqProofs (maxDischargeDepth := 6)
         refine keepE2 (l := [2, 21, 148]) (x := [(2, .fptr [.int .i64 p0.Op, .int .i64 p0.Dst, .int .i64 p0.A, .int .i64 p0.B, .int .i64 p0.N] 0), (21, .int .i64 p0.Op), (148, .bool (ieq p0.Op 8))]) (s := hp B [] (N0 + 37)) rfl rfl fun a' ha => ?_
         refine hK24 _ _ ?_; rw [ha]
         refine AWP_cond (ieq p0.Op 8) rfl (fun C2 => ?_) (fun C2 => ?_)
         ·
          replace H := ifT C2 H
          refine AWP_skip ?_
          show K21 _ _
          refine keepE (l := [2, 148]) (x := [(2, .fptr [.int .i64 p0.Op, .int .i64 p0.Dst, .int .i64 p0.A, .int .i64 p0.B, .int .i64 p0.N] 0), (148, .bool (ieq p0.Op 8))]) rfl fun a' ha => ?_
          replace H := Option.some.inj H
          subst H
          exact J9 _ _ (N0 + 37) (by omega) ha (AHeap.Sub.refl _)
         ·
          replace H := ifF C2 H
          refine AWP_regl tok [] ?_
          simp -dsimp -implicitDefEqProofs (maxDischargeDepth := 6)
          refine keepE2 (l := [2, 148]) (x := [(2, .fptr [.int .i64 p0.Op, .int .i64 p0.Dst, .int .i64 p0.A, .int .i64 p0.B, .int .i64 p0.N] 0), (148, .bool (ieq p0.Op 10))]) (s := hp B [] (N0 + 39)) rfl rfl fun a' ha => ?_
          replace H := Option.some.inj H
          subst H
          exact J9 _ _ (N0 + 39) (by omega) ha (AHeap.Sub.refl _)
end Go.Proofs.YtoklfbdcghgmlaaDoor
