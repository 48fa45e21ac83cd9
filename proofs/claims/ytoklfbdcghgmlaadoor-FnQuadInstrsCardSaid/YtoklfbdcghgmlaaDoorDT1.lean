/- The contracts of functions of the program, part 1: each computes what its mirror computes. No conditions. -/
import Derived.Test.YtoklfbdcghgmlaaDoorDT0
set_option linter.unusedSimpArgs false
set_option linter.unusedVariables false
set_option maxRecDepth 20000
set_option maxHeartbeats 4000000
namespace Go.Proofs.YtoklfbdcghgmlaaDoor
open Go Go.Abs Go.RowKit

theorem c129 {p0 : Int} {p1 : Int} {r : Int} (H : s_SignExtend p0 p1 = some r) : APure Tryd.prog G 129 [.int .i64 p0, .int .i64 p1] (.int .i64 r) := by
 refine APure_thaw 4 (fun σ => ?_) (by simp)
 refine ACalls_fn tok Tryd.func129 (by kernel_rfl) rfl Tryd.ntmps129 Tryd.results129 rfl ?_
 simp only [argsA, Nat.reduceAdd]
 refine AWP_ids fun hfr => ?_
 obtain ⟨B, hB⟩ : ∃ B, B = σ.objs := ⟨_, rfl⟩
 obtain ⟨N0, hN0⟩ : ∃ N, N = σ.next := ⟨_, rfl⟩
 have hσ : σ = hp B [] N0 := by rw [hB, hN0]; rfl
 rw [← hN0, ← hB] at hfr ⊢
 rw [hσ]; clear hσ
 unfold s_SignExtend at H
 refine AWP_seqk [0, 1] fun K1 hK1 => ?_
 refine AWP_regl tok [] ?_
 simp -dsimp -implicitDefEqProofs (maxDischargeDepth := 6)
 refine keepE2 (l := [0, 1]) (x := [(0, .int .i64 p0), (1, .int .i64 p1)]) (s := hp B [] (N0 + 1)) rfl rfl fun a' ha => ?_
 refine hK1 _ _ ?_; rw [ha]
 refine AWP_seqk [0, 1] fun K2 hK2 => ?_
 refine AWP_seqk [0, 1, 15] fun K3 hK3 => ?_
 obtain ⟨r1, hr1, H⟩ := bindE H
 obtain ⟨g4, hg4, H⟩ := bindE H
 have J1 : ∀ a' σ', AAct.keep a' [0, 1, 15] = [(0, .int .i64 p0), (1, .int .i64 p1), (15, .bool g4)] → σ' = hp B [] (N0 + 12) → K3 a' σ' := by
  intro a' σ' ha hs; subst hs
  refine hK3 _ _ ?_; rw [ha]
  refine AWP_cond g4 rfl (fun C2 => ?_) (fun C2 => ?_)
  ·
   replace H := ifT C2 H
   refine AWP_seqk [4] fun K4 hK4 => ?_
   refine AWP_regl tok [] ?_
   simp -dsimp -implicitDefEqProofs (maxDischargeDepth := 6)
   refine keepE2 (l := [4]) (x := [(4, .int .i64 0)]) (s := hp B [] (N0 + 13)) rfl rfl fun a' ha => ?_
   refine hK4 _ _ ?_; rw [ha]
   refine AWP_ret ?_
   replace H := Option.some.inj H; subst H
   refine ⟨[.int .i64 0], by simp, ?_, ?_⟩
   ·
    simp [encL_nil]
   ·
    intro o ho; exact lk_out (by simp; try omega)
  ·
   replace H := ifF C2 H
   refine AWP_skip ?_
   show K2 _ _
   refine keepE (l := [0, 1]) (x := [(0, .int .i64 p0), (1, .int .i64 p1)]) rfl fun a' ha => ?_
   refine hK2 _ _ ?_; rw [ha]
   refine AWP_seqk [0] fun K5 hK5 => ?_
   refine AWP_seqk [0, 1, 20] fun K6 hK6 => ?_
   obtain ⟨r5, hr5, H⟩ := bindE H
   refine AWP_regl tok [] ?_
   simp -dsimp -implicitDefEqProofs (maxDischargeDepth := 6)
   refine (c147 hr5).app ?_; try simp -dsimp -implicitDefEqProofs (maxDischargeDepth := 6)
   refine keepE2 (l := [0, 1, 20]) (x := [(0, .int .i64 p0), (1, .int .i64 p1), (20, .bool (ige p0 r5))]) (s := hp B [] (N0 + 17)) rfl rfl fun a' ha => ?_
   refine hK6 _ _ ?_; rw [ha]
   refine AWP_cond (ige p0 r5) rfl (fun C1 => ?_) (fun C1 => ?_)
   ·
    replace H := ifT C1 H
    refine AWP_seqk [4] fun K7 hK7 => ?_
    obtain ⟨r6, hr6, H⟩ := bindE H
    refine AWP_regl tok [] ?_
    simp -dsimp -implicitDefEqProofs (maxDischargeDepth := 6)
    refine (c147 hr6).app ?_; try simp -dsimp -implicitDefEqProofs (maxDischargeDepth := 6)
    refine keepE2 (l := [4]) (x := [(4, .int .i64 (isub .i64 p0 r6))]) (s := hp B [] (N0 + 22)) rfl rfl fun a' ha => ?_
    refine hK7 _ _ ?_; rw [ha]
    refine AWP_ret ?_
    replace H := Option.some.inj H; subst H
    refine ⟨[.int .i64 (isub .i64 p0 r6)], by simp, ?_, ?_⟩
    ·
     simp [encL_nil]
    ·
     intro o ho; exact lk_out (by simp; try omega)
   ·
    replace H := ifF C1 H
    refine AWP_skip ?_
    show K5 _ _
    refine keepE (l := [0]) (x := [(0, .int .i64 p0)]) rfl fun a' ha => ?_
    refine hK5 _ _ ?_; rw [ha]
    refine AWP_seqk [4] fun K8 hK8 => ?_
    refine AWP_regl tok [] ?_
    simp -dsimp -implicitDefEqProofs (maxDischargeDepth := 6)
    refine keepE2 (l := [4]) (x := [(4, .int .i64 p0)]) (s := hp B [] (N0 + 19)) rfl rfl fun a' ha => ?_
    refine hK8 _ _ ?_; rw [ha]
    refine AWP_ret ?_
    replace H := Option.some.inj H; subst H
    refine ⟨[.int .i64 p0], by simp, ?_, ?_⟩
    ·
     simp [encL_nil]
    ·
     intro o ho; exact lk_out (by simp; try omega)
 refine AWP_regl tok [] ?_
 simp -dsimp -implicitDefEqProofs (maxDischargeDepth := 6)
 refine (c65 hr1).app ?_; try simp -dsimp -implicitDefEqProofs (maxDischargeDepth := 6)
 cases hbg4 : bnot r1
 ·
  replace hg4 := ifF hbg4 hg4
  obtain ⟨r2, hr2, hg4⟩ := bindE hg4
  obtain ⟨r3, hr3, hg4⟩ := bindE hg4
  replace hg4 := Option.some.inj hg4; subst hg4
  try simp -dsimp -implicitDefEqProofs (maxDischargeDepth := 6) [hbg4]
  refine (c147 hr2).app ?_; try simp -dsimp -implicitDefEqProofs (maxDischargeDepth := 6) [hbg4]
  refine (c65 hr3).app ?_; try simp -dsimp -implicitDefEqProofs (maxDischargeDepth := 6) [hbg4]
  exact J1 _ _ rfl rfl
 ·
  replace hg4 := ifT hbg4 hg4
  replace hg4 := Option.some.inj hg4; subst hg4
  try simp -dsimp -implicitDefEqProofs (maxDischargeDepth := 6) [hbg4]
  exact J1 _ _ rfl rfl
theorem c130 {p0 : Int} {p1 : Int} {p2 : Int} {r : Int} (H : s_Bits p0 p1 p2 = some r) : APure Tryd.prog G 130 [.int .i64 p0, .int .i64 p1, .int .i64 p2] (.int .i64 r) := by
 refine APure_thaw 4 (fun σ => ?_) (by simp)
 refine ACalls_fn tok Tryd.func130 (by kernel_rfl) rfl Tryd.ntmps130 Tryd.results130 rfl ?_
 simp only [argsA, Nat.reduceAdd]
 refine AWP_ids fun hfr => ?_
 obtain ⟨B, hB⟩ : ∃ B, B = σ.objs := ⟨_, rfl⟩
 obtain ⟨N0, hN0⟩ : ∃ N, N = σ.next := ⟨_, rfl⟩
 have hσ : σ = hp B [] N0 := by rw [hB, hN0]; rfl
 rw [← hN0, ← hB] at hfr ⊢
 rw [hσ]; clear hσ
 unfold s_Bits at H
 refine AWP_seqk [0, 1, 2] fun K1 hK1 => ?_
 refine AWP_regl tok [] ?_
 simp -dsimp -implicitDefEqProofs (maxDischargeDepth := 6)
 refine keepE2 (l := [0, 1, 2]) (x := [(0, .int .i64 p0), (1, .int .i64 p1), (2, .int .i64 p2)]) (s := hp B [] (N0 + 1)) rfl rfl fun a' ha => ?_
 refine hK1 _ _ ?_; rw [ha]
 refine AWP_seqk [0, 1, 2] fun K2 hK2 => ?_
 refine AWP_seqk [0, 1, 2, 21] fun K3 hK3 => ?_
 obtain ⟨r1, hr1, H⟩ := bindE H
 obtain ⟨g3, hg3, H⟩ := bindE H
 obtain ⟨g5, hg5, H⟩ := bindE H
 have J1 : ∀ a' σ', AAct.keep a' [0, 1, 2, 21] = [(0, .int .i64 p0), (1, .int .i64 p1), (2, .int .i64 p2), (21, .bool g5)] → σ' = hp B [] (N0 + 16) → K3 a' σ' := by
  intro a' σ' ha hs; subst hs
  refine hK3 _ _ ?_; rw [ha]
  refine AWP_cond g5 rfl (fun C1 => ?_) (fun C1 => ?_)
  ·
   replace H := ifT C1 H
   refine AWP_seqk [6] fun K4 hK4 => ?_
   refine AWP_regl tok [] ?_
   simp -dsimp -implicitDefEqProofs (maxDischargeDepth := 6)
   refine keepE2 (l := [6]) (x := [(6, .int .i64 0)]) (s := hp B [] (N0 + 17)) rfl rfl fun a' ha => ?_
   refine hK4 _ _ ?_; rw [ha]
   refine AWP_ret ?_
   replace H := Option.some.inj H; subst H
   refine ⟨[.int .i64 0], by simp, ?_, ?_⟩
   ·
    simp [encL_nil]
   ·
    intro o ho; exact lk_out (by simp; try omega)
  ·
   replace H := ifF C1 H
   refine AWP_skip ?_
   show K2 _ _
   refine keepE (l := [0, 1, 2]) (x := [(0, .int .i64 p0), (1, .int .i64 p1), (2, .int .i64 p2)]) rfl fun a' ha => ?_
   refine hK2 _ _ ?_; rw [ha]
   refine AWP_seqk [6] fun K5 hK5 => ?_
   obtain ⟨r6, hr6, H⟩ := bindE H
   obtain ⟨v7, hv7, H⟩ := bindE H
   obtain ⟨r8, hr8, H⟩ := bindE H
   obtain ⟨v9, hv9, H⟩ := bindE H
   refine AWP_drawl tok tokM [] [] [0, 1, 2, 3, 4, 5, 6, 7] (by decide) ?_
   simp only [pickL, nthO_succ, nthO_zero]
   simp -dsimp -implicitDefEqProofs (maxDischargeDepth := 6) [hv7, hv9]
   refine Pc.mk (c147 hr6) ?_; try simp -dsimp -implicitDefEqProofs (maxDischargeDepth := 6) [hv7, hv9]
   refine Pc.mk (c147 hr8) ?_; try simp -dsimp -implicitDefEqProofs (maxDischargeDepth := 6) [hv7, hv9]
   refine keepE2 (l := [6]) (x := [(6, .int .i64 v9)]) (s := hp B [] (N0 + 24)) rfl rfl fun a' ha => ?_
   refine hK5 _ _ ?_; rw [ha]
   refine AWP_ret ?_
   replace H := Option.some.inj H; subst H
   refine ⟨[.int .i64 v9], by simp, ?_, ?_⟩
   ·
    simp [encL_nil]
   ·
    intro o ho; exact lk_out (by simp; try omega)
 refine AWP_regl tok [] ?_
 simp -dsimp -implicitDefEqProofs (maxDischargeDepth := 6)
 refine (c65 hr1).app ?_; try simp -dsimp -implicitDefEqProofs (maxDischargeDepth := 6)
 cases hbg3 : bnot r1
 ·
  replace hg3 := ifF hbg3 hg3
  obtain ⟨r2, hr2, hg3⟩ := bindE hg3
  replace hg3 := Option.some.inj hg3; subst hg3
  try simp -dsimp -implicitDefEqProofs (maxDischargeDepth := 6) [hbg3]
  refine (c65 hr2).app ?_; try simp -dsimp -implicitDefEqProofs (maxDischargeDepth := 6) [hbg3]
  cases hbg5 : (bnot r2)
  ·
   replace hg5 := ifF hbg5 hg5
   obtain ⟨r4, hr4, hg5⟩ := bindE hg5
   replace hg5 := Option.some.inj hg5; subst hg5
   try simp -dsimp -implicitDefEqProofs (maxDischargeDepth := 6) [hbg3, hbg5]
   refine (c65 hr4).app ?_; try simp -dsimp -implicitDefEqProofs (maxDischargeDepth := 6) [hbg3, hbg5]
   exact J1 _ _ rfl rfl
  ·
   replace hg5 := ifT hbg5 hg5
   replace hg5 := Option.some.inj hg5; subst hg5
   try simp -dsimp -implicitDefEqProofs (maxDischargeDepth := 6) [hbg3, hbg5]
   exact J1 _ _ rfl rfl
 ·
  replace hg3 := ifT hbg3 hg3
  replace hg3 := Option.some.inj hg3; subst hg3
  try simp -dsimp -implicitDefEqProofs (maxDischargeDepth := 6) [hbg3]
  replace hg5 := ifT rfl hg5
  replace hg5 := Option.some.inj hg5; subst hg5
  try simp -dsimp -implicitDefEqProofs (maxDischargeDepth := 6) [hbg3]
  exact J1 _ _ rfl rfl
theorem c131 {p0 : Int} {r : Int} (H : s_Unsigned p0 = some r) : APure Tryd.prog G 131 [.int .i64 p0] (.int .i64 r) := by
 refine APure_thaw 4 (fun σ => ?_) (by simp)
 refine ACalls_fn tok Tryd.func131 (by kernel_rfl) rfl Tryd.ntmps131 Tryd.results131 rfl ?_
 simp only [argsA, Nat.reduceAdd]
 refine AWP_ids fun hfr => ?_
 obtain ⟨B, hB⟩ : ∃ B, B = σ.objs := ⟨_, rfl⟩
 obtain ⟨N0, hN0⟩ : ∃ N, N = σ.next := ⟨_, rfl⟩
 have hσ : σ = hp B [] N0 := by rw [hB, hN0]; rfl
 rw [← hN0, ← hB] at hfr ⊢
 rw [hσ]; clear hσ
 unfold s_Unsigned at H
 refine AWP_seqk [0] fun K1 hK1 => ?_
 refine AWP_regl tok [] ?_
 simp -dsimp -implicitDefEqProofs (maxDischargeDepth := 6)
 refine keepE2 (l := [0]) (x := [(0, .int .i64 p0)]) (s := hp B [] (N0 + 1)) rfl rfl fun a' ha => ?_
 refine hK1 _ _ ?_; rw [ha]
 refine AWP_seqk [0] fun K2 hK2 => ?_
 refine AWP_seqk [0, 5] fun K3 hK3 => ?_
 obtain ⟨r1, hr1, H⟩ := bindE H
 refine AWP_regl tok [] ?_
 simp -dsimp -implicitDefEqProofs (maxDischargeDepth := 6)
 refine (c75 hr1).app ?_; try simp -dsimp -implicitDefEqProofs (maxDischargeDepth := 6)
 refine keepE2 (l := [0, 5]) (x := [(0, .int .i64 p0), (5, .bool (bnot r1))]) (s := hp B [] (N0 + 4)) rfl rfl fun a' ha => ?_
 refine hK3 _ _ ?_; rw [ha]
 refine AWP_cond (bnot r1) rfl (fun C2 => ?_) (fun C2 => ?_)
 ·
  replace H := ifT C2 H
  refine AWP_seqk [2] fun K4 hK4 => ?_
  refine AWP_regl tok [] ?_
  simp -dsimp -implicitDefEqProofs (maxDischargeDepth := 6)
  refine keepE2 (l := [2]) (x := [(2, .int .i64 (-1))]) (s := hp B [] (N0 + 5)) rfl rfl fun a' ha => ?_
  refine hK4 _ _ ?_; rw [ha]
  refine AWP_ret ?_
  replace H := Option.some.inj H; subst H
  refine ⟨[.int .i64 (-1)], by simp, ?_, ?_⟩
  ·
   simp [encL_nil]
  ·
   intro o ho; exact lk_out (by simp; try omega)
 ·
  replace H := ifF C2 H
  refine AWP_skip ?_
  show K2 _ _
  refine keepE (l := [0]) (x := [(0, .int .i64 p0)]) rfl fun a' ha => ?_
  refine hK2 _ _ ?_; rw [ha]
  refine AWP_seqk [0] fun K5 hK5 => ?_
  refine AWP_seqk [0, 7] fun K6 hK6 => ?_
  refine AWP_regl tok [] ?_
  simp -dsimp -implicitDefEqProofs (maxDischargeDepth := 6)
  refine keepE2 (l := [0, 7]) (x := [(0, .int .i64 p0), (7, .bool (ilt p0 0))]) (s := hp B [] (N0 + 6)) rfl rfl fun a' ha => ?_
  refine hK6 _ _ ?_; rw [ha]
  refine AWP_cond (ilt p0 0) rfl (fun C1 => ?_) (fun C1 => ?_)
  ·
   replace H := ifT C1 H
   refine AWP_seqk [2] fun K7 hK7 => ?_
   refine AWP_regl tok [] ?_
   simp -dsimp -implicitDefEqProofs (maxDischargeDepth := 6)
   refine keepE2 (l := [2]) (x := [(2, .int .i64 (iadd .i64 p0 4294967296))]) (s := hp B [] (N0 + 9)) rfl rfl fun a' ha => ?_
   refine hK7 _ _ ?_; rw [ha]
   refine AWP_ret ?_
   replace H := Option.some.inj H; subst H
   refine ⟨[.int .i64 (iadd .i64 p0 4294967296)], by simp, ?_, ?_⟩
   ·
    simp [encL_nil]
   ·
    intro o ho; exact lk_out (by simp; try omega)
  ·
   replace H := ifF C1 H
   refine AWP_skip ?_
   show K5 _ _
   refine keepE (l := [0]) (x := [(0, .int .i64 p0)]) rfl fun a' ha => ?_
   refine hK5 _ _ ?_; rw [ha]
   refine AWP_seqk [2] fun K8 hK8 => ?_
   refine AWP_regl tok [] ?_
   simp -dsimp -implicitDefEqProofs (maxDischargeDepth := 6)
   refine keepE2 (l := [2]) (x := [(2, .int .i64 p0)]) (s := hp B [] (N0 + 8)) rfl rfl fun a' ha => ?_
   refine hK8 _ _ ?_; rw [ha]
   refine AWP_ret ?_
   replace H := Option.some.inj H; subst H
   refine ⟨[.int .i64 p0], by simp, ?_, ?_⟩
   ·
    simp [encL_nil]
   ·
    intro o ho; exact lk_out (by simp; try omega)
theorem c105 {p0 : Int} {p1 : Int} {p2 : Int} {r : Int} (H : s_l43Reg p0 p1 p2 = some r) : APure Tryd.prog G 105 [.int .i64 p0, .int .i64 p1, .int .i64 p2] (.int .i64 r) := by
 refine APure_thaw 4 (fun σ => ?_) (by simp)
 refine ACalls_fn tok Tryd.func105 (by kernel_rfl) rfl Tryd.ntmps105 Tryd.results105 rfl ?_
 simp only [argsA, Nat.reduceAdd]
 refine AWP_ids fun hfr => ?_
 obtain ⟨B, hB⟩ : ∃ B, B = σ.objs := ⟨_, rfl⟩
 obtain ⟨N0, hN0⟩ : ∃ N, N = σ.next := ⟨_, rfl⟩
 have hσ : σ = hp B [] N0 := by rw [hB, hN0]; rfl
 rw [← hN0, ← hB] at hfr ⊢
 rw [hσ]; clear hσ
 unfold s_l43Reg at H
 refine AWP_seqk [0, 1, 2] fun K1 hK1 => ?_
 refine AWP_regl tok [] ?_
 simp -dsimp -implicitDefEqProofs (maxDischargeDepth := 6)
 refine keepE2 (l := [0, 1, 2]) (x := [(0, .int .i64 p0), (1, .int .i64 p1), (2, .int .i64 p2)]) (s := hp B [] (N0 + 1)) rfl rfl fun a' ha => ?_
 refine hK1 _ _ ?_; rw [ha]
 refine AWP_seqk [0] fun K2 hK2 => ?_
 refine AWP_seqk [0, 2, 9] fun K3 hK3 => ?_
 refine AWP_regl tok [] ?_
 simp -dsimp -implicitDefEqProofs (maxDischargeDepth := 6)
 refine keepE2 (l := [0, 2, 9]) (x := [(0, .int .i64 p0), (2, .int .i64 p2), (9, .bool (ige p0 p1))]) (s := hp B [] (N0 + 4)) rfl rfl fun a' ha => ?_
 refine hK3 _ _ ?_; rw [ha]
 refine AWP_cond (ige p0 p1) rfl (fun C1 => ?_) (fun C1 => ?_)
 ·
  replace H := ifT C1 H
  refine AWP_seqk [6] fun K4 hK4 => ?_
  refine AWP_regl tok [] ?_
  simp -dsimp -implicitDefEqProofs (maxDischargeDepth := 6)
  refine keepE2 (l := [6]) (x := [(6, .int .i64 p2)]) (s := hp B [] (N0 + 6)) rfl rfl fun a' ha => ?_
  refine hK4 _ _ ?_; rw [ha]
  refine AWP_ret ?_
  replace H := Option.some.inj H; subst H
  refine ⟨[.int .i64 p2], by simp, ?_, ?_⟩
  ·
   simp [encL_nil]
  ·
   intro o ho; exact lk_out (by simp; try omega)
 ·
  replace H := ifF C1 H
  refine AWP_skip ?_
  show K2 _ _
  refine keepE (l := [0]) (x := [(0, .int .i64 p0)]) rfl fun a' ha => ?_
  refine hK2 _ _ ?_; rw [ha]
  refine AWP_seqk [6] fun K5 hK5 => ?_
  obtain ⟨v1, hv1, H⟩ := bindE H
  have q0 : ∀ σ i, buildSliceA T 24 true i 8 [(0, .int .i64 8), (1, .int .i64 9), (2, .int .i64 18), (3, .int .i64 19), (4, .int .i64 20), (5, .int .i64 21), (6, .int .i64 22), (7, .int .i64 23)] σ = some (.fsl (encL rI ([8, 9, 18, 19, 20, 21, 22, 23] : List Int)), σ) := fun _ _ => rfl
  refine AWP_regl tok [0] ?_
  simp -dsimp -implicitDefEqProofs (maxDischargeDepth := 6) [q0, ix24 hv1]
  refine keepE2 (l := [6]) (x := [(6, .int .i64 v1)]) (s := hp B [] (N0 + 9)) rfl rfl fun a' ha => ?_
  refine hK5 _ _ ?_; rw [ha]
  refine AWP_ret ?_
  replace H := Option.some.inj H; subst H
  refine ⟨[.int .i64 v1], by simp, ?_, ?_⟩
  ·
   simp [encL_nil]
  ·
   intro o ho; exact lk_out (by simp; try omega)
theorem c108 {p0 : Int} {p1 : Int} {r : gInstr} (H : s_l43Move p0 p1 = some r) : APure Tryd.prog G 108 [.int .i64 p0, .int .i64 p1] (.agg [.int .i64 r.Op, .int .i64 r.Rd, .int .i64 r.Rs, .int .i64 r.Rt, .int .i64 r.Imm]) := by
 refine APure_thaw 4 (fun σ => ?_) (by simp)
 refine ACalls_fn tok Tryd.func108 (by kernel_rfl) rfl Tryd.ntmps108 Tryd.results108 rfl ?_
 simp only [argsA, Nat.reduceAdd]
 refine AWP_ids fun hfr => ?_
 obtain ⟨B, hB⟩ : ∃ B, B = σ.objs := ⟨_, rfl⟩
 obtain ⟨N0, hN0⟩ : ∃ N, N = σ.next := ⟨_, rfl⟩
 have hσ : σ = hp B [] N0 := by rw [hB, hN0]; rfl
 rw [← hN0, ← hB] at hfr ⊢
 rw [hσ]; clear hσ
 unfold s_l43Move at H
 refine AWP_seqk [0, 1, 4] fun K1 hK1 => ?_
 refine AWP_regl tok [] ?_
 simp -dsimp -implicitDefEqProofs (maxDischargeDepth := 6)
 refine keepE2 (l := [0, 1, 4]) (x := [(0, .int .i64 p0), (1, .int .i64 p1), (4, .ptr N0 0 0)]) (s := hp B [(N0, some ⟨47, 5, [[.int .i64 0, .int .i64 0, .int .i64 0, .int .i64 0, .int .i64 0]]⟩)] (N0 + 1)) rfl rfl fun a' ha => ?_
 refine hK1 _ _ ?_; rw [ha]
 refine AWP_seqk [4] fun K2 hK2 => ?_
 refine AWP_regl tok [] ?_
 simp -dsimp -implicitDefEqProofs (maxDischargeDepth := 6)
 refine keepE2 (l := [4]) (x := [(4, .ptr N0 0 0)]) (s := hp B [(N0, some ⟨47, 5, [[.int .i64 12, .int .i64 p0, .int .i64 p1, .int .i64 0, .int .i64 0]]⟩)] (N0 + 5)) rfl rfl fun a' ha => ?_
 refine hK2 _ _ ?_; rw [ha]
 refine AWP_ret ?_
 replace H := Option.some.inj H; subst H
 have e0 : N0 ≤ N0 := by omega
 refine ⟨[.agg [.int .i64 12, .int .i64 p0, .int .i64 p1, .int .i64 0, .int .i64 0]], by simp [e0], ?_, ?_⟩
 ·
  simp [encL_nil, e0]
 ·
  intro o ho; exact lk_out (by simp; try omega)
theorem c143 {p0 : Int} {r : Int} (H : s_l43Op p0 = some r) : APure Tryd.prog G 143 [.int .i64 p0] (.int .i64 r) := by
 refine APure_thaw 4 (fun σ => ?_) (by simp)
 refine ACalls_fn tok Tryd.func143 (by kernel_rfl) rfl Tryd.ntmps143 Tryd.results143 rfl ?_
 simp only [argsA, Nat.reduceAdd]
 refine AWP_ids fun hfr => ?_
 obtain ⟨B, hB⟩ : ∃ B, B = σ.objs := ⟨_, rfl⟩
 obtain ⟨N0, hN0⟩ : ∃ N, N = σ.next := ⟨_, rfl⟩
 have hσ : σ = hp B [] N0 := by rw [hB, hN0]; rfl
 rw [← hN0, ← hB] at hfr ⊢
 rw [hσ]; clear hσ
 unfold s_l43Op at H
 refine AWP_seqk [0] fun K1 hK1 => ?_
 refine AWP_regl tok [] ?_
 simp -dsimp -implicitDefEqProofs (maxDischargeDepth := 6)
 refine keepE2 (l := [0]) (x := [(0, .int .i64 p0)]) (s := hp B [] (N0 + 1)) rfl rfl fun a' ha => ?_
 refine hK1 _ _ ?_; rw [ha]
 refine AWP_seqk [0, 3] fun K2 hK2 => ?_
 have q0 : ∀ σ i, buildSliceA T 24 true i 12 [(0, .int .i64 7), (1, .int .i64 8), (2, .int .i64 6), (3, .int .i64 8), (4, .int .i64 11), (5, .int .i64 9), (6, .int .i64 10), (7, .int .i64 1), (8, .int .i64 2), (9, .int .i64 3), (10, .int .i64 4), (11, .int .i64 5)] σ = some (.fsl (encL rI ([7, 8, 6, 8, 11, 9, 10, 1, 2, 3, 4, 5] : List Int)), σ) := fun _ _ => rfl
 refine AWP_regl tok [0] ?_
 simp -dsimp -implicitDefEqProofs (maxDischargeDepth := 6) [q0]
 refine keepE2 (l := [0, 3]) (x := [(0, .int .i64 p0), (3, .fsl (encL rI ([7, 8, 6, 8, 11, 9, 10, 1, 2, 3, 4, 5] : List Int)))]) (s := hp B [] (N0 + 3)) rfl rfl fun a' ha => ?_
 refine hK2 _ _ ?_; rw [ha]
 refine AWP_seqk [2] fun K3 hK3 => ?_
 obtain ⟨v1, hv1, H⟩ := bindE H
 refine AWP_regl tok [] ?_
 simp -dsimp -implicitDefEqProofs (maxDischargeDepth := 6) [ix24 hv1]
 refine keepE2 (l := [2]) (x := [(2, .int .i64 v1)]) (s := hp B [] (N0 + 9)) rfl rfl fun a' ha => ?_
 refine hK3 _ _ ?_; rw [ha]
 refine AWP_ret ?_
 replace H := Option.some.inj H; subst H
 refine ⟨[.int .i64 v1], by simp, ?_, ?_⟩
 ·
  simp [encL_nil]
 ·
  intro o ho; exact lk_out (by simp; try omega)
theorem c109 {p0 : gQuad} {p1 : Int} {r : (List gInstr)} (H : s_l43Bin p0 p1 = some r) : APure Tryd.prog G 109 [.agg [.int .i64 p0.Op, .int .i64 p0.Dst, .int .i64 p0.A, .int .i64 p0.B, .int .i64 p0.N], .int .i64 p1] (.fsl (encL rInstr r)) := by
 refine APure_thaw 4 (fun σ => ?_) (by simp)
 refine ACalls_fn tok Tryd.func109 (by kernel_rfl) rfl Tryd.ntmps109 Tryd.results109 rfl ?_
 simp only [argsA, Nat.reduceAdd]
 refine AWP_ids fun hfr => ?_
 obtain ⟨B, hB⟩ : ∃ B, B = σ.objs := ⟨_, rfl⟩
 obtain ⟨N0, hN0⟩ : ∃ N, N = σ.next := ⟨_, rfl⟩
 have hσ : σ = hp B [] N0 := by rw [hB, hN0]; rfl
 rw [← hN0, ← hB] at hfr ⊢
 rw [hσ]; clear hσ
 unfold s_l43Bin at H
 refine AWP_seqk [1, 2] fun K1 hK1 => ?_
 refine AWP_regl tok [0] ?_
 simp -dsimp -implicitDefEqProofs (maxDischargeDepth := 6)
 refine keepE2 (l := [1, 2]) (x := [(1, .int .i64 p1), (2, .fptr [.int .i64 p0.Op, .int .i64 p0.Dst, .int .i64 p0.A, .int .i64 p0.B, .int .i64 p0.N] 0)]) (s := hp B [] (N0 + 2)) rfl rfl fun a' ha => ?_
 refine hK1 _ _ ?_; rw [ha]
 refine AWP_seqk [1, 2, 5] fun K2 hK2 => ?_
 refine AWP_drawl tok tokM [] [3, 7, 8, 9] [0, 1, 2, 4, 5, 6, 3, 7, 8, 9] (by decide) ?_
 simp only [pickL, nthO_succ, nthO_zero]
 simp -dsimp -implicitDefEqProofs (maxDischargeDepth := 6)
 refine ACalls_fn tok Tryd.func107 (by kernel_rfl) rfl Tryd.ntmps107 Tryd.results107 rfl ?_
 simp only [argsA, Nat.reduceAdd]
 refine AWP_seqk [0, 1, 2] fun K4 hK4 => ?_
 obtain ⟨l1, hl1, H⟩ := bindE H
 have q0 : ∀ σ i, nilA T 29 i .nilsl σ = some (.sl i 0 (List.length l1), σ.put i ⟨47, 5, encL rInstr l1⟩) := by rw [← Option.some.inj hl1]; intro _ _; rfl
 refine AWP_regl tok [0] ?_
 simp -dsimp -implicitDefEqProofs (maxDischargeDepth := 6) [q0]
 refine keepE2 (l := [0, 1, 2]) (x := [(0, .int .i64 p0.A), (1, .int .i64 p1), (2, .int .i64 5)]) (s := hp B [(N0 + 12, some ⟨47, 5, encL rInstr l1⟩)] (N0 + 13)) rfl rfl fun a' ha => ?_
 refine hK4 _ _ ?_; rw [ha]
 refine AWP_seqk [0, 1, 2] fun K5 hK5 => ?_
 refine AWP_seqk [0, 1, 2, 9] fun K6 hK6 => ?_
 refine AWP_regl tok [] ?_
 simp -dsimp -implicitDefEqProofs (maxDischargeDepth := 6)
 refine keepE2 (l := [0, 1, 2, 9]) (x := [(0, .int .i64 p0.A), (1, .int .i64 p1), (2, .int .i64 5), (9, .bool (ilt p0.A p1))]) (s := hp B [(N0 + 12, some ⟨47, 5, encL rInstr l1⟩)] (N0 + 16)) rfl rfl fun a' ha => ?_
 refine hK6 _ _ ?_; rw [ha]
 refine AWP_cond (ilt p0.A p1) rfl (fun C11 => ?_) (fun C11 => ?_)
 ·
  replace H := ifT C11 H
  refine AWP_seqk [6] fun K7 hK7 => ?_
  obtain ⟨l2, hl2, H⟩ := bindE H
  have q1 : ∀ σ i, buildSliceA T 29 false i 0 [] σ = some (.sl i 0 (List.length l2), σ.put i ⟨47, 5, encL rInstr l2⟩) := by rw [← Option.some.inj hl2]; intro _ _; rfl
  refine AWP_regl tok [] ?_
  simp -dsimp -implicitDefEqProofs (maxDischargeDepth := 6) [q1]
  refine keepE2 (l := [6]) (x := [(6, .sl (N0 + 16) 0 l2.length)]) (s := hp B [(N0 + 12, some ⟨47, 5, encL rInstr l1⟩), (N0 + 16, some ⟨47, 5, encL rInstr l2⟩)] (N0 + 18)) rfl rfl fun a' ha => ?_
  refine hK7 _ _ ?_; rw [ha]
  refine AWP_ret ?_
  have e0 : N0 ≤ N0 + 12 := by omega
  have e1 : N0 ≤ N0 + 16 := by omega
  refine ⟨[.sl (N0 + 16) 0 l2.length], by simp [e0, e1], ?_⟩
  simp -dsimp -implicitDefEqProofs (maxDischargeDepth := 6)
  refine ACalls_fn tok Tryd.func107 (by kernel_rfl) rfl Tryd.ntmps107 Tryd.results107 rfl ?_
  simp only [argsA, Nat.reduceAdd]
  refine AWP_seqk [0, 1, 2] fun K9 hK9 => ?_
  refine AWP_regl tok [] ?_
  simp -dsimp -implicitDefEqProofs (maxDischargeDepth := 6)
  refine keepE2 (l := [0, 1, 2]) (x := [(0, .int .i64 p0.B), (1, .int .i64 p1), (2, .int .i64 6)]) (s := hp B [(N0 + 12, some ⟨47, 5, encL rInstr l1⟩), (N0 + 16, some ⟨47, 5, encL rInstr l2⟩)] (N0 + 19)) rfl rfl fun a' ha => ?_
  refine hK9 _ _ ?_; rw [ha]
  refine AWP_seqk [0, 1, 2] fun K10 hK10 => ?_
  refine AWP_seqk [0, 1, 2, 9] fun K11 hK11 => ?_
  refine AWP_regl tok [] ?_
  simp -dsimp -implicitDefEqProofs (maxDischargeDepth := 6)
  refine keepE2 (l := [0, 1, 2, 9]) (x := [(0, .int .i64 p0.B), (1, .int .i64 p1), (2, .int .i64 6), (9, .bool (ilt p0.B p1))]) (s := hp B [(N0 + 12, some ⟨47, 5, encL rInstr l1⟩), (N0 + 16, some ⟨47, 5, encL rInstr l2⟩)] (N0 + 22)) rfl rfl fun a' ha => ?_
  refine hK11 _ _ ?_; rw [ha]
  refine AWP_cond (ilt p0.B p1) rfl (fun C5 => ?_) (fun C5 => ?_)
  ·
   replace H := ifT C5 H
   refine AWP_seqk [6] fun K12 hK12 => ?_
   have q2 : ∀ σ i, buildSliceA T 29 true i 0 [] σ = some (.esl, σ) := fun _ _ => rfl
   refine AWP_regl tok [0] ?_
   simp -dsimp -implicitDefEqProofs (maxDischargeDepth := 6) [q2]
   refine keepE2 (l := [6]) (x := [(6, .esl)]) (s := hp B [(N0 + 12, some ⟨47, 5, encL rInstr l1⟩), (N0 + 16, some ⟨47, 5, encL rInstr l2⟩)] (N0 + 24)) rfl rfl fun a' ha => ?_
   refine hK12 _ _ ?_; rw [ha]
   refine AWP_ret ?_
   have e0 : N0 ≤ N0 + 12 := by omega
   have e1 : N0 ≤ N0 + 16 := by omega
   refine ⟨[.esl], by simp [e0, e1], ?_⟩
   obtain ⟨l3, hl3, H⟩ := bindE H
   simp -dsimp -implicitDefEqProofs (maxDischargeDepth := 6) [app29 hl3]
   refine keepE2 (l := [1, 2, 5]) (x := [(1, .int .i64 p1), (2, .fptr [.int .i64 p0.Op, .int .i64 p0.Dst, .int .i64 p0.A, .int .i64 p0.B, .int .i64 p0.N] 0), (5, .sl (N0 + 10) 0 l3.length)]) (s := hp B [(N0 + 12, some ⟨47, 5, encL rInstr l1⟩), (N0 + 16, none), (N0 + 10, some ⟨47, 5, encL rInstr l3⟩)] (N0 + 24)) rfl rfl fun a' ha => ?_
   refine hK2 _ _ ?_; rw [ha]
   refine AWP_seqk [1, 2, 5, 6] fun K13 hK13 => ?_
   obtain ⟨r4, hr4, H⟩ := bindE H
   refine AWP_regl tok [] ?_
   simp -dsimp -implicitDefEqProofs (maxDischargeDepth := 6)
   refine (c105 hr4).app ?_; try simp -dsimp -implicitDefEqProofs (maxDischargeDepth := 6)
   refine keepE2 (l := [1, 2, 5, 6]) (x := [(1, .int .i64 p1), (2, .fptr [.int .i64 p0.Op, .int .i64 p0.Dst, .int .i64 p0.A, .int .i64 p0.B, .int .i64 p0.N] 0), (5, .sl (N0 + 10) 0 l3.length), (6, .int .i64 r4)]) (s := hp B [(N0 + 12, some ⟨47, 5, encL rInstr l1⟩), (N0 + 16, none), (N0 + 10, some ⟨47, 5, encL rInstr l3⟩)] (N0 + 29)) rfl rfl fun a' ha => ?_
   refine hK13 _ _ ?_; rw [ha]
   refine AWP_seqk [1, 2, 5, 6] fun K14 hK14 => ?_
   obtain ⟨r5, hr5, H⟩ := bindE H
   obtain ⟨r6, hr6, H⟩ := bindE H
   obtain ⟨r7, hr7, H⟩ := bindE H
   obtain ⟨l8, hl8, H⟩ := bindE H
   have q3 : ∀ σ i, buildSliceA T 29 true i 1 [(0, .agg [.int .i64 r5, .int .i64 r4, .int .i64 r6, .int .i64 r7, .int .i64 0])] σ = some (.fsl (encL rInstr ([(⟨r5, r4, r6, r7, 0⟩ : gInstr)] : List gInstr)), σ) := fun _ _ => rfl
   refine AWP_drawl tok tokM [14] [15, 16] [0, 1, 2, 3, 4, 5, 6, 7, 8, 9, 10, 11, 12, 13, 14, 15, 16] (by decide) ?_
   simp only [pickL, nthO_succ, nthO_zero]
   simp -dsimp -implicitDefEqProofs (maxDischargeDepth := 6) [q3, app29 hl8]
   refine Pc.mk (c143 hr5) ?_; try simp -dsimp -implicitDefEqProofs (maxDischargeDepth := 6) [q3, app29 hl8]
   refine Pc.mk (c105 hr6) ?_; try simp -dsimp -implicitDefEqProofs (maxDischargeDepth := 6) [q3, app29 hl8]
   refine Pc.mk (c105 hr7) ?_; try simp -dsimp -implicitDefEqProofs (maxDischargeDepth := 6) [q3, app29 hl8]
   refine keepE2 (l := [1, 2, 5, 6]) (x := [(1, .int .i64 p1), (2, .fptr [.int .i64 p0.Op, .int .i64 p0.Dst, .int .i64 p0.A, .int .i64 p0.B, .int .i64 p0.N] 0), (5, .sl (N0 + 44) 0 l8.length), (6, .int .i64 r4)]) (s := hp B [(N0 + 12, some ⟨47, 5, encL rInstr l1⟩), (N0 + 16, none), (N0 + 10, none), (N0 + 44, some ⟨47, 5, encL rInstr l8⟩)] (N0 + 46)) rfl rfl fun a' ha => ?_
   refine hK14 _ _ ?_; rw [ha]
   refine AWP_seqk [1, 2, 5] fun K15 hK15 => ?_
   obtain ⟨j1, hj1, H⟩ := bindE H
   have J1 : ∀ a' σ' M1 o1, N0 + 46 ≤ M1 → N0 ≤ o1 → o1 < M1 → AAct.keep a' [1, 2, 5] = [(1, .int .i64 p1), (2, .fptr [.int .i64 p0.Op, .int .i64 p0.Dst, .int .i64 p0.A, .int .i64 p0.B, .int .i64 p0.N] 0), (5, .sl o1 0 j1.length)] → AHeap.Sub (hp B [(o1, some ⟨47, 5, encL rInstr j1⟩)] M1) σ' → K15 a' σ' := by
    intro a' σ' M1 o1 hM1_0 hM1_1 hM1_2 ha hsub
    refine hK15 _ _ ?_; rw [ha]; refine AWP_sub hsub ?_
    refine AWP_seqk [4] fun K16 hK16 => ?_
    refine AWP_regl tok [] ?_
    simp -dsimp -implicitDefEqProofs (maxDischargeDepth := 6)
    refine ACalls_fn tok Tryd.func106 (by kernel_rfl) rfl Tryd.ntmps106 Tryd.results106 rfl ?_
    simp only [argsA, Nat.reduceAdd]
    refine AWP_seqk [0, 1, 2] fun K18 hK18 => ?_
    refine AWP_regl tok [] ?_
    simp -dsimp -implicitDefEqProofs (maxDischargeDepth := 6)
    refine keepE2 (l := [0, 1, 2]) (x := [(0, .sl o1 0 j1.length), (1, .int .i64 p0.Dst), (2, .int .i64 p1)]) (s := hp B [(o1, some ⟨47, 5, encL rInstr j1⟩)] (M1 + 7)) rfl rfl fun a' ha => ?_
    refine hK18 _ _ ?_; rw [ha]
    refine AWP_seqk [0, 1, 2] fun K19 hK19 => ?_
    refine AWP_seqk [0, 1, 2, 9] fun K20 hK20 => ?_
    refine AWP_regl tok [] ?_
    simp -dsimp -implicitDefEqProofs (maxDischargeDepth := 6)
    refine keepE2 (l := [0, 1, 2, 9]) (x := [(0, .sl o1 0 j1.length), (1, .int .i64 p0.Dst), (2, .int .i64 p1), (9, .bool (ilt p0.Dst p1))]) (s := hp B [(o1, some ⟨47, 5, encL rInstr j1⟩)] (M1 + 10)) rfl rfl fun a' ha => ?_
    refine hK20 _ _ ?_; rw [ha]
    refine AWP_cond (ilt p0.Dst p1) rfl (fun C1 => ?_) (fun C1 => ?_)
    ·
     replace H := ifT C1 H
     refine AWP_seqk [6] fun K21 hK21 => ?_
     refine AWP_regl tok [] ?_
     simp -dsimp -implicitDefEqProofs (maxDischargeDepth := 6)
     refine keepE2 (l := [6]) (x := [(6, .sl o1 0 j1.length)]) (s := hp B [(o1, some ⟨47, 5, encL rInstr j1⟩)] (M1 + 12)) rfl rfl fun a' ha => ?_
     refine hK21 _ _ ?_; rw [ha]
     refine AWP_ret ?_
     have e0 : N0 ≤ o1 := by omega
     refine ⟨[.sl o1 0 j1.length], by simp [e0], ?_⟩
     simp -dsimp -implicitDefEqProofs (maxDischargeDepth := 6)
     refine keepE2 (l := [4]) (x := [(4, .sl o1 0 j1.length)]) (s := hp B [(o1, some ⟨47, 5, encL rInstr j1⟩)] (M1 + 12)) rfl rfl fun a' ha => ?_
     refine hK16 _ _ ?_; rw [ha]
     refine AWP_ret ?_
     replace H := Option.some.inj H; subst H
     have e0 : N0 ≤ o1 := by omega
     refine ⟨[.sl o1 0 j1.length], by simp [e0], ?_, ?_⟩
     ·
      simp [encL_nil, e0]
     ·
      intro o ho; exact lk_out (by simp; try omega)
    ·
     replace H := ifF C1 H
     refine AWP_skip ?_
     show K19 _ _
     refine keepE (l := [0, 1, 2]) (x := [(0, .sl o1 0 j1.length), (1, .int .i64 p0.Dst), (2, .int .i64 p1)]) rfl fun a' ha => ?_
     refine hK19 _ _ ?_; rw [ha]
     refine AWP_seqk [6] fun K22 hK22 => ?_
     obtain ⟨l10, hl10, H⟩ := bindE H
     have q4 : ∀ σ i, buildSliceA T 29 true i 1 [(0, .agg [.int .i64 16, .int .i64 0, .int .i64 2, .int .i64 7, .int .i64 (imul .i64 4 (isub .i64 p0.Dst p1))])] σ = some (.fsl (encL rInstr ([(⟨16, 0, 2, 7, imul .i64 4 (isub .i64 p0.Dst p1)⟩ : gInstr)] : List gInstr)), σ) := fun _ _ => rfl
     refine AWP_regl tok [6] ?_
     have e0 : ¬ o1 = M1 + 17 := by omega
     have e1 : ¬ M1 + 17 = o1 := by omega
     simp -dsimp -implicitDefEqProofs (maxDischargeDepth := 6) [e0, e1, q4, app29 hl10]
     refine keepE2 (l := [6]) (x := [(6, .sl (M1 + 17) 0 l10.length)]) (s := hp B [(o1, none), (M1 + 17, some ⟨47, 5, encL rInstr l10⟩)] (M1 + 19)) rfl rfl fun a' ha => ?_
     clear e0 e1
     refine hK22 _ _ ?_; rw [ha]
     refine AWP_ret ?_
     have e0 : N0 ≤ o1 := by omega
     have e1 : ¬ o1 = M1 + 17 := by omega
     have e2 : N0 ≤ M1 + 17 := by omega
     have e3 : ¬ M1 + 17 = o1 := by omega
     refine ⟨[.sl (M1 + 17) 0 l10.length], by simp [e0, e1, e2, e3], ?_⟩
     have e0 : ¬ o1 = M1 + 17 := by omega
     have e1 : ¬ M1 + 17 = o1 := by omega
     simp -dsimp -implicitDefEqProofs (maxDischargeDepth := 6) [e0, e1]
     refine keepE2 (l := [4]) (x := [(4, .sl (M1 + 17) 0 l10.length)]) (s := hp B [(o1, none), (M1 + 17, some ⟨47, 5, encL rInstr l10⟩)] (M1 + 19)) rfl rfl fun a' ha => ?_
     clear e0 e1
     refine hK16 _ _ ?_; rw [ha]
     refine AWP_ret ?_
     replace H := Option.some.inj H; subst H
     have e0 : N0 ≤ o1 := by omega
     have e1 : ¬ o1 = M1 + 17 := by omega
     have e2 : N0 ≤ M1 + 17 := by omega
     have e3 : ¬ M1 + 17 = o1 := by omega
     refine ⟨[.sl (M1 + 17) 0 l10.length], by simp [e0, e1, e2, e3], ?_, ?_⟩
     ·
      simp [encL_nil, e0, e1, e2, e3]
     ·
      intro o ho; exact lk_out (by simp; try omega)
   replace H := hj1
   refine AWP_seqk [1, 2, 5, 6, 38] fun K23 hK23 => ?_
   refine AWP_regl tok [] ?_
   simp -dsimp -implicitDefEqProofs (maxDischargeDepth := 6)
   refine keepE2 (l := [1, 2, 5, 6, 38]) (x := [(1, .int .i64 p1), (2, .fptr [.int .i64 p0.Op, .int .i64 p0.Dst, .int .i64 p0.A, .int .i64 p0.B, .int .i64 p0.N] 0), (5, .sl (N0 + 44) 0 l8.length), (6, .int .i64 r4), (38, .bool (ieq p0.N 4))]) (s := hp B [(N0 + 12, some ⟨47, 5, encL rInstr l1⟩), (N0 + 16, none), (N0 + 10, none), (N0 + 44, some ⟨47, 5, encL rInstr l8⟩)] (N0 + 49)) rfl rfl fun a' ha => ?_
   refine hK23 _ _ ?_; rw [ha]
   refine AWP_cond (ieq p0.N 4) rfl (fun C2 => ?_) (fun C2 => ?_)
   ·
    replace H := ifT C2 H
    obtain ⟨l11, hl11, H⟩ := bindE H
    have q5 : ∀ σ i, buildSliceA T 29 true i 1 [(0, .agg [.int .i64 13, .int .i64 r4, .int .i64 r4, .int .i64 0, .int .i64 1])] σ = some (.fsl (encL rInstr ([(⟨13, r4, r4, 0, 1⟩ : gInstr)] : List gInstr)), σ) := fun _ _ => rfl
    refine AWP_regl tok [4] ?_
    simp -dsimp -implicitDefEqProofs (maxDischargeDepth := 6) [q5, app29 hl11]
    refine keepE2 (l := [1, 2, 5]) (x := [(1, .int .i64 p1), (2, .fptr [.int .i64 p0.Op, .int .i64 p0.Dst, .int .i64 p0.A, .int .i64 p0.B, .int .i64 p0.N] 0), (5, .sl (N0 + 54) 0 l11.length)]) (s := hp B [(N0 + 12, some ⟨47, 5, encL rInstr l1⟩), (N0 + 16, none), (N0 + 10, none), (N0 + 44, none), (N0 + 54, some ⟨47, 5, encL rInstr l11⟩)] (N0 + 56)) rfl rfl fun a' ha => ?_
    replace H := Option.some.inj H
    subst H
    exact J1 _ _ (N0 + 56) (N0 + 54) (by omega) (by omega) (by omega) ha (AHeap.Sub.trans (AHeap.Sub.trans (AHeap.Sub.trans (AHeap.Sub.trans (hp_skip (AHeap.Sub.refl _)) (hp_drop (by first | exact hfr _ (by omega) | omega) (by simp; try omega))) (hp_drop (by first | exact hfr _ (by omega) | omega) (by simp; try omega))) (hp_drop (by first | exact hfr _ (by omega) | omega) (by simp; try omega))) (hp_drop (by first | exact hfr _ (by omega) | omega) (by simp; try omega)))
   ·
    replace H := ifF C2 H
    refine AWP_skip ?_
    show K15 _ _
    refine keepE (l := [1, 2, 5]) (x := [(1, .int .i64 p1), (2, .fptr [.int .i64 p0.Op, .int .i64 p0.Dst, .int .i64 p0.A, .int .i64 p0.B, .int .i64 p0.N] 0), (5, .sl (N0 + 44) 0 l8.length)]) rfl fun a' ha => ?_
    replace H := Option.some.inj H
    subst H
    exact J1 _ _ (N0 + 49) (N0 + 44) (by omega) (by omega) (by omega) ha (AHeap.Sub.trans (AHeap.Sub.trans (AHeap.Sub.trans (hp_skip (AHeap.Sub.refl _)) (hp_drop (by first | exact hfr _ (by omega) | omega) (by simp; try omega))) (hp_drop (by first | exact hfr _ (by omega) | omega) (by simp; try omega))) (hp_drop (by first | exact hfr _ (by omega) | omega) (by simp; try omega)))
  ·
   replace H := ifF C5 H
   refine AWP_skip ?_
   show K10 _ _
   refine keepE (l := [0, 1, 2]) (x := [(0, .int .i64 p0.B), (1, .int .i64 p1), (2, .int .i64 6)]) rfl fun a' ha => ?_
   refine hK10 _ _ ?_; rw [ha]
   refine AWP_seqk [6] fun K24 hK24 => ?_
   have q6 : ∀ σ i, buildSliceA T 29 true i 1 [(0, .agg [.int .i64 14, .int .i64 6, .int .i64 2, .int .i64 0, .int .i64 (imul .i64 4 (isub .i64 p0.B p1))])] σ = some (.fsl (encL rInstr ([(⟨14, 6, 2, 0, imul .i64 4 (isub .i64 p0.B p1)⟩ : gInstr)] : List gInstr)), σ) := fun _ _ => rfl
   refine AWP_regl tok [6] ?_
   simp -dsimp -implicitDefEqProofs (maxDischargeDepth := 6) [q6]
   refine keepE2 (l := [6]) (x := [(6, .fsl (encL rInstr ([(⟨14, 6, 2, 0, imul .i64 4 (isub .i64 p0.B p1)⟩ : gInstr)] : List gInstr)))]) (s := hp B [(N0 + 12, some ⟨47, 5, encL rInstr l1⟩), (N0 + 16, some ⟨47, 5, encL rInstr l2⟩)] (N0 + 30)) rfl rfl fun a' ha => ?_
   refine hK24 _ _ ?_; rw [ha]
   refine AWP_ret ?_
   have e0 : N0 ≤ N0 + 12 := by omega
   have e1 : N0 ≤ N0 + 16 := by omega
   refine ⟨[.fsl (encL rInstr ([(⟨14, 6, 2, 0, imul .i64 4 (isub .i64 p0.B p1)⟩ : gInstr)] : List gInstr))], by simp [e0, e1], ?_⟩
   obtain ⟨l12, hl12, H⟩ := bindE H
   simp -dsimp -implicitDefEqProofs (maxDischargeDepth := 6) [app29 hl12]
   refine keepE2 (l := [1, 2, 5]) (x := [(1, .int .i64 p1), (2, .fptr [.int .i64 p0.Op, .int .i64 p0.Dst, .int .i64 p0.A, .int .i64 p0.B, .int .i64 p0.N] 0), (5, .sl (N0 + 10) 0 l12.length)]) (s := hp B [(N0 + 12, some ⟨47, 5, encL rInstr l1⟩), (N0 + 16, none), (N0 + 10, some ⟨47, 5, encL rInstr l12⟩)] (N0 + 30)) rfl rfl fun a' ha => ?_
   refine hK2 _ _ ?_; rw [ha]
   refine AWP_seqk [1, 2, 5, 6] fun K25 hK25 => ?_
   obtain ⟨r13, hr13, H⟩ := bindE H
   refine AWP_regl tok [] ?_
   simp -dsimp -implicitDefEqProofs (maxDischargeDepth := 6)
   refine (c105 hr13).app ?_; try simp -dsimp -implicitDefEqProofs (maxDischargeDepth := 6)
   refine keepE2 (l := [1, 2, 5, 6]) (x := [(1, .int .i64 p1), (2, .fptr [.int .i64 p0.Op, .int .i64 p0.Dst, .int .i64 p0.A, .int .i64 p0.B, .int .i64 p0.N] 0), (5, .sl (N0 + 10) 0 l12.length), (6, .int .i64 r13)]) (s := hp B [(N0 + 12, some ⟨47, 5, encL rInstr l1⟩), (N0 + 16, none), (N0 + 10, some ⟨47, 5, encL rInstr l12⟩)] (N0 + 35)) rfl rfl fun a' ha => ?_
   refine hK25 _ _ ?_; rw [ha]
   refine AWP_seqk [1, 2, 5, 6] fun K26 hK26 => ?_
   obtain ⟨r14, hr14, H⟩ := bindE H
   obtain ⟨r15, hr15, H⟩ := bindE H
   obtain ⟨r16, hr16, H⟩ := bindE H
   obtain ⟨l17, hl17, H⟩ := bindE H
   have q7 : ∀ σ i, buildSliceA T 29 true i 1 [(0, .agg [.int .i64 r14, .int .i64 r13, .int .i64 r15, .int .i64 r16, .int .i64 0])] σ = some (.fsl (encL rInstr ([(⟨r14, r13, r15, r16, 0⟩ : gInstr)] : List gInstr)), σ) := fun _ _ => rfl
   refine AWP_drawl tok tokM [14] [15, 16] [0, 1, 2, 3, 4, 5, 6, 7, 8, 9, 10, 11, 12, 13, 14, 15, 16] (by decide) ?_
   simp only [pickL, nthO_succ, nthO_zero]
   simp -dsimp -implicitDefEqProofs (maxDischargeDepth := 6) [q7, app29 hl17]
   refine Pc.mk (c143 hr14) ?_; try simp -dsimp -implicitDefEqProofs (maxDischargeDepth := 6) [q7, app29 hl17]
   refine Pc.mk (c105 hr15) ?_; try simp -dsimp -implicitDefEqProofs (maxDischargeDepth := 6) [q7, app29 hl17]
   refine Pc.mk (c105 hr16) ?_; try simp -dsimp -implicitDefEqProofs (maxDischargeDepth := 6) [q7, app29 hl17]
   refine keepE2 (l := [1, 2, 5, 6]) (x := [(1, .int .i64 p1), (2, .fptr [.int .i64 p0.Op, .int .i64 p0.Dst, .int .i64 p0.A, .int .i64 p0.B, .int .i64 p0.N] 0), (5, .sl (N0 + 50) 0 l17.length), (6, .int .i64 r13)]) (s := hp B [(N0 + 12, some ⟨47, 5, encL rInstr l1⟩), (N0 + 16, none), (N0 + 10, none), (N0 + 50, some ⟨47, 5, encL rInstr l17⟩)] (N0 + 52)) rfl rfl fun a' ha => ?_
   refine hK26 _ _ ?_; rw [ha]
   refine AWP_seqk [1, 2, 5] fun K27 hK27 => ?_
   obtain ⟨j2, hj2, H⟩ := bindE H
   have J2 : ∀ a' σ' M2 o2, N0 + 52 ≤ M2 → N0 ≤ o2 → o2 < M2 → AAct.keep a' [1, 2, 5] = [(1, .int .i64 p1), (2, .fptr [.int .i64 p0.Op, .int .i64 p0.Dst, .int .i64 p0.A, .int .i64 p0.B, .int .i64 p0.N] 0), (5, .sl o2 0 j2.length)] → AHeap.Sub (hp B [(o2, some ⟨47, 5, encL rInstr j2⟩)] M2) σ' → K27 a' σ' := by
    intro a' σ' M2 o2 hM2_0 hM2_1 hM2_2 ha hsub
    refine hK27 _ _ ?_; rw [ha]; refine AWP_sub hsub ?_
    refine AWP_seqk [4] fun K28 hK28 => ?_
    refine AWP_regl tok [] ?_
    simp -dsimp -implicitDefEqProofs (maxDischargeDepth := 6)
    refine ACalls_fn tok Tryd.func106 (by kernel_rfl) rfl Tryd.ntmps106 Tryd.results106 rfl ?_
    simp only [argsA, Nat.reduceAdd]
    refine AWP_seqk [0, 1, 2] fun K30 hK30 => ?_
    refine AWP_regl tok [] ?_
    simp -dsimp -implicitDefEqProofs (maxDischargeDepth := 6)
    refine keepE2 (l := [0, 1, 2]) (x := [(0, .sl o2 0 j2.length), (1, .int .i64 p0.Dst), (2, .int .i64 p1)]) (s := hp B [(o2, some ⟨47, 5, encL rInstr j2⟩)] (M2 + 7)) rfl rfl fun a' ha => ?_
    refine hK30 _ _ ?_; rw [ha]
    refine AWP_seqk [0, 1, 2] fun K31 hK31 => ?_
    refine AWP_seqk [0, 1, 2, 9] fun K32 hK32 => ?_
    refine AWP_regl tok [] ?_
    simp -dsimp -implicitDefEqProofs (maxDischargeDepth := 6)
    refine keepE2 (l := [0, 1, 2, 9]) (x := [(0, .sl o2 0 j2.length), (1, .int .i64 p0.Dst), (2, .int .i64 p1), (9, .bool (ilt p0.Dst p1))]) (s := hp B [(o2, some ⟨47, 5, encL rInstr j2⟩)] (M2 + 10)) rfl rfl fun a' ha => ?_
    refine hK32 _ _ ?_; rw [ha]
    refine AWP_cond (ilt p0.Dst p1) rfl (fun C3 => ?_) (fun C3 => ?_)
    ·
     replace H := ifT C3 H
     refine AWP_seqk [6] fun K33 hK33 => ?_
     refine AWP_regl tok [] ?_
     simp -dsimp -implicitDefEqProofs (maxDischargeDepth := 6)
     refine keepE2 (l := [6]) (x := [(6, .sl o2 0 j2.length)]) (s := hp B [(o2, some ⟨47, 5, encL rInstr j2⟩)] (M2 + 12)) rfl rfl fun a' ha => ?_
     refine hK33 _ _ ?_; rw [ha]
     refine AWP_ret ?_
     have e0 : N0 ≤ o2 := by omega
     refine ⟨[.sl o2 0 j2.length], by simp [e0], ?_⟩
     simp -dsimp -implicitDefEqProofs (maxDischargeDepth := 6)
     refine keepE2 (l := [4]) (x := [(4, .sl o2 0 j2.length)]) (s := hp B [(o2, some ⟨47, 5, encL rInstr j2⟩)] (M2 + 12)) rfl rfl fun a' ha => ?_
     refine hK28 _ _ ?_; rw [ha]
     refine AWP_ret ?_
     replace H := Option.some.inj H; subst H
     have e0 : N0 ≤ o2 := by omega
     refine ⟨[.sl o2 0 j2.length], by simp [e0], ?_, ?_⟩
     ·
      simp [encL_nil, e0]
     ·
      intro o ho; exact lk_out (by simp; try omega)
    ·
     replace H := ifF C3 H
     refine AWP_skip ?_
     show K31 _ _
     refine keepE (l := [0, 1, 2]) (x := [(0, .sl o2 0 j2.length), (1, .int .i64 p0.Dst), (2, .int .i64 p1)]) rfl fun a' ha => ?_
     refine hK31 _ _ ?_; rw [ha]
     refine AWP_seqk [6] fun K34 hK34 => ?_
     obtain ⟨l19, hl19, H⟩ := bindE H
     have q8 : ∀ σ i, buildSliceA T 29 true i 1 [(0, .agg [.int .i64 16, .int .i64 0, .int .i64 2, .int .i64 7, .int .i64 (imul .i64 4 (isub .i64 p0.Dst p1))])] σ = some (.fsl (encL rInstr ([(⟨16, 0, 2, 7, imul .i64 4 (isub .i64 p0.Dst p1)⟩ : gInstr)] : List gInstr)), σ) := fun _ _ => rfl
     refine AWP_regl tok [6] ?_
     have e0 : ¬ o2 = M2 + 17 := by omega
     have e1 : ¬ M2 + 17 = o2 := by omega
     simp -dsimp -implicitDefEqProofs (maxDischargeDepth := 6) [e0, e1, q8, app29 hl19]
     refine keepE2 (l := [6]) (x := [(6, .sl (M2 + 17) 0 l19.length)]) (s := hp B [(o2, none), (M2 + 17, some ⟨47, 5, encL rInstr l19⟩)] (M2 + 19)) rfl rfl fun a' ha => ?_
     clear e0 e1
     refine hK34 _ _ ?_; rw [ha]
     refine AWP_ret ?_
     have e0 : N0 ≤ o2 := by omega
     have e1 : ¬ o2 = M2 + 17 := by omega
     have e2 : N0 ≤ M2 + 17 := by omega
     have e3 : ¬ M2 + 17 = o2 := by omega
     refine ⟨[.sl (M2 + 17) 0 l19.length], by simp [e0, e1, e2, e3], ?_⟩
     have e0 : ¬ o2 = M2 + 17 := by omega
     have e1 : ¬ M2 + 17 = o2 := by omega
     simp -dsimp -implicitDefEqProofs (maxDischargeDepth := 6) [e0, e1]
     refine keepE2 (l := [4]) (x := [(4, .sl (M2 + 17) 0 l19.length)]) (s := hp B [(o2, none), (M2 + 17, some ⟨47, 5, encL rInstr l19⟩)] (M2 + 19)) rfl rfl fun a' ha => ?_
     clear e0 e1
     refine hK28 _ _ ?_; rw [ha]
     refine AWP_ret ?_
     replace H := Option.some.inj H; subst H
     have e0 : N0 ≤ o2 := by omega
     have e1 : ¬ o2 = M2 + 17 := by omega
     have e2 : N0 ≤ M2 + 17 := by omega
     have e3 : ¬ M2 + 17 = o2 := by omega
     refine ⟨[.sl (M2 + 17) 0 l19.length], by simp [e0, e1, e2, e3], ?_, ?_⟩
     ·
      simp [encL_nil, e0, e1, e2, e3]
     ·
      intro o ho; exact lk_out (by simp; try omega)
   replace H := hj2
   refine AWP_seqk [1, 2, 5, 6, 38] fun K35 hK35 => ?_
   refine AWP_regl tok [] ?_
   simp -dsimp -implicitDefEqProofs (maxDischargeDepth := 6)
   refine keepE2 (l := [1, 2, 5, 6, 38]) (x := [(1, .int .i64 p1), (2, .fptr [.int .i64 p0.Op, .int .i64 p0.Dst, .int .i64 p0.A, .int .i64 p0.B, .int .i64 p0.N] 0), (5, .sl (N0 + 50) 0 l17.length), (6, .int .i64 r13), (38, .bool (ieq p0.N 4))]) (s := hp B [(N0 + 12, some ⟨47, 5, encL rInstr l1⟩), (N0 + 16, none), (N0 + 10, none), (N0 + 50, some ⟨47, 5, encL rInstr l17⟩)] (N0 + 55)) rfl rfl fun a' ha => ?_
   refine hK35 _ _ ?_; rw [ha]
   refine AWP_cond (ieq p0.N 4) rfl (fun C4 => ?_) (fun C4 => ?_)
   ·
    replace H := ifT C4 H
    obtain ⟨l20, hl20, H⟩ := bindE H
    have q9 : ∀ σ i, buildSliceA T 29 true i 1 [(0, .agg [.int .i64 13, .int .i64 r13, .int .i64 r13, .int .i64 0, .int .i64 1])] σ = some (.fsl (encL rInstr ([(⟨13, r13, r13, 0, 1⟩ : gInstr)] : List gInstr)), σ) := fun _ _ => rfl
    refine AWP_regl tok [4] ?_
    simp -dsimp -implicitDefEqProofs (maxDischargeDepth := 6) [q9, app29 hl20]
    refine keepE2 (l := [1, 2, 5]) (x := [(1, .int .i64 p1), (2, .fptr [.int .i64 p0.Op, .int .i64 p0.Dst, .int .i64 p0.A, .int .i64 p0.B, .int .i64 p0.N] 0), (5, .sl (N0 + 60) 0 l20.length)]) (s := hp B [(N0 + 12, some ⟨47, 5, encL rInstr l1⟩), (N0 + 16, none), (N0 + 10, none), (N0 + 50, none), (N0 + 60, some ⟨47, 5, encL rInstr l20⟩)] (N0 + 62)) rfl rfl fun a' ha => ?_
    replace H := Option.some.inj H
    subst H
    exact J2 _ _ (N0 + 62) (N0 + 60) (by omega) (by omega) (by omega) ha (AHeap.Sub.trans (AHeap.Sub.trans (AHeap.Sub.trans (AHeap.Sub.trans (hp_skip (AHeap.Sub.refl _)) (hp_drop (by first | exact hfr _ (by omega) | omega) (by simp; try omega))) (hp_drop (by first | exact hfr _ (by omega) | omega) (by simp; try omega))) (hp_drop (by first | exact hfr _ (by omega) | omega) (by simp; try omega))) (hp_drop (by first | exact hfr _ (by omega) | omega) (by simp; try omega)))
   ·
    replace H := ifF C4 H
    refine AWP_skip ?_
    show K27 _ _
    refine keepE (l := [1, 2, 5]) (x := [(1, .int .i64 p1), (2, .fptr [.int .i64 p0.Op, .int .i64 p0.Dst, .int .i64 p0.A, .int .i64 p0.B, .int .i64 p0.N] 0), (5, .sl (N0 + 50) 0 l17.length)]) rfl fun a' ha => ?_
    replace H := Option.some.inj H
    subst H
    exact J2 _ _ (N0 + 55) (N0 + 50) (by omega) (by omega) (by omega) ha (AHeap.Sub.trans (AHeap.Sub.trans (AHeap.Sub.trans (hp_skip (AHeap.Sub.refl _)) (hp_drop (by first | exact hfr _ (by omega) | omega) (by simp; try omega))) (hp_drop (by first | exact hfr _ (by omega) | omega) (by simp; try omega))) (hp_drop (by first | exact hfr _ (by omega) | omega) (by simp; try omega)))
 ·
  replace H := ifF C11 H
  refine AWP_skip ?_
  show K5 _ _
  refine keepE (l := [0, 1, 2]) (x := [(0, .int .i64 p0.A), (1, .int .i64 p1), (2, .int .i64 5)]) rfl fun a' ha => ?_
  refine hK5 _ _ ?_; rw [ha]
  refine AWP_seqk [6] fun K36 hK36 => ?_
  obtain ⟨l21, hl21, H⟩ := bindE H
  have q10 : ∀ σ i, buildSliceA T 29 false i 1 [(0, .agg [.int .i64 14, .int .i64 5, .int .i64 2, .int .i64 0, .int .i64 (imul .i64 4 (isub .i64 p0.A p1))])] σ = some (.sl i 0 (List.length l21), σ.put i ⟨47, 5, encL rInstr l21⟩) := by rw [← Option.some.inj hl21]; intro _ _; rfl
  refine AWP_regl tok [] ?_
  simp -dsimp -implicitDefEqProofs (maxDischargeDepth := 6) [q10]
  refine keepE2 (l := [6]) (x := [(6, .sl (N0 + 22) 0 l21.length)]) (s := hp B [(N0 + 12, some ⟨47, 5, encL rInstr l1⟩), (N0 + 22, some ⟨47, 5, encL rInstr l21⟩)] (N0 + 24)) rfl rfl fun a' ha => ?_
  refine hK36 _ _ ?_; rw [ha]
  refine AWP_ret ?_
  have e0 : N0 ≤ N0 + 12 := by omega
  have e1 : N0 ≤ N0 + 22 := by omega
  refine ⟨[.sl (N0 + 22) 0 l21.length], by simp [e0, e1], ?_⟩
  simp -dsimp -implicitDefEqProofs (maxDischargeDepth := 6)
  refine ACalls_fn tok Tryd.func107 (by kernel_rfl) rfl Tryd.ntmps107 Tryd.results107 rfl ?_
  simp only [argsA, Nat.reduceAdd]
  refine AWP_seqk [0, 1, 2] fun K38 hK38 => ?_
  refine AWP_regl tok [] ?_
  simp -dsimp -implicitDefEqProofs (maxDischargeDepth := 6)
  refine keepE2 (l := [0, 1, 2]) (x := [(0, .int .i64 p0.B), (1, .int .i64 p1), (2, .int .i64 6)]) (s := hp B [(N0 + 12, some ⟨47, 5, encL rInstr l1⟩), (N0 + 22, some ⟨47, 5, encL rInstr l21⟩)] (N0 + 25)) rfl rfl fun a' ha => ?_
  refine hK38 _ _ ?_; rw [ha]
  refine AWP_seqk [0, 1, 2] fun K39 hK39 => ?_
  refine AWP_seqk [0, 1, 2, 9] fun K40 hK40 => ?_
  refine AWP_regl tok [] ?_
  simp -dsimp -implicitDefEqProofs (maxDischargeDepth := 6)
  refine keepE2 (l := [0, 1, 2, 9]) (x := [(0, .int .i64 p0.B), (1, .int .i64 p1), (2, .int .i64 6), (9, .bool (ilt p0.B p1))]) (s := hp B [(N0 + 12, some ⟨47, 5, encL rInstr l1⟩), (N0 + 22, some ⟨47, 5, encL rInstr l21⟩)] (N0 + 28)) rfl rfl fun a' ha => ?_
  refine hK40 _ _ ?_; rw [ha]
  refine AWP_cond (ilt p0.B p1) rfl (fun C10 => ?_) (fun C10 => ?_)
  ·
   replace H := ifT C10 H
   refine AWP_seqk [6] fun K41 hK41 => ?_
   have q11 : ∀ σ i, buildSliceA T 29 true i 0 [] σ = some (.esl, σ) := fun _ _ => rfl
   refine AWP_regl tok [0] ?_
   simp -dsimp -implicitDefEqProofs (maxDischargeDepth := 6) [q11]
   refine keepE2 (l := [6]) (x := [(6, .esl)]) (s := hp B [(N0 + 12, some ⟨47, 5, encL rInstr l1⟩), (N0 + 22, some ⟨47, 5, encL rInstr l21⟩)] (N0 + 30)) rfl rfl fun a' ha => ?_
   refine hK41 _ _ ?_; rw [ha]
   refine AWP_ret ?_
   have e0 : N0 ≤ N0 + 12 := by omega
   have e1 : N0 ≤ N0 + 22 := by omega
   refine ⟨[.esl], by simp [e0, e1], ?_⟩
   obtain ⟨l22, hl22, H⟩ := bindE H
   simp -dsimp -implicitDefEqProofs (maxDischargeDepth := 6) [app29 hl22]
   refine keepE2 (l := [1, 2, 5]) (x := [(1, .int .i64 p1), (2, .fptr [.int .i64 p0.Op, .int .i64 p0.Dst, .int .i64 p0.A, .int .i64 p0.B, .int .i64 p0.N] 0), (5, .sl (N0 + 10) 0 l22.length)]) (s := hp B [(N0 + 12, some ⟨47, 5, encL rInstr l1⟩), (N0 + 22, none), (N0 + 10, some ⟨47, 5, encL rInstr l22⟩)] (N0 + 30)) rfl rfl fun a' ha => ?_
   refine hK2 _ _ ?_; rw [ha]
   refine AWP_seqk [1, 2, 5, 6] fun K42 hK42 => ?_
   obtain ⟨r23, hr23, H⟩ := bindE H
   refine AWP_regl tok [] ?_
   simp -dsimp -implicitDefEqProofs (maxDischargeDepth := 6)
   refine (c105 hr23).app ?_; try simp -dsimp -implicitDefEqProofs (maxDischargeDepth := 6)
   refine keepE2 (l := [1, 2, 5, 6]) (x := [(1, .int .i64 p1), (2, .fptr [.int .i64 p0.Op, .int .i64 p0.Dst, .int .i64 p0.A, .int .i64 p0.B, .int .i64 p0.N] 0), (5, .sl (N0 + 10) 0 l22.length), (6, .int .i64 r23)]) (s := hp B [(N0 + 12, some ⟨47, 5, encL rInstr l1⟩), (N0 + 22, none), (N0 + 10, some ⟨47, 5, encL rInstr l22⟩)] (N0 + 35)) rfl rfl fun a' ha => ?_
   refine hK42 _ _ ?_; rw [ha]
   refine AWP_seqk [1, 2, 5, 6] fun K43 hK43 => ?_
   obtain ⟨r24, hr24, H⟩ := bindE H
   obtain ⟨r25, hr25, H⟩ := bindE H
   obtain ⟨r26, hr26, H⟩ := bindE H
   obtain ⟨l27, hl27, H⟩ := bindE H
   have q12 : ∀ σ i, buildSliceA T 29 true i 1 [(0, .agg [.int .i64 r24, .int .i64 r23, .int .i64 r25, .int .i64 r26, .int .i64 0])] σ = some (.fsl (encL rInstr ([(⟨r24, r23, r25, r26, 0⟩ : gInstr)] : List gInstr)), σ) := fun _ _ => rfl
   refine AWP_drawl tok tokM [14] [15, 16] [0, 1, 2, 3, 4, 5, 6, 7, 8, 9, 10, 11, 12, 13, 14, 15, 16] (by decide) ?_
   simp only [pickL, nthO_succ, nthO_zero]
   simp -dsimp -implicitDefEqProofs (maxDischargeDepth := 6) [q12, app29 hl27]
   refine Pc.mk (c143 hr24) ?_; try simp -dsimp -implicitDefEqProofs (maxDischargeDepth := 6) [q12, app29 hl27]
   refine Pc.mk (c105 hr25) ?_; try simp -dsimp -implicitDefEqProofs (maxDischargeDepth := 6) [q12, app29 hl27]
   refine Pc.mk (c105 hr26) ?_; try simp -dsimp -implicitDefEqProofs (maxDischargeDepth := 6) [q12, app29 hl27]
   refine keepE2 (l := [1, 2, 5, 6]) (x := [(1, .int .i64 p1), (2, .fptr [.int .i64 p0.Op, .int .i64 p0.Dst, .int .i64 p0.A, .int .i64 p0.B, .int .i64 p0.N] 0), (5, .sl (N0 + 50) 0 l27.length), (6, .int .i64 r23)]) (s := hp B [(N0 + 12, some ⟨47, 5, encL rInstr l1⟩), (N0 + 22, none), (N0 + 10, none), (N0 + 50, some ⟨47, 5, encL rInstr l27⟩)] (N0 + 52)) rfl rfl fun a' ha => ?_
   refine hK43 _ _ ?_; rw [ha]
   refine AWP_seqk [1, 2, 5] fun K44 hK44 => ?_
   obtain ⟨j3, hj3, H⟩ := bindE H
   have J3 : ∀ a' σ' M3 o3, N0 + 52 ≤ M3 → N0 ≤ o3 → o3 < M3 → AAct.keep a' [1, 2, 5] = [(1, .int .i64 p1), (2, .fptr [.int .i64 p0.Op, .int .i64 p0.Dst, .int .i64 p0.A, .int .i64 p0.B, .int .i64 p0.N] 0), (5, .sl o3 0 j3.length)] → AHeap.Sub (hp B [(o3, some ⟨47, 5, encL rInstr j3⟩)] M3) σ' → K44 a' σ' := by
    intro a' σ' M3 o3 hM3_0 hM3_1 hM3_2 ha hsub
    refine hK44 _ _ ?_; rw [ha]; refine AWP_sub hsub ?_
    refine AWP_seqk [4] fun K45 hK45 => ?_
    refine AWP_regl tok [] ?_
    simp -dsimp -implicitDefEqProofs (maxDischargeDepth := 6)
    refine ACalls_fn tok Tryd.func106 (by kernel_rfl) rfl Tryd.ntmps106 Tryd.results106 rfl ?_
    simp only [argsA, Nat.reduceAdd]
    refine AWP_seqk [0, 1, 2] fun K47 hK47 => ?_
    refine AWP_regl tok [] ?_
    simp -dsimp -implicitDefEqProofs (maxDischargeDepth := 6)
    refine keepE2 (l := [0, 1, 2]) (x := [(0, .sl o3 0 j3.length), (1, .int .i64 p0.Dst), (2, .int .i64 p1)]) (s := hp B [(o3, some ⟨47, 5, encL rInstr j3⟩)] (M3 + 7)) rfl rfl fun a' ha => ?_
    refine hK47 _ _ ?_; rw [ha]
    refine AWP_seqk [0, 1, 2] fun K48 hK48 => ?_
    refine AWP_seqk [0, 1, 2, 9] fun K49 hK49 => ?_
    refine AWP_regl tok [] ?_
    simp -dsimp -implicitDefEqProofs (maxDischargeDepth := 6)
    refine keepE2 (l := [0, 1, 2, 9]) (x := [(0, .sl o3 0 j3.length), (1, .int .i64 p0.Dst), (2, .int .i64 p1), (9, .bool (ilt p0.Dst p1))]) (s := hp B [(o3, some ⟨47, 5, encL rInstr j3⟩)] (M3 + 10)) rfl rfl fun a' ha => ?_
    refine hK49 _ _ ?_; rw [ha]
    refine AWP_cond (ilt p0.Dst p1) rfl (fun C6 => ?_) (fun C6 => ?_)
    ·
     replace H := ifT C6 H
     refine AWP_seqk [6] fun K50 hK50 => ?_
     refine AWP_regl tok [] ?_
     simp -dsimp -implicitDefEqProofs (maxDischargeDepth := 6)
     refine keepE2 (l := [6]) (x := [(6, .sl o3 0 j3.length)]) (s := hp B [(o3, some ⟨47, 5, encL rInstr j3⟩)] (M3 + 12)) rfl rfl fun a' ha => ?_
     refine hK50 _ _ ?_; rw [ha]
     refine AWP_ret ?_
     have e0 : N0 ≤ o3 := by omega
     refine ⟨[.sl o3 0 j3.length], by simp [e0], ?_⟩
     simp -dsimp -implicitDefEqProofs (maxDischargeDepth := 6)
     refine keepE2 (l := [4]) (x := [(4, .sl o3 0 j3.length)]) (s := hp B [(o3, some ⟨47, 5, encL rInstr j3⟩)] (M3 + 12)) rfl rfl fun a' ha => ?_
     refine hK45 _ _ ?_; rw [ha]
     refine AWP_ret ?_
     replace H := Option.some.inj H; subst H
     have e0 : N0 ≤ o3 := by omega
     refine ⟨[.sl o3 0 j3.length], by simp [e0], ?_, ?_⟩
     ·
      simp [encL_nil, e0]
     ·
      intro o ho; exact lk_out (by simp; try omega)
    ·
     replace H := ifF C6 H
     refine AWP_skip ?_
     show K48 _ _
     refine keepE (l := [0, 1, 2]) (x := [(0, .sl o3 0 j3.length), (1, .int .i64 p0.Dst), (2, .int .i64 p1)]) rfl fun a' ha => ?_
     refine hK48 _ _ ?_; rw [ha]
     refine AWP_seqk [6] fun K51 hK51 => ?_
     obtain ⟨l29, hl29, H⟩ := bindE H
     have q13 : ∀ σ i, buildSliceA T 29 true i 1 [(0, .agg [.int .i64 16, .int .i64 0, .int .i64 2, .int .i64 7, .int .i64 (imul .i64 4 (isub .i64 p0.Dst p1))])] σ = some (.fsl (encL rInstr ([(⟨16, 0, 2, 7, imul .i64 4 (isub .i64 p0.Dst p1)⟩ : gInstr)] : List gInstr)), σ) := fun _ _ => rfl
     refine AWP_regl tok [6] ?_
     have e0 : ¬ o3 = M3 + 17 := by omega
     have e1 : ¬ M3 + 17 = o3 := by omega
     simp -dsimp -implicitDefEqProofs (maxDischargeDepth := 6) [e0, e1, q13, app29 hl29]
     refine keepE2 (l := [6]) (x := [(6, .sl (M3 + 17) 0 l29.length)]) (s := hp B [(o3, none), (M3 + 17, some ⟨47, 5, encL rInstr l29⟩)] (M3 + 19)) rfl rfl fun a' ha => ?_
     clear e0 e1
     refine hK51 _ _ ?_; rw [ha]
     refine AWP_ret ?_
     have e0 : N0 ≤ o3 := by omega
     have e1 : ¬ o3 = M3 + 17 := by omega
     have e2 : N0 ≤ M3 + 17 := by omega
     have e3 : ¬ M3 + 17 = o3 := by omega
     refine ⟨[.sl (M3 + 17) 0 l29.length], by simp [e0, e1, e2, e3], ?_⟩
     have e0 : ¬ o3 = M3 + 17 := by omega
     have e1 : ¬ M3 + 17 = o3 := by omega
     simp -dsimp -implicitDefEqProofs (maxDischargeDepth := 6) [e0, e1]
     refine keepE2 (l := [4]) (x := [(4, .sl (M3 + 17) 0 l29.length)]) (s := hp B [(o3, none), (M3 + 17, some ⟨47, 5, encL rInstr l29⟩)] (M3 + 19)) rfl rfl fun a' ha => ?_
     clear e0 e1
     refine hK45 _ _ ?_; rw [ha]
     refine AWP_ret ?_
     replace H := Option.some.inj H; subst H
     have e0 : N0 ≤ o3 := by omega
     have e1 : ¬ o3 = M3 + 17 := by omega
     have e2 : N0 ≤ M3 + 17 := by omega
     have e3 : ¬ M3 + 17 = o3 := by omega
     refine ⟨[.sl (M3 + 17) 0 l29.length], by simp [e0, e1, e2, e3], ?_, ?_⟩
     ·
      simp [encL_nil, e0, e1, e2, e3]
     ·
      intro o ho; exact lk_out (by simp; try omega)
   replace H := hj3
   refine AWP_seqk [1, 2, 5, 6, 38] fun K52 hK52 => ?_
   refine AWP_regl tok [] ?_
   simp -dsimp -implicitDefEqProofs (maxDischargeDepth := 6)
   refine keepE2 (l := [1, 2, 5, 6, 38]) (x := [(1, .int .i64 p1), (2, .fptr [.int .i64 p0.Op, .int .i64 p0.Dst, .int .i64 p0.A, .int .i64 p0.B, .int .i64 p0.N] 0), (5, .sl (N0 + 50) 0 l27.length), (6, .int .i64 r23), (38, .bool (ieq p0.N 4))]) (s := hp B [(N0 + 12, some ⟨47, 5, encL rInstr l1⟩), (N0 + 22, none), (N0 + 10, none), (N0 + 50, some ⟨47, 5, encL rInstr l27⟩)] (N0 + 55)) rfl rfl fun a' ha => ?_
   refine hK52 _ _ ?_; rw [ha]
   refine AWP_cond (ieq p0.N 4) rfl (fun C7 => ?_) (fun C7 => ?_)
   ·
    replace H := ifT C7 H
    obtain ⟨l30, hl30, H⟩ := bindE H
    have q14 : ∀ σ i, buildSliceA T 29 true i 1 [(0, .agg [.int .i64 13, .int .i64 r23, .int .i64 r23, .int .i64 0, .int .i64 1])] σ = some (.fsl (encL rInstr ([(⟨13, r23, r23, 0, 1⟩ : gInstr)] : List gInstr)), σ) := fun _ _ => rfl
    refine AWP_regl tok [4] ?_
    simp -dsimp -implicitDefEqProofs (maxDischargeDepth := 6) [q14, app29 hl30]
    refine keepE2 (l := [1, 2, 5]) (x := [(1, .int .i64 p1), (2, .fptr [.int .i64 p0.Op, .int .i64 p0.Dst, .int .i64 p0.A, .int .i64 p0.B, .int .i64 p0.N] 0), (5, .sl (N0 + 60) 0 l30.length)]) (s := hp B [(N0 + 12, some ⟨47, 5, encL rInstr l1⟩), (N0 + 22, none), (N0 + 10, none), (N0 + 50, none), (N0 + 60, some ⟨47, 5, encL rInstr l30⟩)] (N0 + 62)) rfl rfl fun a' ha => ?_
    replace H := Option.some.inj H
    subst H
    exact J3 _ _ (N0 + 62) (N0 + 60) (by omega) (by omega) (by omega) ha (AHeap.Sub.trans (AHeap.Sub.trans (AHeap.Sub.trans (AHeap.Sub.trans (hp_skip (AHeap.Sub.refl _)) (hp_drop (by first | exact hfr _ (by omega) | omega) (by simp; try omega))) (hp_drop (by first | exact hfr _ (by omega) | omega) (by simp; try omega))) (hp_drop (by first | exact hfr _ (by omega) | omega) (by simp; try omega))) (hp_drop (by first | exact hfr _ (by omega) | omega) (by simp; try omega)))
   ·
    replace H := ifF C7 H
    refine AWP_skip ?_
    show K44 _ _
    refine keepE (l := [1, 2, 5]) (x := [(1, .int .i64 p1), (2, .fptr [.int .i64 p0.Op, .int .i64 p0.Dst, .int .i64 p0.A, .int .i64 p0.B, .int .i64 p0.N] 0), (5, .sl (N0 + 50) 0 l27.length)]) rfl fun a' ha => ?_
    replace H := Option.some.inj H
    subst H
    exact J3 _ _ (N0 + 55) (N0 + 50) (by omega) (by omega) (by omega) ha (AHeap.Sub.trans (AHeap.Sub.trans (AHeap.Sub.trans (hp_skip (AHeap.Sub.refl _)) (hp_drop (by first | exact hfr _ (by omega) | omega) (by simp; try omega))) (hp_drop (by first | exact hfr _ (by omega) | omega) (by simp; try omega))) (hp_drop (by first | exact hfr _ (by omega) | omega) (by simp; try omega)))
  ·
   replace H := ifF C10 H
   refine AWP_skip ?_
   show K39 _ _
   refine keepE (l := [0, 1, 2]) (x := [(0, .int .i64 p0.B), (1, .int .i64 p1), (2, .int .i64 6)]) rfl fun a' ha => ?_
   refine hK39 _ _ ?_; rw [ha]
   refine AWP_seqk [6] fun K53 hK53 => ?_
   have q15 : ∀ σ i, buildSliceA T 29 true i 1 [(0, .agg [.int .i64 14, .int .i64 6, .int .i64 2, .int .i64 0, .int .i64 (imul .i64 4 (isub .i64 p0.B p1))])] σ = some (.fsl (encL rInstr ([(⟨14, 6, 2, 0, imul .i64 4 (isub .i64 p0.B p1)⟩ : gInstr)] : List gInstr)), σ) := fun _ _ => rfl
   refine AWP_regl tok [6] ?_
   simp -dsimp -implicitDefEqProofs (maxDischargeDepth := 6) [q15]
   refine keepE2 (l := [6]) (x := [(6, .fsl (encL rInstr ([(⟨14, 6, 2, 0, imul .i64 4 (isub .i64 p0.B p1)⟩ : gInstr)] : List gInstr)))]) (s := hp B [(N0 + 12, some ⟨47, 5, encL rInstr l1⟩), (N0 + 22, some ⟨47, 5, encL rInstr l21⟩)] (N0 + 36)) rfl rfl fun a' ha => ?_
   refine hK53 _ _ ?_; rw [ha]
   refine AWP_ret ?_
   have e0 : N0 ≤ N0 + 12 := by omega
   have e1 : N0 ≤ N0 + 22 := by omega
   refine ⟨[.fsl (encL rInstr ([(⟨14, 6, 2, 0, imul .i64 4 (isub .i64 p0.B p1)⟩ : gInstr)] : List gInstr))], by simp [e0, e1], ?_⟩
   obtain ⟨l31, hl31, H⟩ := bindE H
   simp -dsimp -implicitDefEqProofs (maxDischargeDepth := 6) [app29 hl31]
   refine keepE2 (l := [1, 2, 5]) (x := [(1, .int .i64 p1), (2, .fptr [.int .i64 p0.Op, .int .i64 p0.Dst, .int .i64 p0.A, .int .i64 p0.B, .int .i64 p0.N] 0), (5, .sl (N0 + 10) 0 l31.length)]) (s := hp B [(N0 + 12, some ⟨47, 5, encL rInstr l1⟩), (N0 + 22, none), (N0 + 10, some ⟨47, 5, encL rInstr l31⟩)] (N0 + 36)) rfl rfl fun a' ha => ?_
   refine hK2 _ _ ?_; rw [ha]
   refine AWP_seqk [1, 2, 5, 6] fun K54 hK54 => ?_
   obtain ⟨r32, hr32, H⟩ := bindE H
   refine AWP_regl tok [] ?_
   simp -dsimp -implicitDefEqProofs (maxDischargeDepth := 6)
   refine (c105 hr32).app ?_; try simp -dsimp -implicitDefEqProofs (maxDischargeDepth := 6)
   refine keepE2 (l := [1, 2, 5, 6]) (x := [(1, .int .i64 p1), (2, .fptr [.int .i64 p0.Op, .int .i64 p0.Dst, .int .i64 p0.A, .int .i64 p0.B, .int .i64 p0.N] 0), (5, .sl (N0 + 10) 0 l31.length), (6, .int .i64 r32)]) (s := hp B [(N0 + 12, some ⟨47, 5, encL rInstr l1⟩), (N0 + 22, none), (N0 + 10, some ⟨47, 5, encL rInstr l31⟩)] (N0 + 41)) rfl rfl fun a' ha => ?_
   refine hK54 _ _ ?_; rw [ha]
   refine AWP_seqk [1, 2, 5, 6] fun K55 hK55 => ?_
   obtain ⟨r33, hr33, H⟩ := bindE H
   obtain ⟨r34, hr34, H⟩ := bindE H
   obtain ⟨r35, hr35, H⟩ := bindE H
   obtain ⟨l36, hl36, H⟩ := bindE H
   have q16 : ∀ σ i, buildSliceA T 29 true i 1 [(0, .agg [.int .i64 r33, .int .i64 r32, .int .i64 r34, .int .i64 r35, .int .i64 0])] σ = some (.fsl (encL rInstr ([(⟨r33, r32, r34, r35, 0⟩ : gInstr)] : List gInstr)), σ) := fun _ _ => rfl
   refine AWP_drawl tok tokM [14] [15, 16] [0, 1, 2, 3, 4, 5, 6, 7, 8, 9, 10, 11, 12, 13, 14, 15, 16] (by decide) ?_
   simp only [pickL, nthO_succ, nthO_zero]
   simp -dsimp -implicitDefEqProofs (maxDischargeDepth := 6) [q16, app29 hl36]
   refine Pc.mk (c143 hr33) ?_; try simp -dsimp -implicitDefEqProofs (maxDischargeDepth := 6) [q16, app29 hl36]
   refine Pc.mk (c105 hr34) ?_; try simp -dsimp -implicitDefEqProofs (maxDischargeDepth := 6) [q16, app29 hl36]
   refine Pc.mk (c105 hr35) ?_; try simp -dsimp -implicitDefEqProofs (maxDischargeDepth := 6) [q16, app29 hl36]
   refine keepE2 (l := [1, 2, 5, 6]) (x := [(1, .int .i64 p1), (2, .fptr [.int .i64 p0.Op, .int .i64 p0.Dst, .int .i64 p0.A, .int .i64 p0.B, .int .i64 p0.N] 0), (5, .sl (N0 + 56) 0 l36.length), (6, .int .i64 r32)]) (s := hp B [(N0 + 12, some ⟨47, 5, encL rInstr l1⟩), (N0 + 22, none), (N0 + 10, none), (N0 + 56, some ⟨47, 5, encL rInstr l36⟩)] (N0 + 58)) rfl rfl fun a' ha => ?_
   refine hK55 _ _ ?_; rw [ha]
   refine AWP_seqk [1, 2, 5] fun K56 hK56 => ?_
   obtain ⟨j4, hj4, H⟩ := bindE H
   have J4 : ∀ a' σ' M4 o4, N0 + 58 ≤ M4 → N0 ≤ o4 → o4 < M4 → AAct.keep a' [1, 2, 5] = [(1, .int .i64 p1), (2, .fptr [.int .i64 p0.Op, .int .i64 p0.Dst, .int .i64 p0.A, .int .i64 p0.B, .int .i64 p0.N] 0), (5, .sl o4 0 j4.length)] → AHeap.Sub (hp B [(o4, some ⟨47, 5, encL rInstr j4⟩)] M4) σ' → K56 a' σ' := by
    intro a' σ' M4 o4 hM4_0 hM4_1 hM4_2 ha hsub
    refine hK56 _ _ ?_; rw [ha]; refine AWP_sub hsub ?_
    refine AWP_seqk [4] fun K57 hK57 => ?_
    refine AWP_regl tok [] ?_
    simp -dsimp -implicitDefEqProofs (maxDischargeDepth := 6)
    refine ACalls_fn tok Tryd.func106 (by kernel_rfl) rfl Tryd.ntmps106 Tryd.results106 rfl ?_
    simp only [argsA, Nat.reduceAdd]
    refine AWP_seqk [0, 1, 2] fun K59 hK59 => ?_
    refine AWP_regl tok [] ?_
    simp -dsimp -implicitDefEqProofs (maxDischargeDepth := 6)
    refine keepE2 (l := [0, 1, 2]) (x := [(0, .sl o4 0 j4.length), (1, .int .i64 p0.Dst), (2, .int .i64 p1)]) (s := hp B [(o4, some ⟨47, 5, encL rInstr j4⟩)] (M4 + 7)) rfl rfl fun a' ha => ?_
    refine hK59 _ _ ?_; rw [ha]
    refine AWP_seqk [0, 1, 2] fun K60 hK60 => ?_
    refine AWP_seqk [0, 1, 2, 9] fun K61 hK61 => ?_
    refine AWP_regl tok [] ?_
    simp -dsimp -implicitDefEqProofs (maxDischargeDepth := 6)
    refine keepE2 (l := [0, 1, 2, 9]) (x := [(0, .sl o4 0 j4.length), (1, .int .i64 p0.Dst), (2, .int .i64 p1), (9, .bool (ilt p0.Dst p1))]) (s := hp B [(o4, some ⟨47, 5, encL rInstr j4⟩)] (M4 + 10)) rfl rfl fun a' ha => ?_
    refine hK61 _ _ ?_; rw [ha]
    refine AWP_cond (ilt p0.Dst p1) rfl (fun C8 => ?_) (fun C8 => ?_)
    ·
     replace H := ifT C8 H
     refine AWP_seqk [6] fun K62 hK62 => ?_
     refine AWP_regl tok [] ?_
     simp -dsimp -implicitDefEqProofs (maxDischargeDepth := 6)
     refine keepE2 (l := [6]) (x := [(6, .sl o4 0 j4.length)]) (s := hp B [(o4, some ⟨47, 5, encL rInstr j4⟩)] (M4 + 12)) rfl rfl fun a' ha => ?_
     refine hK62 _ _ ?_; rw [ha]
     refine AWP_ret ?_
     have e0 : N0 ≤ o4 := by omega
     refine ⟨[.sl o4 0 j4.length], by simp [e0], ?_⟩
     simp -dsimp -implicitDefEqProofs (maxDischargeDepth := 6)
     refine keepE2 (l := [4]) (x := [(4, .sl o4 0 j4.length)]) (s := hp B [(o4, some ⟨47, 5, encL rInstr j4⟩)] (M4 + 12)) rfl rfl fun a' ha => ?_
     refine hK57 _ _ ?_; rw [ha]
     refine AWP_ret ?_
     replace H := Option.some.inj H; subst H
     have e0 : N0 ≤ o4 := by omega
     refine ⟨[.sl o4 0 j4.length], by simp [e0], ?_, ?_⟩
     ·
      simp [encL_nil, e0]
     ·
      intro o ho; exact lk_out (by simp; try omega)
    ·
     replace H := ifF C8 H
     refine AWP_skip ?_
     show K60 _ _
     refine keepE (l := [0, 1, 2]) (x := [(0, .sl o4 0 j4.length), (1, .int .i64 p0.Dst), (2, .int .i64 p1)]) rfl fun a' ha => ?_
     refine hK60 _ _ ?_; rw [ha]
     refine AWP_seqk [6] fun K63 hK63 => ?_
     obtain ⟨l38, hl38, H⟩ := bindE H
     have q17 : ∀ σ i, buildSliceA T 29 true i 1 [(0, .agg [.int .i64 16, .int .i64 0, .int .i64 2, .int .i64 7, .int .i64 (imul .i64 4 (isub .i64 p0.Dst p1))])] σ = some (.fsl (encL rInstr ([(⟨16, 0, 2, 7, imul .i64 4 (isub .i64 p0.Dst p1)⟩ : gInstr)] : List gInstr)), σ) := fun _ _ => rfl
     refine AWP_regl tok [6] ?_
     have e0 : ¬ o4 = M4 + 17 := by omega
     have e1 : ¬ M4 + 17 = o4 := by omega
     simp -dsimp -implicitDefEqProofs (maxDischargeDepth := 6) [e0, e1, q17, app29 hl38]
     refine keepE2 (l := [6]) (x := [(6, .sl (M4 + 17) 0 l38.length)]) (s := hp B [(o4, none), (M4 + 17, some ⟨47, 5, encL rInstr l38⟩)] (M4 + 19)) rfl rfl fun a' ha => ?_
     clear e0 e1
     refine hK63 _ _ ?_; rw [ha]
     refine AWP_ret ?_
     have e0 : N0 ≤ o4 := by omega
     have e1 : ¬ o4 = M4 + 17 := by omega
     have e2 : N0 ≤ M4 + 17 := by omega
     have e3 : ¬ M4 + 17 = o4 := by omega
     refine ⟨[.sl (M4 + 17) 0 l38.length], by simp [e0, e1, e2, e3], ?_⟩
     have e0 : ¬ o4 = M4 + 17 := by omega
     have e1 : ¬ M4 + 17 = o4 := by omega
     simp -dsimp -implicitDefEqProofs (maxDischargeDepth := 6) [e0, e1]
     refine keepE2 (l := [4]) (x := [(4, .sl (M4 + 17) 0 l38.length)]) (s := hp B [(o4, none), (M4 + 17, some ⟨47, 5, encL rInstr l38⟩)] (M4 + 19)) rfl rfl fun a' ha => ?_
     clear e0 e1
     refine hK57 _ _ ?_; rw [ha]
     refine AWP_ret ?_
     replace H := Option.some.inj H; subst H
     have e0 : N0 ≤ o4 := by omega
     have e1 : ¬ o4 = M4 + 17 := by omega
     have e2 : N0 ≤ M4 + 17 := by omega
     have e3 : ¬ M4 + 17 = o4 := by omega
     refine ⟨[.sl (M4 + 17) 0 l38.length], by simp [e0, e1, e2, e3], ?_, ?_⟩
     ·
      simp [encL_nil, e0, e1, e2, e3]
     ·
      intro o ho; exact lk_out (by simp; try omega)
   replace H := hj4
   refine AWP_seqk [1, 2, 5, 6, 38] fun K64 hK64 => ?_
   refine AWP_regl tok [] ?_
   simp -dsimp -implicitDefEqProofs (maxDischargeDepth := 6)
   refine keepE2 (l := [1, 2, 5, 6, 38]) (x := [(1, .int .i64 p1), (2, .fptr [.int .i64 p0.Op, .int .i64 p0.Dst, .int .i64 p0.A, .int .i64 p0.B, .int .i64 p0.N] 0), (5, .sl (N0 + 56) 0 l36.length), (6, .int .i64 r32), (38, .bool (ieq p0.N 4))]) (s := hp B [(N0 + 12, some ⟨47, 5, encL rInstr l1⟩), (N0 + 22, none), (N0 + 10, none), (N0 + 56, some ⟨47, 5, encL rInstr l36⟩)] (N0 + 61)) rfl rfl fun a' ha => ?_
   refine hK64 _ _ ?_; rw [ha]
   refine AWP_cond (ieq p0.N 4) rfl (fun C9 => ?_) (fun C9 => ?_)
   ·
    replace H := ifT C9 H
    obtain ⟨l39, hl39, H⟩ := bindE H
    have q18 : ∀ σ i, buildSliceA T 29 true i 1 [(0, .agg [.int .i64 13, .int .i64 r32, .int .i64 r32, .int .i64 0, .int .i64 1])] σ = some (.fsl (encL rInstr ([(⟨13, r32, r32, 0, 1⟩ : gInstr)] : List gInstr)), σ) := fun _ _ => rfl
    refine AWP_regl tok [4] ?_
    simp -dsimp -implicitDefEqProofs (maxDischargeDepth := 6) [q18, app29 hl39]
    refine keepE2 (l := [1, 2, 5]) (x := [(1, .int .i64 p1), (2, .fptr [.int .i64 p0.Op, .int .i64 p0.Dst, .int .i64 p0.A, .int .i64 p0.B, .int .i64 p0.N] 0), (5, .sl (N0 + 66) 0 l39.length)]) (s := hp B [(N0 + 12, some ⟨47, 5, encL rInstr l1⟩), (N0 + 22, none), (N0 + 10, none), (N0 + 56, none), (N0 + 66, some ⟨47, 5, encL rInstr l39⟩)] (N0 + 68)) rfl rfl fun a' ha => ?_
    replace H := Option.some.inj H
    subst H
    exact J4 _ _ (N0 + 68) (N0 + 66) (by omega) (by omega) (by omega) ha (AHeap.Sub.trans (AHeap.Sub.trans (AHeap.Sub.trans (AHeap.Sub.trans (hp_skip (AHeap.Sub.refl _)) (hp_drop (by first | exact hfr _ (by omega) | omega) (by simp; try omega))) (hp_drop (by first | exact hfr _ (by omega) | omega) (by simp; try omega))) (hp_drop (by first | exact hfr _ (by omega) | omega) (by simp; try omega))) (hp_drop (by first | exact hfr _ (by omega) | omega) (by simp; try omega)))
   ·
    replace H := ifF C9 H
    refine AWP_skip ?_
    show K56 _ _
    refine keepE (l := [1, 2, 5]) (x := [(1, .int .i64 p1), (2, .fptr [.int .i64 p0.Op, .int .i64 p0.Dst, .int .i64 p0.A, .int .i64 p0.B, .int .i64 p0.N] 0), (5, .sl (N0 + 56) 0 l36.length)]) rfl fun a' ha => ?_
    replace H := Option.some.inj H
    subst H
    exact J4 _ _ (N0 + 61) (N0 + 56) (by omega) (by omega) (by omega) ha (AHeap.Sub.trans (AHeap.Sub.trans (AHeap.Sub.trans (hp_skip (AHeap.Sub.refl _)) (hp_drop (by first | exact hfr _ (by omega) | omega) (by simp; try omega))) (hp_drop (by first | exact hfr _ (by omega) | omega) (by simp; try omega))) (hp_drop (by first | exact hfr _ (by omega) | omega) (by simp; try omega)))
end Go.Proofs.YtoklfbdcghgmlaaDoor
