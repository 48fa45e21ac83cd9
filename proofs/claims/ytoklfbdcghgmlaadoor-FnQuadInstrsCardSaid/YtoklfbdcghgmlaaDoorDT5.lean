/- The contracts of functions of the program, part 5: each computes what its mirror computes. No conditions. -/
import Derived.Test.YtoklfbdcghgmlaaDoorDT4
set_option linter.unusedSimpArgs false
set_option linter.unusedVariables false
set_option maxRecDepth 20000
set_option maxHeartbeats 4000000
namespace Go.Proofs.YtoklfbdcghgmlaaDoor
open Go Go.Abs Go.RowKit

theorem c25 {p0 : gQuad} {p1 : Int} {p2 : Int} {r : (List gInstr) × Bool} (H : i_QuadInstrs p0 p1 p2 = some r) : APure Tryd.prog G 25 [.agg [.int .i64 p0.Op, .int .i64 p0.Dst, .int .i64 p0.A, .int .i64 p0.B, .int .i64 p0.N], .int .i64 p1, .int .i64 p2] (.tup [.fsl (encL rInstr r.1), .bool r.2]) := by
 refine APure_thaw 4 (fun σ => ?_) (by simp)
 refine ACalls_fn tok Tryd.func25 (by kernel_rfl) rfl Tryd.ntmps25 Tryd.results25 rfl ?_
 simp only [argsA, Nat.reduceAdd]
 refine AWP_ids fun hfr => ?_
 obtain ⟨B, hB⟩ : ∃ B, B = σ.objs := ⟨_, rfl⟩
 obtain ⟨N0, hN0⟩ : ∃ N, N = σ.next := ⟨_, rfl⟩
 have hσ : σ = hp B [] N0 := by rw [hB, hN0]; rfl
 rw [← hN0, ← hB] at hfr ⊢
 rw [hσ]; clear hσ
 unfold i_QuadInstrs at H
 refine AWP_seqk [1, 2, 3] fun K1 hK1 => ?_
 refine AWP_regl tok [0] ?_
 simp -dsimp -implicitDefEqProofs (maxDischargeDepth := 6)
 refine keepE2 (l := [1, 2, 3]) (x := [(1, .int .i64 p1), (2, .int .i64 p2), (3, .fptr [.int .i64 p0.Op, .int .i64 p0.Dst, .int .i64 p0.A, .int .i64 p0.B, .int .i64 p0.N] 0)]) (s := hp B [] (N0 + 3)) rfl rfl fun a' ha => ?_
 refine hK1 _ _ ?_; rw [ha]
 refine AWP_seqk [1, 2, 3] fun K2 hK2 => ?_
 refine AWP_seqk [1, 2, 3, 31] fun K3 hK3 => ?_
 obtain ⟨r1, hr1, H⟩ := bindE H
 obtain ⟨g2, hg2, H⟩ := bindE H
 obtain ⟨g3, hg3, H⟩ := bindE H
 obtain ⟨g5, hg5, H⟩ := bindE H
 obtain ⟨g6, hg6, H⟩ := bindE H
 obtain ⟨g7, hg7, H⟩ := bindE H
 have J1 : ∀ a' σ', AAct.keep a' [1, 2, 3, 31] = [(1, .int .i64 p1), (2, .int .i64 p2), (3, .fptr [.int .i64 p0.Op, .int .i64 p0.Dst, .int .i64 p0.A, .int .i64 p0.B, .int .i64 p0.N] 0), (31, .bool g7)] → σ' = hp B [] (N0 + 27) → K3 a' σ' := by
  intro a' σ' ha hs; subst hs
  refine hK3 _ _ ?_; rw [ha]
  refine AWP_cond g7 rfl (fun C1 => ?_) (fun C1 => ?_)
  ·
   replace H := ifT C1 H
   refine AWP_seqk [6, 7] fun K4 hK4 => ?_
   refine AWP_regl tok [] ?_
   simp -dsimp -implicitDefEqProofs (maxDischargeDepth := 6)
   refine keepE2 (l := [6, 7]) (x := [(6, .nilsl), (7, .bool false)]) (s := hp B [] (N0 + 29)) rfl rfl fun a' ha => ?_
   refine hK4 _ _ ?_; rw [ha]
   refine AWP_ret ?_
   replace H := Option.some.inj H; subst H
   refine ⟨[.nilsl, .bool false], by simp, ?_, ?_⟩
   ·
    simp [encL_nil]
   ·
    intro o ho; exact lk_out (by simp; try omega)
  ·
   replace H := ifF C1 H
   refine AWP_skip ?_
   show K2 _ _
   refine keepE (l := [1, 2, 3]) (x := [(1, .int .i64 p1), (2, .int .i64 p2), (3, .fptr [.int .i64 p0.Op, .int .i64 p0.Dst, .int .i64 p0.A, .int .i64 p0.B, .int .i64 p0.N] 0)]) rfl fun a' ha => ?_
   refine hK2 _ _ ?_; rw [ha]
   refine AWP_seqk [6, 7] fun K5 hK5 => ?_
   obtain ⟨r8, hr8, H⟩ := bindE H
   refine AWP_regl tok [] ?_
   simp -dsimp -implicitDefEqProofs (maxDischargeDepth := 6)
   refine (c68 hr8).app ?_; try simp -dsimp -implicitDefEqProofs (maxDischargeDepth := 6)
   refine keepE2 (l := [6, 7]) (x := [(6, .fsl (encL rInstr r8)), (7, .bool true)]) (s := hp B [] (N0 + 33)) rfl rfl fun a' ha => ?_
   refine hK5 _ _ ?_; rw [ha]
   refine AWP_ret ?_
   replace H := Option.some.inj H; subst H
   refine ⟨[.fsl (encL rInstr r8), .bool true], by simp, ?_, ?_⟩
   ·
    simp [encL_nil]
   ·
    intro o ho; exact lk_out (by simp; try omega)
 refine AWP_regl tok [] ?_
 simp -dsimp -implicitDefEqProofs (maxDischargeDepth := 6)
 refine (c67 hr1).app ?_; try simp -dsimp -implicitDefEqProofs (maxDischargeDepth := 6)
 cases hbg2 : bnot r1
 ·
  replace hg2 := ifF hbg2 hg2
  replace hg2 := Option.some.inj hg2; subst hg2
  try simp -dsimp -implicitDefEqProofs (maxDischargeDepth := 6) [hbg2]
  cases hbg3 : (ilt p1 1)
  ·
   replace hg3 := ifF hbg3 hg3
   replace hg3 := Option.some.inj hg3; subst hg3
   try simp -dsimp -implicitDefEqProofs (maxDischargeDepth := 6) [hbg2, hbg3]
   cases hbg5 : (igt p1 8)
   ·
    replace hg5 := ifF hbg5 hg5
    obtain ⟨v4, hv4, hg5⟩ := bindE hg5
    replace hg5 := Option.some.inj hg5; subst hg5
    try simp -dsimp -implicitDefEqProofs (maxDischargeDepth := 6) [hbg2, hbg3, hbg5, hv4]
    cases hbg6 : (ine v4 0)
    ·
     replace hg6 := ifF hbg6 hg6
     replace hg6 := Option.some.inj hg6; subst hg6
     try simp -dsimp -implicitDefEqProofs (maxDischargeDepth := 6) [hbg2, hbg3, hbg5, hv4, hbg6]
     cases hbg7 : (ilt p2 (-100000))
     ·
      replace hg7 := ifF hbg7 hg7
      replace hg7 := Option.some.inj hg7; subst hg7
      try simp -dsimp -implicitDefEqProofs (maxDischargeDepth := 6) [hbg2, hbg3, hbg5, hv4, hbg6, hbg7]
      exact J1 _ _ rfl rfl
     ·
      replace hg7 := ifT hbg7 hg7
      replace hg7 := Option.some.inj hg7; subst hg7
      try simp -dsimp -implicitDefEqProofs (maxDischargeDepth := 6) [hbg2, hbg3, hbg5, hv4, hbg6, hbg7]
      exact J1 _ _ rfl rfl
    ·
     replace hg6 := ifT hbg6 hg6
     replace hg6 := Option.some.inj hg6; subst hg6
     try simp -dsimp -implicitDefEqProofs (maxDischargeDepth := 6) [hbg2, hbg3, hbg5, hv4, hbg6]
     replace hg7 := ifT rfl hg7
     replace hg7 := Option.some.inj hg7; subst hg7
     try simp -dsimp -implicitDefEqProofs (maxDischargeDepth := 6) [hbg2, hbg3, hbg5, hv4, hbg6]
     exact J1 _ _ rfl rfl
   ·
    replace hg5 := ifT hbg5 hg5
    replace hg5 := Option.some.inj hg5; subst hg5
    try simp -dsimp -implicitDefEqProofs (maxDischargeDepth := 6) [hbg2, hbg3, hbg5]
    replace hg6 := ifT rfl hg6
    replace hg6 := Option.some.inj hg6; subst hg6
    try simp -dsimp -implicitDefEqProofs (maxDischargeDepth := 6) [hbg2, hbg3, hbg5]
    replace hg7 := ifT rfl hg7
    replace hg7 := Option.some.inj hg7; subst hg7
    try simp -dsimp -implicitDefEqProofs (maxDischargeDepth := 6) [hbg2, hbg3, hbg5]
    exact J1 _ _ rfl rfl
  ·
   replace hg3 := ifT hbg3 hg3
   replace hg3 := Option.some.inj hg3; subst hg3
   try simp -dsimp -implicitDefEqProofs (maxDischargeDepth := 6) [hbg2, hbg3]
   replace hg5 := ifT rfl hg5
   replace hg5 := Option.some.inj hg5; subst hg5
   try simp -dsimp -implicitDefEqProofs (maxDischargeDepth := 6) [hbg2, hbg3]
   replace hg6 := ifT rfl hg6
   replace hg6 := Option.some.inj hg6; subst hg6
   try simp -dsimp -implicitDefEqProofs (maxDischargeDepth := 6) [hbg2, hbg3]
   replace hg7 := ifT rfl hg7
   replace hg7 := Option.some.inj hg7; subst hg7
   try simp -dsimp -implicitDefEqProofs (maxDischargeDepth := 6) [hbg2, hbg3]
   exact J1 _ _ rfl rfl
 ·
  replace hg2 := ifT hbg2 hg2
  replace hg2 := Option.some.inj hg2; subst hg2
  try simp -dsimp -implicitDefEqProofs (maxDischargeDepth := 6) [hbg2]
  replace hg3 := ifT rfl hg3
  replace hg3 := Option.some.inj hg3; subst hg3
  try simp -dsimp -implicitDefEqProofs (maxDischargeDepth := 6) [hbg2]
  replace hg5 := ifT rfl hg5
  replace hg5 := Option.some.inj hg5; subst hg5
  try simp -dsimp -implicitDefEqProofs (maxDischargeDepth := 6) [hbg2]
  replace hg6 := ifT rfl hg6
  replace hg6 := Option.some.inj hg6; subst hg6
  try simp -dsimp -implicitDefEqProofs (maxDischargeDepth := 6) [hbg2]
  replace hg7 := ifT rfl hg7
  replace hg7 := Option.some.inj hg7; subst hg7
  try simp -dsimp -implicitDefEqProofs (maxDischargeDepth := 6) [hbg2]
  exact J1 _ _ rfl rfl
theorem c71 {p0 : gL6Rd} {p1 : Int} {r : Int × gL6Rd} (H : s_l6Rd_pick p0 p1 = some r) {σ : AHeap} {w0 : Nat} (hq0 : σ.objs w0 = some ⟨138, 2, [[.fsl (encL rI_u8 p0.b), .int .i64 p0.p]]⟩) : ACalls Tryd.prog G 71 [.ptr w0 0 0, .int .i64 p1] σ (fun v σ' => ∃ N, σ.next ≤ N ∧ v = .int .i64 r.1 ∧ σ' = hp σ.objs [(w0, some ⟨138, 2, [[.fsl (encL rI_u8 r.2.b), .int .i64 r.2.p]]⟩)] N) := by
 refine ACalls_thaw 4 ?_
 refine ACalls_fn tok Tryd.func71 (by kernel_rfl) rfl Tryd.ntmps71 Tryd.results71 rfl ?_
 simp only [argsA, Nat.reduceAdd]
 refine AWP_ids fun hfr => ?_
 obtain ⟨B, hB⟩ : ∃ B, B = σ.objs := ⟨_, rfl⟩
 obtain ⟨N0, hN0⟩ : ∃ N, N = σ.next := ⟨_, rfl⟩
 have hσ : σ = hp B [(w0, some ⟨138, 2, [[.fsl (encL rI_u8 p0.b), .int .i64 p0.p]]⟩)] N0 := by rw [hB, hN0]; exact hp_one hq0
 have hlt : w0 < N0 := by rw [hN0]; exact Nat.lt_of_not_le fun h => by rw [hfr _ h] at hq0; cases hq0
 rw [← hN0, ← hB] at hfr ⊢
 rw [hσ]; clear hσ
 unfold s_l6Rd_pick at H
 refine AWP_seqk [0, 1] fun K1 hK1 => ?_
 refine AWP_regl tok [] ?_
 simp -dsimp -implicitDefEqProofs (maxDischargeDepth := 6)
 refine keepE2 (l := [0, 1]) (x := [(0, .ptr w0 0 0), (1, .int .i64 p1)]) (s := hp B [(w0, some ⟨138, 2, [[.fsl (encL rI_u8 p0.b), .int .i64 p0.p]]⟩)] (N0 + 1)) rfl rfl fun a' ha => ?_
 refine hK1 _ _ ?_; rw [ha]
 refine AWP_seqk [0, 1] fun K2 hK2 => ?_
 refine AWP_regl tok [] ?_
 simp -dsimp -implicitDefEqProofs (maxDischargeDepth := 6)
 refine keepE2 (l := [0, 1]) (x := [(0, .ptr w0 0 0), (1, .int .i64 p1)]) (s := hp B [(w0, some ⟨138, 2, [[.fsl (encL rI_u8 p0.b), .int .i64 (iadd .i64 p0.p 1)]]⟩)] (N0 + 10)) rfl rfl fun a' ha => ?_
 refine hK2 _ _ ?_; rw [ha]
 refine AWP_seqk [0, 1] fun K3 hK3 => ?_
 refine AWP_seqk [0, 1, 24] fun K4 hK4 => ?_
 obtain ⟨g1, hg1, H⟩ := bindE H
 have J1 : ∀ a' σ', AAct.keep a' [0, 1, 24] = [(0, .ptr w0 0 0), (1, .int .i64 p1), (24, .bool g1)] → σ' = hp B [(w0, some ⟨138, 2, [[.fsl (encL rI_u8 p0.b), .int .i64 (iadd .i64 p0.p 1)]]⟩)] (N0 + 20) → K4 a' σ' := by
  intro a' σ' ha hs; subst hs
  refine hK4 _ _ ?_; rw [ha]
  refine AWP_cond g1 rfl (fun C2 => ?_) (fun C2 => ?_)
  ·
   replace H := ifT C2 H
   refine AWP_seqk [4] fun K5 hK5 => ?_
   refine AWP_regl tok [] ?_
   simp -dsimp -implicitDefEqProofs (maxDischargeDepth := 6)
   refine keepE2 (l := [4]) (x := [(4, .int .i64 0)]) (s := hp B [(w0, some ⟨138, 2, [[.fsl (encL rI_u8 p0.b), .int .i64 (iadd .i64 p0.p 1)]]⟩)] (N0 + 21)) rfl rfl fun a' ha => ?_
   refine hK5 _ _ ?_; rw [ha]
   refine AWP_ret ?_
   replace H := Option.some.inj H; subst H
   refine ⟨[.int .i64 0], by simp, fun o => decide (N0 ≤ o), _, ?_, ?_, cutE rfl ?_⟩
   ·
    omega
   ·
    simp [encL_nil]
   ·
    intro o; exact cut_one hlt hfr (by simp; try omega)
  ·
   replace H := ifF C2 H
   refine AWP_skip ?_
   show K3 _ _
   refine keepE (l := [0, 1]) (x := [(0, .ptr w0 0 0), (1, .int .i64 p1)]) rfl fun a' ha => ?_
   refine hK3 _ _ ?_; rw [ha]
   refine AWP_seqk [0, 1, 5] fun K6 hK6 => ?_
   refine AWP_regl tok [] ?_
   simp -dsimp -implicitDefEqProofs (maxDischargeDepth := 6)
   refine keepE2 (l := [0, 1, 5]) (x := [(0, .ptr w0 0 0), (1, .int .i64 p1), (5, .int .i64 (isub .i64 (iadd .i64 p0.p 1) 1))]) (s := hp B [(w0, some ⟨138, 2, [[.fsl (encL rI_u8 p0.b), .int .i64 (iadd .i64 p0.p 1)]]⟩)] (N0 + 26)) rfl rfl fun a' ha => ?_
   refine hK6 _ _ ?_; rw [ha]
   refine AWP_seqk [0, 1, 5] fun K7 hK7 => ?_
   refine AWP_seqk [0, 1, 5, 36] fun K8 hK8 => ?_
   refine AWP_regl tok [] ?_
   simp -dsimp -implicitDefEqProofs (maxDischargeDepth := 6)
   refine keepE2 (l := [0, 1, 5, 36]) (x := [(0, .ptr w0 0 0), (1, .int .i64 p1), (5, .int .i64 (isub .i64 (iadd .i64 p0.p 1) 1)), (36, .bool (ilt (isub .i64 (iadd .i64 p0.p 1) 1) (ilen p0.b)))]) (s := hp B [(w0, some ⟨138, 2, [[.fsl (encL rI_u8 p0.b), .int .i64 (iadd .i64 p0.p 1)]]⟩)] (N0 + 33)) rfl rfl fun a' ha => ?_
   refine hK8 _ _ ?_; rw [ha]
   refine AWP_cond (ilt (isub .i64 (iadd .i64 p0.p 1) 1) (ilen p0.b)) rfl (fun C1 => ?_) (fun C1 => ?_)
   ·
    replace H := ifT C1 H
    refine AWP_seqk [4] fun K9 hK9 => ?_
    obtain ⟨v2, hv2, H⟩ := bindE H
    obtain ⟨v3, hv3, H⟩ := bindE H
    refine AWP_regl tok [] ?_
    simp -dsimp -implicitDefEqProofs (maxDischargeDepth := 6) [ix43 hv2, hv3]
    refine keepE2 (l := [4]) (x := [(4, .int .i64 v3)]) (s := hp B [(w0, some ⟨138, 2, [[.fsl (encL rI_u8 p0.b), .int .i64 (iadd .i64 p0.p 1)]]⟩)] (N0 + 44)) rfl rfl fun a' ha => ?_
    refine hK9 _ _ ?_; rw [ha]
    refine AWP_ret ?_
    replace H := Option.some.inj H; subst H
    refine ⟨[.int .i64 v3], by simp, fun o => decide (N0 ≤ o), _, ?_, ?_, cutE rfl ?_⟩
    ·
     omega
    ·
     simp [encL_nil]
    ·
     intro o; exact cut_one hlt hfr (by simp; try omega)
   ·
    replace H := ifF C1 H
    refine AWP_skip ?_
    show K7 _ _
    refine keepE (l := [0, 1, 5]) (x := [(0, .ptr w0 0 0), (1, .int .i64 p1), (5, .int .i64 (isub .i64 (iadd .i64 p0.p 1) 1))]) rfl fun a' ha => ?_
    refine hK7 _ _ ?_; rw [ha]
    refine AWP_seqk [1, 6] fun K10 hK10 => ?_
    obtain ⟨v4, hv4, H⟩ := bindE H
    obtain ⟨v5, hv5, H⟩ := bindE H
    obtain ⟨v6, hv6, H⟩ := bindE H
    obtain ⟨v7, hv7, H⟩ := bindE H
    obtain ⟨v8, hv8, H⟩ := bindE H
    refine AWP_drawl tok tokM [] [3, 8, 9, 10, 11, 12, 13, 14, 18, 25, 26, 27, 28, 29, 30, 31, 32, 35, 40, 41, 42, 43, 44, 45] [0, 1, 2, 4, 5, 6, 7, 15, 16, 17, 19, 20, 21, 22, 23, 24, 33, 34, 36, 37, 38, 39, 3, 8, 9, 10, 11, 12, 13, 14, 18, 25, 26, 27, 28, 29, 30, 31, 32, 35, 40, 41, 42, 43, 44, 45] (by decide) ?_
    simp only [pickL, nthO_succ, nthO_zero]
    simp -dsimp -implicitDefEqProofs (maxDischargeDepth := 6) [hv4, ix43 hv5, hv6, ix43 hv7, hv8]
    refine keepE2 (l := [1, 6]) (x := [(1, .int .i64 p1), (6, .int .i64 (iadd .i64 (iadd .i64 (iadd .i64 (imul .i64 (iconv .i64 v5) 131) (imul .i64 (iconv .i64 v7) 1117)) (imul .i64 (isub .i64 (iadd .i64 p0.p 1) 1) 29)) (imul .i64 v8 53)))]) (s := hp B [(w0, some ⟨138, 2, [[.fsl (encL rI_u8 p0.b), .int .i64 (iadd .i64 p0.p 1)]]⟩)] (N0 + 79)) rfl rfl fun a' ha => ?_
    refine hK10 _ _ ?_; rw [ha]
    refine AWP_seqk [1, 6] fun K11 hK11 => ?_
    obtain ⟨v9, hv9, H⟩ := bindE H
    refine AWP_regl tok [] ?_
    simp -dsimp -implicitDefEqProofs (maxDischargeDepth := 6) [hv9]
    refine keepE2 (l := [1, 6]) (x := [(1, .int .i64 p1), (6, .int .i64 (ixor .i64 (iadd .i64 (iadd .i64 (iadd .i64 (imul .i64 (iconv .i64 v5) 131) (imul .i64 (iconv .i64 v7) 1117)) (imul .i64 (isub .i64 (iadd .i64 p0.p 1) 1) 29)) (imul .i64 v8 53)) v9))]) (s := hp B [(w0, some ⟨138, 2, [[.fsl (encL rI_u8 p0.b), .int .i64 (iadd .i64 p0.p 1)]]⟩)] (N0 + 84)) rfl rfl fun a' ha => ?_
    refine hK11 _ _ ?_; rw [ha]
    refine AWP_seqk [4] fun K12 hK12 => ?_
    obtain ⟨v10, hv10, H⟩ := bindE H
    refine AWP_regl tok [] ?_
    simp -dsimp -implicitDefEqProofs (maxDischargeDepth := 6) [hv10]
    refine keepE2 (l := [4]) (x := [(4, .int .i64 v10)]) (s := hp B [(w0, some ⟨138, 2, [[.fsl (encL rI_u8 p0.b), .int .i64 (iadd .i64 p0.p 1)]]⟩)] (N0 + 88)) rfl rfl fun a' ha => ?_
    refine hK12 _ _ ?_; rw [ha]
    refine AWP_ret ?_
    replace H := Option.some.inj H; subst H
    refine ⟨[.int .i64 v10], by simp, fun o => decide (N0 ≤ o), _, ?_, ?_, cutE rfl ?_⟩
    ·
     omega
    ·
     simp [encL_nil]
    ·
     intro o; exact cut_one hlt hfr (by simp; try omega)
 refine AWP_regl tok [] ?_
 simp -dsimp -implicitDefEqProofs (maxDischargeDepth := 6)
 cases hbg1 : ilt p1 1
 ·
  replace hg1 := ifF hbg1 hg1
  replace hg1 := Option.some.inj hg1; subst hg1
  try simp -dsimp -implicitDefEqProofs (maxDischargeDepth := 6) [hbg1]
  exact J1 _ _ rfl rfl
 ·
  replace hg1 := ifT hbg1 hg1
  replace hg1 := Option.some.inj hg1; subst hg1
  try simp -dsimp -implicitDefEqProofs (maxDischargeDepth := 6) [hbg1]
  exact J1 _ _ rfl rfl
theorem c72 {p0 : gL6Rd} {r : Int × gL6Rd} (H : s_l91Word p0 = some r) {σ : AHeap} {w0 : Nat} (hq0 : σ.objs w0 = some ⟨138, 2, [[.fsl (encL rI_u8 p0.b), .int .i64 p0.p]]⟩) : ACalls Tryd.prog G 72 [.ptr w0 0 0] σ (fun v σ' => ∃ N, σ.next ≤ N ∧ v = .int .i64 r.1 ∧ σ' = hp σ.objs [(w0, some ⟨138, 2, [[.fsl (encL rI_u8 r.2.b), .int .i64 r.2.p]]⟩)] N) := by
 refine ACalls_thaw 4 ?_
 refine ACalls_fn tok Tryd.func72 (by kernel_rfl) rfl Tryd.ntmps72 Tryd.results72 rfl ?_
 simp only [argsA, Nat.reduceAdd]
 refine AWP_ids fun hfr => ?_
 obtain ⟨B, hB⟩ : ∃ B, B = σ.objs := ⟨_, rfl⟩
 obtain ⟨N0, hN0⟩ : ∃ N, N = σ.next := ⟨_, rfl⟩
 have hσ : σ = hp B [(w0, some ⟨138, 2, [[.fsl (encL rI_u8 p0.b), .int .i64 p0.p]]⟩)] N0 := by rw [hB, hN0]; exact hp_one hq0
 have hlt : w0 < N0 := by rw [hN0]; exact Nat.lt_of_not_le fun h => by rw [hfr _ h] at hq0; cases hq0
 rw [← hN0, ← hB] at hfr ⊢
 rw [hσ]; clear hσ
 unfold s_l91Word at H
 refine AWP_seqk [0] fun K1 hK1 => ?_
 refine AWP_regl tok [] ?_
 simp -dsimp -implicitDefEqProofs (maxDischargeDepth := 6)
 refine keepE2 (l := [0]) (x := [(0, .ptr w0 0 0)]) (s := hp B [(w0, some ⟨138, 2, [[.fsl (encL rI_u8 p0.b), .int .i64 p0.p]]⟩)] (N0 + 1)) rfl rfl fun a' ha => ?_
 refine hK1 _ _ ?_; rw [ha]
 refine AWP_seqk [0] fun K2 hK2 => ?_
 refine AWP_seqk [0, 4] fun K3 hK3 => ?_
 obtain ⟨r1, hr1, H⟩ := bindE H
 refine AWP_regl tok [] ?_
 simp -dsimp -implicitDefEqProofs (maxDischargeDepth := 6)
 refine (c71 hr1 (by simp [])).mono ?_; rintro _ _ ⟨M1, hM1, rfl, rfl⟩; simp only [hp_next] at hM1; try simp -dsimp -implicitDefEqProofs (maxDischargeDepth := 6) [hp_over_one]
 refine keepE2 (l := [0, 4]) (x := [(0, .ptr w0 0 0), (4, .int .i64 r1.1)]) (s := hp B [(w0, some ⟨138, 2, [[.fsl (encL rI_u8 r1.2.b), .int .i64 r1.2.p]]⟩)] M1) rfl rfl fun a' ha => ?_
 refine hK3 _ _ ?_; rw [ha]
 refine AWP_block ?_
 refine AWP_seqk [0, 4, 5] fun K4 hK4 => ?_
 refine AWP_regl tok [] ?_
 simp -dsimp -implicitDefEqProofs (maxDischargeDepth := 6)
 refine keepE2 (l := [0, 4, 5]) (x := [(0, .ptr w0 0 0), (4, .int .i64 r1.1), (5, .bool (ieq r1.1 0))]) (s := hp B [(w0, some ⟨138, 2, [[.fsl (encL rI_u8 r1.2.b), .int .i64 r1.2.p]]⟩)] (M1 + 2)) rfl rfl fun a' ha => ?_
 refine hK4 _ _ ?_; rw [ha]
 refine AWP_cond (ieq r1.1 0) rfl (fun C3 => ?_) (fun C3 => ?_)
 ·
  replace H := ifT C3 H
  refine AWP_seqk [2] fun K5 hK5 => ?_
  obtain ⟨r2, hr2, H⟩ := bindE H
  obtain ⟨v3, hv3, H⟩ := bindE H
  have q0 : ∀ σ i, buildSliceA T 24 true i 8 [(0, .int .i64 (-2147483648)), (1, .int .i64 2147483647), (2, .int .i64 (-1)), (3, .int .i64 0), (4, .int .i64 1), (5, .int .i64 (-2147483647)), (6, .int .i64 65536), (7, .int .i64 (-65536))] σ = some (.fsl (encL rI ([-2147483648, 2147483647, -1, 0, 1, -2147483647, 65536, -65536] : List Int)), σ) := fun _ _ => rfl
  refine AWP_regl tok [0] ?_
  simp -dsimp -implicitDefEqProofs (maxDischargeDepth := 6) [q0, ix24 hv3]
  refine (c71 hr2 (by simp [q0, ix24 hv3])).mono ?_; rintro _ _ ⟨M2, hM2, rfl, rfl⟩; simp only [hp_next] at hM2; try simp -dsimp -implicitDefEqProofs (maxDischargeDepth := 6) [hp_over_one, q0, ix24 hv3]
  refine keepE2 (l := [2]) (x := [(2, .int .i64 v3)]) (s := hp B [(w0, some ⟨138, 2, [[.fsl (encL rI_u8 r2.2.b), .int .i64 r2.2.p]]⟩)] M2) rfl rfl fun a' ha => ?_
  refine hK5 _ _ ?_; rw [ha]
  refine AWP_ret ?_
  replace H := Option.some.inj H; subst H
  refine ⟨[.int .i64 v3], by simp, fun o => decide (N0 ≤ o), _, ?_, ?_, cutE rfl ?_⟩
  ·
   omega
  ·
   simp [encL_nil]
  ·
   intro o; exact cut_one hlt hfr (by simp; try omega)
 ·
  replace H := ifF C3 H
  refine AWP_seqk [0, 4, 12] fun K6 hK6 => ?_
  refine AWP_regl tok [] ?_
  simp -dsimp -implicitDefEqProofs (maxDischargeDepth := 6)
  refine keepE2 (l := [0, 4, 12]) (x := [(0, .ptr w0 0 0), (4, .int .i64 r1.1), (12, .bool (ieq r1.1 1))]) (s := hp B [(w0, some ⟨138, 2, [[.fsl (encL rI_u8 r1.2.b), .int .i64 r1.2.p]]⟩)] (M1 + 4)) rfl rfl fun a' ha => ?_
  refine hK6 _ _ ?_; rw [ha]
  refine AWP_cond (ieq r1.1 1) rfl (fun C2 => ?_) (fun C2 => ?_)
  ·
   replace H := ifT C2 H
   refine AWP_seqk [2] fun K7 hK7 => ?_
   obtain ⟨r4, hr4, H⟩ := bindE H
   obtain ⟨r5, hr5, H⟩ := bindE H
   obtain ⟨r6, hr6, H⟩ := bindE H
   obtain ⟨r7, hr7, H⟩ := bindE H
   obtain ⟨r8, hr8, H⟩ := bindE H
   refine AWP_regl tok [] ?_
   simp -dsimp -implicitDefEqProofs (maxDischargeDepth := 6)
   refine (c71 hr4 (by simp [])).mono ?_; rintro _ _ ⟨M3, hM3, rfl, rfl⟩; simp only [hp_next] at hM3; try simp -dsimp -implicitDefEqProofs (maxDischargeDepth := 6) [hp_over_one]
   refine (c71 hr5 (by simp [])).mono ?_; rintro _ _ ⟨M4, hM4, rfl, rfl⟩; simp only [hp_next] at hM4; try simp -dsimp -implicitDefEqProofs (maxDischargeDepth := 6) [hp_over_one]
   refine (c71 hr6 (by simp [])).mono ?_; rintro _ _ ⟨M5, hM5, rfl, rfl⟩; simp only [hp_next] at hM5; try simp -dsimp -implicitDefEqProofs (maxDischargeDepth := 6) [hp_over_one]
   refine (c71 hr7 (by simp [])).mono ?_; rintro _ _ ⟨M6, hM6, rfl, rfl⟩; simp only [hp_next] at hM6; try simp -dsimp -implicitDefEqProofs (maxDischargeDepth := 6) [hp_over_one]
   refine (c102 hr8).app ?_; try simp -dsimp -implicitDefEqProofs (maxDischargeDepth := 6)
   refine keepE2 (l := [2]) (x := [(2, .int .i64 r8)]) (s := hp B [(w0, some ⟨138, 2, [[.fsl (encL rI_u8 r7.2.b), .int .i64 r7.2.p]]⟩)] M6) rfl rfl fun a' ha => ?_
   refine hK7 _ _ ?_; rw [ha]
   refine AWP_ret ?_
   replace H := Option.some.inj H; subst H
   refine ⟨[.int .i64 r8], by simp, fun o => decide (N0 ≤ o), _, ?_, ?_, cutE rfl ?_⟩
   ·
    omega
   ·
    simp [encL_nil]
   ·
    intro o; exact cut_one hlt hfr (by simp; try omega)
  ·
   replace H := ifF C2 H
   refine AWP_seqk [0, 29] fun K8 hK8 => ?_
   refine AWP_regl tok [] ?_
   simp -dsimp -implicitDefEqProofs (maxDischargeDepth := 6)
   refine keepE2 (l := [0, 29]) (x := [(0, .ptr w0 0 0), (29, .bool (ieq r1.1 2))]) (s := hp B [(w0, some ⟨138, 2, [[.fsl (encL rI_u8 r1.2.b), .int .i64 r1.2.p]]⟩)] (M1 + 6)) rfl rfl fun a' ha => ?_
   refine hK8 _ _ ?_; rw [ha]
   refine AWP_cond (ieq r1.1 2) rfl (fun C1 => ?_) (fun C1 => ?_)
   ·
    replace H := ifT C1 H
    refine AWP_seqk [2] fun K9 hK9 => ?_
    obtain ⟨r9, hr9, H⟩ := bindE H
    refine AWP_regl tok [] ?_
    simp -dsimp -implicitDefEqProofs (maxDischargeDepth := 6)
    refine (c71 hr9 (by simp [])).mono ?_; rintro _ _ ⟨M7, hM7, rfl, rfl⟩; simp only [hp_next] at hM7; try simp -dsimp -implicitDefEqProofs (maxDischargeDepth := 6) [hp_over_one]
    refine keepE2 (l := [2]) (x := [(2, .int .i64 (isub .i64 0 r9.1))]) (s := hp B [(w0, some ⟨138, 2, [[.fsl (encL rI_u8 r9.2.b), .int .i64 r9.2.p]]⟩)] M7) rfl rfl fun a' ha => ?_
    refine hK9 _ _ ?_; rw [ha]
    refine AWP_ret ?_
    replace H := Option.some.inj H; subst H
    refine ⟨[.int .i64 (isub .i64 0 r9.1)], by simp, fun o => decide (N0 ≤ o), _, ?_, ?_, cutE rfl ?_⟩
    ·
     omega
    ·
     simp [encL_nil]
    ·
     intro o; exact cut_one hlt hfr (by simp; try omega)
   ·
    replace H := ifF C1 H
    refine AWP_skip ?_
    show K2 _ _
    refine keepE (l := [0]) (x := [(0, .ptr w0 0 0)]) rfl fun a' ha => ?_
    refine hK2 _ _ ?_; rw [ha]
    refine AWP_seqk [2] fun K10 hK10 => ?_
    obtain ⟨r10, hr10, H⟩ := bindE H
    refine AWP_regl tok [] ?_
    simp -dsimp -implicitDefEqProofs (maxDischargeDepth := 6)
    refine (c71 hr10 (by simp [])).mono ?_; rintro _ _ ⟨M8, hM8, rfl, rfl⟩; simp only [hp_next] at hM8; try simp -dsimp -implicitDefEqProofs (maxDischargeDepth := 6) [hp_over_one]
    refine keepE2 (l := [2]) (x := [(2, .int .i64 r10.1)]) (s := hp B [(w0, some ⟨138, 2, [[.fsl (encL rI_u8 r10.2.b), .int .i64 r10.2.p]]⟩)] M8) rfl rfl fun a' ha => ?_
    refine hK10 _ _ ?_; rw [ha]
    refine AWP_ret ?_
    replace H := Option.some.inj H; subst H
    refine ⟨[.int .i64 r10.1], by simp, fun o => decide (N0 ≤ o), _, ?_, ?_, cutE rfl ?_⟩
    ·
     omega
    ·
     simp [encL_nil]
    ·
     intro o; exact cut_one hlt hfr (by simp; try omega)
theorem c144 {p0 : gL6Rd} {r : Int × gL6Rd} (H : s_l93Reg p0 = some r) {σ : AHeap} {w0 : Nat} (hq0 : σ.objs w0 = some ⟨138, 2, [[.fsl (encL rI_u8 p0.b), .int .i64 p0.p]]⟩) : ACalls Tryd.prog G 144 [.ptr w0 0 0] σ (fun v σ' => ∃ N, σ.next ≤ N ∧ v = .int .i64 r.1 ∧ σ' = hp σ.objs [(w0, some ⟨138, 2, [[.fsl (encL rI_u8 r.2.b), .int .i64 r.2.p]]⟩)] N) := by
 refine ACalls_thaw 4 ?_
 refine ACalls_fn tok Tryd.func144 (by kernel_rfl) rfl Tryd.ntmps144 Tryd.results144 rfl ?_
 simp only [argsA, Nat.reduceAdd]
 refine AWP_ids fun hfr => ?_
 obtain ⟨B, hB⟩ : ∃ B, B = σ.objs := ⟨_, rfl⟩
 obtain ⟨N0, hN0⟩ : ∃ N, N = σ.next := ⟨_, rfl⟩
 have hσ : σ = hp B [(w0, some ⟨138, 2, [[.fsl (encL rI_u8 p0.b), .int .i64 p0.p]]⟩)] N0 := by rw [hB, hN0]; exact hp_one hq0
 have hlt : w0 < N0 := by rw [hN0]; exact Nat.lt_of_not_le fun h => by rw [hfr _ h] at hq0; cases hq0
 rw [← hN0, ← hB] at hfr ⊢
 rw [hσ]; clear hσ
 unfold s_l93Reg at H
 refine AWP_seqk [0] fun K1 hK1 => ?_
 refine AWP_regl tok [] ?_
 simp -dsimp -implicitDefEqProofs (maxDischargeDepth := 6)
 refine keepE2 (l := [0]) (x := [(0, .ptr w0 0 0)]) (s := hp B [(w0, some ⟨138, 2, [[.fsl (encL rI_u8 p0.b), .int .i64 p0.p]]⟩)] (N0 + 1)) rfl rfl fun a' ha => ?_
 refine hK1 _ _ ?_; rw [ha]
 refine AWP_seqk [2] fun K2 hK2 => ?_
 obtain ⟨r1, hr1, H⟩ := bindE H
 refine AWP_regl tok [] ?_
 simp -dsimp -implicitDefEqProofs (maxDischargeDepth := 6)
 refine (c71 hr1 (by simp [])).mono ?_; rintro _ _ ⟨M1, hM1, rfl, rfl⟩; simp only [hp_next] at hM1; try simp -dsimp -implicitDefEqProofs (maxDischargeDepth := 6) [hp_over_one]
 refine keepE2 (l := [2]) (x := [(2, .int .i64 r1.1)]) (s := hp B [(w0, some ⟨138, 2, [[.fsl (encL rI_u8 r1.2.b), .int .i64 r1.2.p]]⟩)] M1) rfl rfl fun a' ha => ?_
 refine hK2 _ _ ?_; rw [ha]
 refine AWP_ret ?_
 replace H := Option.some.inj H; subst H
 refine ⟨[.int .i64 r1.1], by simp, fun o => decide (N0 ≤ o), _, ?_, ?_, cutE rfl ?_⟩
 ·
  omega
 ·
  simp [encL_nil]
 ·
  intro o; exact cut_one hlt hfr (by simp; try omega)
theorem c145 {p0 : gL6Rd} {r : Int × gL6Rd} (H : s_l91Op p0 = some r) {σ : AHeap} {w0 : Nat} (hq0 : σ.objs w0 = some ⟨138, 2, [[.fsl (encL rI_u8 p0.b), .int .i64 p0.p]]⟩) : ACalls Tryd.prog G 145 [.ptr w0 0 0] σ (fun v σ' => ∃ N, σ.next ≤ N ∧ v = .int .i64 r.1 ∧ σ' = hp σ.objs [(w0, some ⟨138, 2, [[.fsl (encL rI_u8 r.2.b), .int .i64 r.2.p]]⟩)] N) := by
 refine ACalls_thaw 4 ?_
 refine ACalls_fn tok Tryd.func145 (by kernel_rfl) rfl Tryd.ntmps145 Tryd.results145 rfl ?_
 simp only [argsA, Nat.reduceAdd]
 refine AWP_ids fun hfr => ?_
 obtain ⟨B, hB⟩ : ∃ B, B = σ.objs := ⟨_, rfl⟩
 obtain ⟨N0, hN0⟩ : ∃ N, N = σ.next := ⟨_, rfl⟩
 have hσ : σ = hp B [(w0, some ⟨138, 2, [[.fsl (encL rI_u8 p0.b), .int .i64 p0.p]]⟩)] N0 := by rw [hB, hN0]; exact hp_one hq0
 have hlt : w0 < N0 := by rw [hN0]; exact Nat.lt_of_not_le fun h => by rw [hfr _ h] at hq0; cases hq0
 rw [← hN0, ← hB] at hfr ⊢
 rw [hσ]; clear hσ
 unfold s_l91Op at H
 refine AWP_seqk [0] fun K1 hK1 => ?_
 refine AWP_regl tok [] ?_
 simp -dsimp -implicitDefEqProofs (maxDischargeDepth := 6)
 refine keepE2 (l := [0]) (x := [(0, .ptr w0 0 0)]) (s := hp B [(w0, some ⟨138, 2, [[.fsl (encL rI_u8 p0.b), .int .i64 p0.p]]⟩)] (N0 + 1)) rfl rfl fun a' ha => ?_
 refine hK1 _ _ ?_; rw [ha]
 refine AWP_seqk [2] fun K2 hK2 => ?_
 obtain ⟨r1, hr1, H⟩ := bindE H
 refine AWP_regl tok [] ?_
 simp -dsimp -implicitDefEqProofs (maxDischargeDepth := 6)
 refine (c71 hr1 (by simp [])).mono ?_; rintro _ _ ⟨M1, hM1, rfl, rfl⟩; simp only [hp_next] at hM1; try simp -dsimp -implicitDefEqProofs (maxDischargeDepth := 6) [hp_over_one]
 refine keepE2 (l := [2]) (x := [(2, .int .i64 (iadd .i64 1 r1.1))]) (s := hp B [(w0, some ⟨138, 2, [[.fsl (encL rI_u8 r1.2.b), .int .i64 r1.2.p]]⟩)] M1) rfl rfl fun a' ha => ?_
 refine hK2 _ _ ?_; rw [ha]
 refine AWP_ret ?_
 replace H := Option.some.inj H; subst H
 refine ⟨[.int .i64 (iadd .i64 1 r1.1)], by simp, fun o => decide (N0 ≤ o), _, ?_, ?_, cutE rfl ?_⟩
 ·
  omega
 ·
  simp [encL_nil]
 ·
  intro o; exact cut_one hlt hfr (by simp; try omega)
theorem c125 {p0 : gL6Rd} {p1 : Int} {r : gQuad × gL6Rd} (H : s_l93Quad p0 p1 = some r) {σ : AHeap} {w0 : Nat} (hq0 : σ.objs w0 = some ⟨138, 2, [[.fsl (encL rI_u8 p0.b), .int .i64 p0.p]]⟩) : ACalls Tryd.prog G 125 [.ptr w0 0 0, .int .i64 p1] σ (fun v σ' => ∃ N, σ.next ≤ N ∧ v = .agg [.int .i64 r.1.Op, .int .i64 r.1.Dst, .int .i64 r.1.A, .int .i64 r.1.B, .int .i64 r.1.N] ∧ σ' = hp σ.objs [(w0, some ⟨138, 2, [[.fsl (encL rI_u8 r.2.b), .int .i64 r.2.p]]⟩)] N) := by
 refine ACalls_thaw 4 ?_
 refine ACalls_fn tok Tryd.func125 (by kernel_rfl) rfl Tryd.ntmps125 Tryd.results125 rfl ?_
 simp only [argsA, Nat.reduceAdd]
 refine AWP_ids fun hfr => ?_
 obtain ⟨B, hB⟩ : ∃ B, B = σ.objs := ⟨_, rfl⟩
 obtain ⟨N0, hN0⟩ : ∃ N, N = σ.next := ⟨_, rfl⟩
 have hσ : σ = hp B [(w0, some ⟨138, 2, [[.fsl (encL rI_u8 p0.b), .int .i64 p0.p]]⟩)] N0 := by rw [hB, hN0]; exact hp_one hq0
 have hlt : w0 < N0 := by rw [hN0]; exact Nat.lt_of_not_le fun h => by rw [hfr _ h] at hq0; cases hq0
 rw [← hN0, ← hB] at hfr ⊢
 rw [hσ]; clear hσ
 unfold s_l93Quad at H
 refine AWP_seqk [0, 1, 4] fun K1 hK1 => ?_
 refine AWP_regl tok [] ?_
 have e0 : ¬ w0 = N0 := by omega
 have e1 : ¬ N0 = w0 := by omega
 simp -dsimp -implicitDefEqProofs (maxDischargeDepth := 6) [e0, e1]
 refine keepE2 (l := [0, 1, 4]) (x := [(0, .ptr w0 0 0), (1, .int .i64 p1), (4, .ptr N0 0 0)]) (s := hp B [(w0, some ⟨138, 2, [[.fsl (encL rI_u8 p0.b), .int .i64 p0.p]]⟩), (N0, some ⟨40, 5, [[.int .i64 0, .int .i64 0, .int .i64 0, .int .i64 0, .int .i64 0]]⟩)] (N0 + 1)) rfl rfl fun a' ha => ?_
 clear e0 e1
 refine hK1 _ _ ?_; rw [ha]
 refine AWP_seqk [0, 4] fun K2 hK2 => ?_
 refine AWP_seqk [0, 1, 4, 13] fun K3 hK3 => ?_
 obtain ⟨r1, hr1, H⟩ := bindE H
 refine AWP_regl tok [] ?_
 have e0 : ¬ w0 = N0 := by omega
 have e1 : ¬ N0 = w0 := by omega
 simp -dsimp -implicitDefEqProofs (maxDischargeDepth := 6) [e0, e1]
 refine (c71 hr1 (by simp [e0, e1])).mono ?_; rintro _ _ ⟨M1, hM1, rfl, rfl⟩; simp only [hp_next] at hM1; try simp -dsimp -implicitDefEqProofs (maxDischargeDepth := 6) [hp_over_one, e0, e1]
 refine keepE2 (l := [0, 1, 4, 13]) (x := [(0, .ptr w0 0 0), (1, .int .i64 p1), (4, .ptr N0 0 0), (13, .int .i64 r1.1)]) (s := hp B [(w0, some ⟨138, 2, [[.fsl (encL rI_u8 r1.2.b), .int .i64 r1.2.p]]⟩), (N0, some ⟨40, 5, [[.int .i64 0, .int .i64 0, .int .i64 0, .int .i64 0, .int .i64 0]]⟩)] M1) rfl rfl fun a' ha => ?_
 clear e0 e1
 refine hK3 _ _ ?_; rw [ha]
 refine AWP_block ?_
 refine AWP_seqk [0, 1, 4, 13, 14] fun K4 hK4 => ?_
 obtain ⟨j1, hj1, H⟩ := bindE H
 have J3 : ∀ a' σ' M2, M1 ≤ M2 → AAct.keep a' [0, 1, 4, 13, 14] = [(0, .ptr w0 0 0), (1, .int .i64 p1), (4, .ptr N0 0 0), (13, .int .i64 r1.1), (14, .bool j1)] → AHeap.Sub (hp B [(w0, some ⟨138, 2, [[.fsl (encL rI_u8 r1.2.b), .int .i64 r1.2.p]]⟩), (N0, some ⟨40, 5, [[.int .i64 0, .int .i64 0, .int .i64 0, .int .i64 0, .int .i64 0]]⟩)] M2) σ' → K4 a' σ' := by
  intro a' σ' M2 hM2_0 ha hsub
  refine hK4 _ _ ?_; rw [ha]; refine AWP_sub hsub ?_
  refine AWP_cond j1 rfl (fun C11 => ?_) (fun C11 => ?_)
  ·
   replace H := ifT C11 H
   refine AWP_seqk [4] fun K5 hK5 => ?_
   obtain ⟨r3, hr3, H⟩ := bindE H
   obtain ⟨r4, hr4, H⟩ := bindE H
   obtain ⟨r5, hr5, H⟩ := bindE H
   obtain ⟨v6, hv6, H⟩ := bindE H
   have q0 : ∀ σ i, buildSliceA T 24 true i 4 [(0, .int .i64 0), (1, .int .i64 1), (2, .int .i64 2), (3, .int .i64 r4.1)] σ = some (.fsl (encL rI ([0, 1, 2, r4.1] : List Int)), σ) := fun _ _ => rfl
   refine AWP_regl tok [4] ?_
   have e0 : ¬ w0 = N0 := by omega
   have e1 : ¬ N0 = w0 := by omega
   simp -dsimp -implicitDefEqProofs (maxDischargeDepth := 6) [e0, e1, q0, ix24 hv6]
   refine (c144 hr3 (by simp [e0, e1, q0, ix24 hv6])).mono ?_; rintro _ _ ⟨M3, hM3, rfl, rfl⟩; simp only [hp_next] at hM3; try simp -dsimp -implicitDefEqProofs (maxDischargeDepth := 6) [hp_over_one, e0, e1, q0, ix24 hv6]
   refine (c72 hr4 (by simp [e0, e1, q0, ix24 hv6])).mono ?_; rintro _ _ ⟨M4, hM4, rfl, rfl⟩; simp only [hp_next] at hM4; try simp -dsimp -implicitDefEqProofs (maxDischargeDepth := 6) [hp_over_one, e0, e1, q0, ix24 hv6]
   refine (c71 hr5 (by simp [e0, e1, q0, ix24 hv6])).mono ?_; rintro _ _ ⟨M5, hM5, rfl, rfl⟩; simp only [hp_next] at hM5; try simp -dsimp -implicitDefEqProofs (maxDischargeDepth := 6) [hp_over_one, e0, e1, q0, ix24 hv6]
   refine keepE2 (l := [4]) (x := [(4, .ptr N0 0 0)]) (s := hp B [(w0, some ⟨138, 2, [[.fsl (encL rI_u8 r5.2.b), .int .i64 r5.2.p]]⟩), (N0, some ⟨40, 5, [[.int .i64 1, .int .i64 r3.1, .int .i64 0, .int .i64 0, .int .i64 v6]]⟩)] M5) rfl rfl fun a' ha => ?_
   clear e0 e1
   refine hK5 _ _ ?_; rw [ha]
   refine AWP_ret ?_
   replace H := Option.some.inj H; subst H
   have e0 : ¬ w0 = N0 := by omega
   have e1 : N0 ≤ N0 := by omega
   have e2 : ¬ N0 = w0 := by omega
   refine ⟨[.agg [.int .i64 1, .int .i64 r3.1, .int .i64 0, .int .i64 0, .int .i64 v6]], by simp [e0, e1, e2], fun o => decide (N0 ≤ o), _, ?_, ?_, cutE rfl ?_⟩
   ·
    omega
   ·
    simp [encL_nil, e0, e1, e2]
   ·
    intro o; exact cut_one hlt hfr (by simp; try omega)
  ·
   replace H := ifF C11 H
   refine AWP_seqk [0, 1, 4, 13, 27] fun K6 hK6 => ?_
   obtain ⟨j2, hj2, H⟩ := bindE H
   have J2 : ∀ a' σ' M6, M2 ≤ M6 → AAct.keep a' [0, 1, 4, 13, 27] = [(0, .ptr w0 0 0), (1, .int .i64 p1), (4, .ptr N0 0 0), (13, .int .i64 r1.1), (27, .bool j2)] → AHeap.Sub (hp B [(w0, some ⟨138, 2, [[.fsl (encL rI_u8 r1.2.b), .int .i64 r1.2.p]]⟩), (N0, some ⟨40, 5, [[.int .i64 0, .int .i64 0, .int .i64 0, .int .i64 0, .int .i64 0]]⟩)] M6) σ' → K6 a' σ' := by
    intro a' σ' M6 hM6_0 ha hsub
    refine hK6 _ _ ?_; rw [ha]; refine AWP_sub hsub ?_
    refine AWP_cond j2 rfl (fun C9 => ?_) (fun C9 => ?_)
    ·
     replace H := ifT C9 H
     refine AWP_seqk [0, 4, 5] fun K7 hK7 => ?_
     obtain ⟨r8, hr8, H⟩ := bindE H
     refine AWP_regl tok [] ?_
     have e0 : ¬ w0 = N0 := by omega
     have e1 : ¬ N0 = w0 := by omega
     simp -dsimp -implicitDefEqProofs (maxDischargeDepth := 6) [e0, e1]
     refine (c144 hr8 (by simp [e0, e1])).mono ?_; rintro _ _ ⟨M7, hM7, rfl, rfl⟩; simp only [hp_next] at hM7; try simp -dsimp -implicitDefEqProofs (maxDischargeDepth := 6) [hp_over_one, e0, e1]
     refine keepE2 (l := [0, 4, 5]) (x := [(0, .ptr w0 0 0), (4, .ptr N0 0 0), (5, .int .i64 r8.1)]) (s := hp B [(w0, some ⟨138, 2, [[.fsl (encL rI_u8 r8.2.b), .int .i64 r8.2.p]]⟩), (N0, some ⟨40, 5, [[.int .i64 0, .int .i64 0, .int .i64 0, .int .i64 0, .int .i64 0]]⟩)] M7) rfl rfl fun a' ha => ?_
     clear e0 e1
     refine hK7 _ _ ?_; rw [ha]
     refine AWP_seqk [4] fun K8 hK8 => ?_
     obtain ⟨r9, hr9, H⟩ := bindE H
     refine AWP_regl tok [] ?_
     have e0 : ¬ w0 = N0 := by omega
     have e1 : ¬ N0 = w0 := by omega
     simp -dsimp -implicitDefEqProofs (maxDischargeDepth := 6) [e0, e1]
     refine (c144 hr9 (by simp [e0, e1])).mono ?_; rintro _ _ ⟨M8, hM8, rfl, rfl⟩; simp only [hp_next] at hM8; try simp -dsimp -implicitDefEqProofs (maxDischargeDepth := 6) [hp_over_one, e0, e1]
     refine keepE2 (l := [4]) (x := [(4, .ptr N0 0 0)]) (s := hp B [(w0, some ⟨138, 2, [[.fsl (encL rI_u8 r9.2.b), .int .i64 r9.2.p]]⟩), (N0, some ⟨40, 5, [[.int .i64 2, .int .i64 r8.1, .int .i64 r9.1, .int .i64 0, .int .i64 0]]⟩)] M8) rfl rfl fun a' ha => ?_
     clear e0 e1
     refine hK8 _ _ ?_; rw [ha]
     refine AWP_ret ?_
     replace H := Option.some.inj H; subst H
     have e0 : ¬ w0 = N0 := by omega
     have e1 : N0 ≤ N0 := by omega
     have e2 : ¬ N0 = w0 := by omega
     refine ⟨[.agg [.int .i64 2, .int .i64 r8.1, .int .i64 r9.1, .int .i64 0, .int .i64 0]], by simp [e0, e1, e2], fun o => decide (N0 ≤ o), _, ?_, ?_, cutE rfl ?_⟩
     ·
      omega
     ·
      simp [encL_nil, e0, e1, e2]
     ·
      intro o; exact cut_one hlt hfr (by simp; try omega)
    ·
     replace H := ifF C9 H
     refine AWP_seqk [0, 1, 4, 13, 36] fun K9 hK9 => ?_
     obtain ⟨j3, hj3, H⟩ := bindE H
     have J1 : ∀ a' σ' M9, M6 ≤ M9 → AAct.keep a' [0, 1, 4, 13, 36] = [(0, .ptr w0 0 0), (1, .int .i64 p1), (4, .ptr N0 0 0), (13, .int .i64 r1.1), (36, .bool j3)] → AHeap.Sub (hp B [(w0, some ⟨138, 2, [[.fsl (encL rI_u8 r1.2.b), .int .i64 r1.2.p]]⟩), (N0, some ⟨40, 5, [[.int .i64 0, .int .i64 0, .int .i64 0, .int .i64 0, .int .i64 0]]⟩)] M9) σ' → K9 a' σ' := by
      intro a' σ' M9 hM9_0 ha hsub
      refine hK9 _ _ ?_; rw [ha]; refine AWP_sub hsub ?_
      refine AWP_cond j3 rfl (fun C6 => ?_) (fun C6 => ?_)
      ·
       replace H := ifT C6 H
       refine AWP_seqk [0, 4, 6] fun K10 hK10 => ?_
       obtain ⟨r11, hr11, H⟩ := bindE H
       refine AWP_regl tok [] ?_
       have e0 : ¬ w0 = N0 := by omega
       have e1 : ¬ N0 = w0 := by omega
       simp -dsimp -implicitDefEqProofs (maxDischargeDepth := 6) [e0, e1]
       refine (c144 hr11 (by simp [e0, e1])).mono ?_; rintro _ _ ⟨M10, hM10, rfl, rfl⟩; simp only [hp_next] at hM10; try simp -dsimp -implicitDefEqProofs (maxDischargeDepth := 6) [hp_over_one, e0, e1]
       refine keepE2 (l := [0, 4, 6]) (x := [(0, .ptr w0 0 0), (4, .ptr N0 0 0), (6, .int .i64 r11.1)]) (s := hp B [(w0, some ⟨138, 2, [[.fsl (encL rI_u8 r11.2.b), .int .i64 r11.2.p]]⟩), (N0, some ⟨40, 5, [[.int .i64 0, .int .i64 0, .int .i64 0, .int .i64 0, .int .i64 0]]⟩)] M10) rfl rfl fun a' ha => ?_
       clear e0 e1
       refine hK10 _ _ ?_; rw [ha]
       refine AWP_seqk [0, 4, 6, 7] fun K11 hK11 => ?_
       obtain ⟨r12, hr12, H⟩ := bindE H
       refine AWP_regl tok [] ?_
       have e0 : ¬ w0 = N0 := by omega
       have e1 : ¬ N0 = w0 := by omega
       simp -dsimp -implicitDefEqProofs (maxDischargeDepth := 6) [e0, e1]
       refine (c144 hr12 (by simp [e0, e1])).mono ?_; rintro _ _ ⟨M11, hM11, rfl, rfl⟩; simp only [hp_next] at hM11; try simp -dsimp -implicitDefEqProofs (maxDischargeDepth := 6) [hp_over_one, e0, e1]
       refine keepE2 (l := [0, 4, 6, 7]) (x := [(0, .ptr w0 0 0), (4, .ptr N0 0 0), (6, .int .i64 r11.1), (7, .int .i64 r12.1)]) (s := hp B [(w0, some ⟨138, 2, [[.fsl (encL rI_u8 r12.2.b), .int .i64 r12.2.p]]⟩), (N0, some ⟨40, 5, [[.int .i64 0, .int .i64 0, .int .i64 0, .int .i64 0, .int .i64 0]]⟩)] M11) rfl rfl fun a' ha => ?_
       clear e0 e1
       refine hK11 _ _ ?_; rw [ha]
       refine AWP_seqk [0, 4, 6, 7, 8] fun K12 hK12 => ?_
       obtain ⟨r13, hr13, H⟩ := bindE H
       refine AWP_regl tok [] ?_
       have e0 : ¬ w0 = N0 := by omega
       have e1 : ¬ N0 = w0 := by omega
       simp -dsimp -implicitDefEqProofs (maxDischargeDepth := 6) [e0, e1]
       refine (c144 hr13 (by simp [e0, e1])).mono ?_; rintro _ _ ⟨M12, hM12, rfl, rfl⟩; simp only [hp_next] at hM12; try simp -dsimp -implicitDefEqProofs (maxDischargeDepth := 6) [hp_over_one, e0, e1]
       refine keepE2 (l := [0, 4, 6, 7, 8]) (x := [(0, .ptr w0 0 0), (4, .ptr N0 0 0), (6, .int .i64 r11.1), (7, .int .i64 r12.1), (8, .int .i64 r13.1)]) (s := hp B [(w0, some ⟨138, 2, [[.fsl (encL rI_u8 r13.2.b), .int .i64 r13.2.p]]⟩), (N0, some ⟨40, 5, [[.int .i64 0, .int .i64 0, .int .i64 0, .int .i64 0, .int .i64 0]]⟩)] M12) rfl rfl fun a' ha => ?_
       clear e0 e1
       refine hK12 _ _ ?_; rw [ha]
       refine AWP_seqk [4] fun K13 hK13 => ?_
       obtain ⟨r14, hr14, H⟩ := bindE H
       refine AWP_regl tok [] ?_
       have e0 : ¬ w0 = N0 := by omega
       have e1 : ¬ N0 = w0 := by omega
       simp -dsimp -implicitDefEqProofs (maxDischargeDepth := 6) [e0, e1]
       refine (c145 hr14 (by simp [e0, e1])).mono ?_; rintro _ _ ⟨M13, hM13, rfl, rfl⟩; simp only [hp_next] at hM13; try simp -dsimp -implicitDefEqProofs (maxDischargeDepth := 6) [hp_over_one, e0, e1]
       refine keepE2 (l := [4]) (x := [(4, .ptr N0 0 0)]) (s := hp B [(w0, some ⟨138, 2, [[.fsl (encL rI_u8 r14.2.b), .int .i64 r14.2.p]]⟩), (N0, some ⟨40, 5, [[.int .i64 3, .int .i64 r11.1, .int .i64 r12.1, .int .i64 r13.1, .int .i64 r14.1]]⟩)] M13) rfl rfl fun a' ha => ?_
       clear e0 e1
       refine hK13 _ _ ?_; rw [ha]
       refine AWP_ret ?_
       replace H := Option.some.inj H; subst H
       have e0 : ¬ w0 = N0 := by omega
       have e1 : N0 ≤ N0 := by omega
       have e2 : ¬ N0 = w0 := by omega
       refine ⟨[.agg [.int .i64 3, .int .i64 r11.1, .int .i64 r12.1, .int .i64 r13.1, .int .i64 r14.1]], by simp [e0, e1, e2], fun o => decide (N0 ≤ o), _, ?_, ?_, cutE rfl ?_⟩
       ·
        omega
       ·
        simp [encL_nil, e0, e1, e2]
       ·
        intro o; exact cut_one hlt hfr (by simp; try omega)
      ·
       replace H := ifF C6 H
       refine AWP_seqk [0, 1, 4, 13, 52] fun K14 hK14 => ?_
       refine AWP_regl tok [] ?_
       have e0 : ¬ w0 = N0 := by omega
       have e1 : ¬ N0 = w0 := by omega
       simp -dsimp -implicitDefEqProofs (maxDischargeDepth := 6) [e0, e1]
       refine keepE2 (l := [0, 1, 4, 13, 52]) (x := [(0, .ptr w0 0 0), (1, .int .i64 p1), (4, .ptr N0 0 0), (13, .int .i64 r1.1), (52, .bool (ieq r1.1 7))]) (s := hp B [(w0, some ⟨138, 2, [[.fsl (encL rI_u8 r1.2.b), .int .i64 r1.2.p]]⟩), (N0, some ⟨40, 5, [[.int .i64 0, .int .i64 0, .int .i64 0, .int .i64 0, .int .i64 0]]⟩)] (M9 + 2)) rfl rfl fun a' ha => ?_
       clear e0 e1
       refine hK14 _ _ ?_; rw [ha]
       refine AWP_cond (ieq r1.1 7) rfl (fun C5 => ?_) (fun C5 => ?_)
       ·
        replace H := ifT C5 H
        refine AWP_seqk [4] fun K15 hK15 => ?_
        obtain ⟨r15, hr15, H⟩ := bindE H
        refine AWP_regl tok [] ?_
        have e0 : ¬ w0 = N0 := by omega
        have e1 : ¬ N0 = w0 := by omega
        simp -dsimp -implicitDefEqProofs (maxDischargeDepth := 6) [e0, e1]
        refine (c71 hr15 (by simp [e0, e1])).mono ?_; rintro _ _ ⟨M14, hM14, rfl, rfl⟩; simp only [hp_next] at hM14; try simp -dsimp -implicitDefEqProofs (maxDischargeDepth := 6) [hp_over_one, e0, e1]
        refine keepE2 (l := [4]) (x := [(4, .ptr N0 0 0)]) (s := hp B [(w0, some ⟨138, 2, [[.fsl (encL rI_u8 r15.2.b), .int .i64 r15.2.p]]⟩), (N0, some ⟨40, 5, [[.int .i64 4, .int .i64 0, .int .i64 0, .int .i64 0, .int .i64 r15.1]]⟩)] M14) rfl rfl fun a' ha => ?_
        clear e0 e1
        refine hK15 _ _ ?_; rw [ha]
        refine AWP_ret ?_
        replace H := Option.some.inj H; subst H
        have e0 : ¬ w0 = N0 := by omega
        have e1 : N0 ≤ N0 := by omega
        have e2 : ¬ N0 = w0 := by omega
        refine ⟨[.agg [.int .i64 4, .int .i64 0, .int .i64 0, .int .i64 0, .int .i64 r15.1]], by simp [e0, e1, e2], fun o => decide (N0 ≤ o), _, ?_, ?_, cutE rfl ?_⟩
        ·
         omega
        ·
         simp [encL_nil, e0, e1, e2]
        ·
         intro o; exact cut_one hlt hfr (by simp; try omega)
       ·
        replace H := ifF C5 H
        refine AWP_seqk [0, 1, 4, 13, 58] fun K16 hK16 => ?_
        refine AWP_regl tok [] ?_
        have e0 : ¬ w0 = N0 := by omega
        have e1 : ¬ N0 = w0 := by omega
        simp -dsimp -implicitDefEqProofs (maxDischargeDepth := 6) [e0, e1]
        refine keepE2 (l := [0, 1, 4, 13, 58]) (x := [(0, .ptr w0 0 0), (1, .int .i64 p1), (4, .ptr N0 0 0), (13, .int .i64 r1.1), (58, .bool (ieq r1.1 8))]) (s := hp B [(w0, some ⟨138, 2, [[.fsl (encL rI_u8 r1.2.b), .int .i64 r1.2.p]]⟩), (N0, some ⟨40, 5, [[.int .i64 0, .int .i64 0, .int .i64 0, .int .i64 0, .int .i64 0]]⟩)] (M9 + 4)) rfl rfl fun a' ha => ?_
        clear e0 e1
        refine hK16 _ _ ?_; rw [ha]
        refine AWP_cond (ieq r1.1 8) rfl (fun C4 => ?_) (fun C4 => ?_)
        ·
         replace H := ifT C4 H
         refine AWP_seqk [0, 1, 4, 9] fun K17 hK17 => ?_
         obtain ⟨r16, hr16, H⟩ := bindE H
         refine AWP_regl tok [] ?_
         have e0 : ¬ w0 = N0 := by omega
         have e1 : ¬ N0 = w0 := by omega
         simp -dsimp -implicitDefEqProofs (maxDischargeDepth := 6) [e0, e1]
         refine (c144 hr16 (by simp [e0, e1])).mono ?_; rintro _ _ ⟨M15, hM15, rfl, rfl⟩; simp only [hp_next] at hM15; try simp -dsimp -implicitDefEqProofs (maxDischargeDepth := 6) [hp_over_one, e0, e1]
         refine keepE2 (l := [0, 1, 4, 9]) (x := [(0, .ptr w0 0 0), (1, .int .i64 p1), (4, .ptr N0 0 0), (9, .int .i64 r16.1)]) (s := hp B [(w0, some ⟨138, 2, [[.fsl (encL rI_u8 r16.2.b), .int .i64 r16.2.p]]⟩), (N0, some ⟨40, 5, [[.int .i64 0, .int .i64 0, .int .i64 0, .int .i64 0, .int .i64 0]]⟩)] M15) rfl rfl fun a' ha => ?_
         clear e0 e1
         refine hK17 _ _ ?_; rw [ha]
         refine AWP_seqk [4] fun K18 hK18 => ?_
         obtain ⟨r17, hr17, H⟩ := bindE H
         refine AWP_regl tok [] ?_
         have e0 : ¬ w0 = N0 := by omega
         have e1 : ¬ N0 = w0 := by omega
         simp -dsimp -implicitDefEqProofs (maxDischargeDepth := 6) [e0, e1]
         refine (c71 hr17 (by simp [e0, e1])).mono ?_; rintro _ _ ⟨M16, hM16, rfl, rfl⟩; simp only [hp_next] at hM16; try simp -dsimp -implicitDefEqProofs (maxDischargeDepth := 6) [hp_over_one, e0, e1]
         refine keepE2 (l := [4]) (x := [(4, .ptr N0 0 0)]) (s := hp B [(w0, some ⟨138, 2, [[.fsl (encL rI_u8 r17.2.b), .int .i64 r17.2.p]]⟩), (N0, some ⟨40, 5, [[.int .i64 5, .int .i64 0, .int .i64 r16.1, .int .i64 0, .int .i64 r17.1]]⟩)] M16) rfl rfl fun a' ha => ?_
         clear e0 e1
         refine hK18 _ _ ?_; rw [ha]
         refine AWP_ret ?_
         replace H := Option.some.inj H; subst H
         have e0 : ¬ w0 = N0 := by omega
         have e1 : N0 ≤ N0 := by omega
         have e2 : ¬ N0 = w0 := by omega
         refine ⟨[.agg [.int .i64 5, .int .i64 0, .int .i64 r16.1, .int .i64 0, .int .i64 r17.1]], by simp [e0, e1, e2], fun o => decide (N0 ≤ o), _, ?_, ?_, cutE rfl ?_⟩
         ·
          omega
         ·
          simp [encL_nil, e0, e1, e2]
         ·
          intro o; exact cut_one hlt hfr (by simp; try omega)
        ·
         replace H := ifF C4 H
         refine AWP_seqk [0, 4, 13, 67] fun K19 hK19 => ?_
         refine AWP_regl tok [] ?_
         have e0 : ¬ w0 = N0 := by omega
         have e1 : ¬ N0 = w0 := by omega
         simp -dsimp -implicitDefEqProofs (maxDischargeDepth := 6) [e0, e1]
         refine keepE2 (l := [0, 4, 13, 67]) (x := [(0, .ptr w0 0 0), (4, .ptr N0 0 0), (13, .int .i64 r1.1), (67, .bool (ieq r1.1 9))]) (s := hp B [(w0, some ⟨138, 2, [[.fsl (encL rI_u8 r1.2.b), .int .i64 r1.2.p]]⟩), (N0, some ⟨40, 5, [[.int .i64 0, .int .i64 0, .int .i64 0, .int .i64 0, .int .i64 0]]⟩)] (M9 + 6)) rfl rfl fun a' ha => ?_
         clear e0 e1
         refine hK19 _ _ ?_; rw [ha]
         refine AWP_cond (ieq r1.1 9) rfl (fun C3 => ?_) (fun C3 => ?_)
         ·
          replace H := ifT C3 H
          refine AWP_seqk [0, 4, 10] fun K20 hK20 => ?_
          obtain ⟨r18, hr18, H⟩ := bindE H
          refine AWP_regl tok [] ?_
          have e0 : ¬ w0 = N0 := by omega
          have e1 : ¬ N0 = w0 := by omega
          simp -dsimp -implicitDefEqProofs (maxDischargeDepth := 6) [e0, e1]
          refine (c144 hr18 (by simp [e0, e1])).mono ?_; rintro _ _ ⟨M17, hM17, rfl, rfl⟩; simp only [hp_next] at hM17; try simp -dsimp -implicitDefEqProofs (maxDischargeDepth := 6) [hp_over_one, e0, e1]
          refine keepE2 (l := [0, 4, 10]) (x := [(0, .ptr w0 0 0), (4, .ptr N0 0 0), (10, .int .i64 r18.1)]) (s := hp B [(w0, some ⟨138, 2, [[.fsl (encL rI_u8 r18.2.b), .int .i64 r18.2.p]]⟩), (N0, some ⟨40, 5, [[.int .i64 0, .int .i64 0, .int .i64 0, .int .i64 0, .int .i64 0]]⟩)] M17) rfl rfl fun a' ha => ?_
          clear e0 e1
          refine hK20 _ _ ?_; rw [ha]
          refine AWP_seqk [4] fun K21 hK21 => ?_
          obtain ⟨r19, hr19, H⟩ := bindE H
          refine AWP_regl tok [] ?_
          have e0 : ¬ w0 = N0 := by omega
          have e1 : ¬ N0 = w0 := by omega
          simp -dsimp -implicitDefEqProofs (maxDischargeDepth := 6) [e0, e1]
          refine (c71 hr19 (by simp [e0, e1])).mono ?_; rintro _ _ ⟨M18, hM18, rfl, rfl⟩; simp only [hp_next] at hM18; try simp -dsimp -implicitDefEqProofs (maxDischargeDepth := 6) [hp_over_one, e0, e1]
          refine keepE2 (l := [4]) (x := [(4, .ptr N0 0 0)]) (s := hp B [(w0, some ⟨138, 2, [[.fsl (encL rI_u8 r19.2.b), .int .i64 r19.2.p]]⟩), (N0, some ⟨40, 5, [[.int .i64 6, .int .i64 0, .int .i64 r18.1, .int .i64 0, .int .i64 r19.1]]⟩)] M18) rfl rfl fun a' ha => ?_
          clear e0 e1
          refine hK21 _ _ ?_; rw [ha]
          refine AWP_ret ?_
          replace H := Option.some.inj H; subst H
          have e0 : ¬ w0 = N0 := by omega
          have e1 : N0 ≤ N0 := by omega
          have e2 : ¬ N0 = w0 := by omega
          refine ⟨[.agg [.int .i64 6, .int .i64 0, .int .i64 r18.1, .int .i64 0, .int .i64 r19.1]], by simp [e0, e1, e2], fun o => decide (N0 ≤ o), _, ?_, ?_, cutE rfl ?_⟩
          ·
           omega
          ·
           simp [encL_nil, e0, e1, e2]
          ·
           intro o; exact cut_one hlt hfr (by simp; try omega)
         ·
          replace H := ifF C3 H
          refine AWP_seqk [0, 4, 75] fun K22 hK22 => ?_
          refine AWP_regl tok [] ?_
          have e0 : ¬ w0 = N0 := by omega
          have e1 : ¬ N0 = w0 := by omega
          simp -dsimp -implicitDefEqProofs (maxDischargeDepth := 6) [e0, e1]
          refine keepE2 (l := [0, 4, 75]) (x := [(0, .ptr w0 0 0), (4, .ptr N0 0 0), (75, .bool (ieq r1.1 10))]) (s := hp B [(w0, some ⟨138, 2, [[.fsl (encL rI_u8 r1.2.b), .int .i64 r1.2.p]]⟩), (N0, some ⟨40, 5, [[.int .i64 0, .int .i64 0, .int .i64 0, .int .i64 0, .int .i64 0]]⟩)] (M9 + 8)) rfl rfl fun a' ha => ?_
          clear e0 e1
          refine hK22 _ _ ?_; rw [ha]
          refine AWP_cond (ieq r1.1 10) rfl (fun C2 => ?_) (fun C2 => ?_)
          ·
           replace H := ifT C2 H
           refine AWP_seqk [0, 4, 11] fun K23 hK23 => ?_
           obtain ⟨r20, hr20, H⟩ := bindE H
           refine AWP_regl tok [] ?_
           have e0 : ¬ w0 = N0 := by omega
           have e1 : ¬ N0 = w0 := by omega
           simp -dsimp -implicitDefEqProofs (maxDischargeDepth := 6) [e0, e1]
           refine (c144 hr20 (by simp [e0, e1])).mono ?_; rintro _ _ ⟨M19, hM19, rfl, rfl⟩; simp only [hp_next] at hM19; try simp -dsimp -implicitDefEqProofs (maxDischargeDepth := 6) [hp_over_one, e0, e1]
           refine keepE2 (l := [0, 4, 11]) (x := [(0, .ptr w0 0 0), (4, .ptr N0 0 0), (11, .int .i64 r20.1)]) (s := hp B [(w0, some ⟨138, 2, [[.fsl (encL rI_u8 r20.2.b), .int .i64 r20.2.p]]⟩), (N0, some ⟨40, 5, [[.int .i64 0, .int .i64 0, .int .i64 0, .int .i64 0, .int .i64 0]]⟩)] M19) rfl rfl fun a' ha => ?_
           clear e0 e1
           refine hK23 _ _ ?_; rw [ha]
           refine AWP_seqk [4] fun K24 hK24 => ?_
           obtain ⟨r21, hr21, H⟩ := bindE H
           refine AWP_regl tok [] ?_
           have e0 : ¬ w0 = N0 := by omega
           have e1 : ¬ N0 = w0 := by omega
           simp -dsimp -implicitDefEqProofs (maxDischargeDepth := 6) [e0, e1]
           refine (c71 hr21 (by simp [e0, e1])).mono ?_; rintro _ _ ⟨M20, hM20, rfl, rfl⟩; simp only [hp_next] at hM20; try simp -dsimp -implicitDefEqProofs (maxDischargeDepth := 6) [hp_over_one, e0, e1]
           refine keepE2 (l := [4]) (x := [(4, .ptr N0 0 0)]) (s := hp B [(w0, some ⟨138, 2, [[.fsl (encL rI_u8 r21.2.b), .int .i64 r21.2.p]]⟩), (N0, some ⟨40, 5, [[.int .i64 7, .int .i64 r20.1, .int .i64 0, .int .i64 0, .int .i64 r21.1]]⟩)] M20) rfl rfl fun a' ha => ?_
           clear e0 e1
           refine hK24 _ _ ?_; rw [ha]
           refine AWP_ret ?_
           replace H := Option.some.inj H; subst H
           have e0 : ¬ w0 = N0 := by omega
           have e1 : N0 ≤ N0 := by omega
           have e2 : ¬ N0 = w0 := by omega
           refine ⟨[.agg [.int .i64 7, .int .i64 r20.1, .int .i64 0, .int .i64 0, .int .i64 r21.1]], by simp [e0, e1, e2], fun o => decide (N0 ≤ o), _, ?_, ?_, cutE rfl ?_⟩
           ·
            omega
           ·
            simp [encL_nil, e0, e1, e2]
           ·
            intro o; exact cut_one hlt hfr (by simp; try omega)
          ·
           replace H := ifF C2 H
           refine AWP_skip ?_
           show K2 _ _
           refine keepE (l := [0, 4]) (x := [(0, .ptr w0 0 0), (4, .ptr N0 0 0)]) rfl fun a' ha => ?_
           refine hK2 _ _ ?_; rw [ha]
           refine AWP_seqk [0, 4] fun K25 hK25 => ?_
           refine AWP_seqk [0, 4, 85] fun K26 hK26 => ?_
           obtain ⟨r22, hr22, H⟩ := bindE H
           refine AWP_regl tok [] ?_
           have e0 : ¬ w0 = N0 := by omega
           have e1 : ¬ N0 = w0 := by omega
           simp -dsimp -implicitDefEqProofs (maxDischargeDepth := 6) [e0, e1]
           refine (c71 hr22 (by simp [e0, e1])).mono ?_; rintro _ _ ⟨M21, hM21, rfl, rfl⟩; simp only [hp_next] at hM21; try simp -dsimp -implicitDefEqProofs (maxDischargeDepth := 6) [hp_over_one, e0, e1]
           refine keepE2 (l := [0, 4, 85]) (x := [(0, .ptr w0 0 0), (4, .ptr N0 0 0), (85, .bool (ieq r22.1 0))]) (s := hp B [(w0, some ⟨138, 2, [[.fsl (encL rI_u8 r22.2.b), .int .i64 r22.2.p]]⟩), (N0, some ⟨40, 5, [[.int .i64 0, .int .i64 0, .int .i64 0, .int .i64 0, .int .i64 0]]⟩)] M21) rfl rfl fun a' ha => ?_
           clear e0 e1
           refine hK26 _ _ ?_; rw [ha]
           refine AWP_cond (ieq r22.1 0) rfl (fun C1 => ?_) (fun C1 => ?_)
           ·
            replace H := ifT C1 H
            refine AWP_seqk [4] fun K27 hK27 => ?_
            refine AWP_regl tok [] ?_
            have e0 : ¬ w0 = N0 := by omega
            have e1 : ¬ N0 = w0 := by omega
            simp -dsimp -implicitDefEqProofs (maxDischargeDepth := 6) [e0, e1]
            refine keepE2 (l := [4]) (x := [(4, .ptr N0 0 0)]) (s := hp B [(w0, some ⟨138, 2, [[.fsl (encL rI_u8 r22.2.b), .int .i64 r22.2.p]]⟩), (N0, some ⟨40, 5, [[.int .i64 8, .int .i64 0, .int .i64 0, .int .i64 0, .int .i64 0]]⟩)] (M21 + 2)) rfl rfl fun a' ha => ?_
            clear e0 e1
            refine hK27 _ _ ?_; rw [ha]
            refine AWP_ret ?_
            replace H := Option.some.inj H; subst H
            have e0 : ¬ w0 = N0 := by omega
            have e1 : N0 ≤ N0 := by omega
            have e2 : ¬ N0 = w0 := by omega
            refine ⟨[.agg [.int .i64 8, .int .i64 0, .int .i64 0, .int .i64 0, .int .i64 0]], by simp [e0, e1, e2], fun o => decide (N0 ≤ o), _, ?_, ?_, cutE rfl ?_⟩
            ·
             omega
            ·
             simp [encL_nil, e0, e1, e2]
            ·
             intro o; exact cut_one hlt hfr (by simp; try omega)
           ·
            replace H := ifF C1 H
            refine AWP_skip ?_
            show K25 _ _
            refine keepE (l := [0, 4]) (x := [(0, .ptr w0 0 0), (4, .ptr N0 0 0)]) rfl fun a' ha => ?_
            refine hK25 _ _ ?_; rw [ha]
            refine AWP_seqk [4] fun K28 hK28 => ?_
            obtain ⟨r23, hr23, H⟩ := bindE H
            refine AWP_regl tok [] ?_
            have e0 : ¬ w0 = N0 := by omega
            have e1 : ¬ N0 = w0 := by omega
            simp -dsimp -implicitDefEqProofs (maxDischargeDepth := 6) [e0, e1]
            refine (c144 hr23 (by simp [e0, e1])).mono ?_; rintro _ _ ⟨M22, hM22, rfl, rfl⟩; simp only [hp_next] at hM22; try simp -dsimp -implicitDefEqProofs (maxDischargeDepth := 6) [hp_over_one, e0, e1]
            refine keepE2 (l := [4]) (x := [(4, .ptr N0 0 0)]) (s := hp B [(w0, some ⟨138, 2, [[.fsl (encL rI_u8 r23.2.b), .int .i64 r23.2.p]]⟩), (N0, some ⟨40, 5, [[.int .i64 9, .int .i64 0, .int .i64 r23.1, .int .i64 0, .int .i64 0]]⟩)] M22) rfl rfl fun a' ha => ?_
            clear e0 e1
            refine hK28 _ _ ?_; rw [ha]
            refine AWP_ret ?_
            replace H := Option.some.inj H; subst H
            have e0 : ¬ w0 = N0 := by omega
            have e1 : N0 ≤ N0 := by omega
            have e2 : ¬ N0 = w0 := by omega
            refine ⟨[.agg [.int .i64 9, .int .i64 0, .int .i64 r23.1, .int .i64 0, .int .i64 0]], by simp [e0, e1, e2], fun o => decide (N0 ≤ o), _, ?_, ?_, cutE rfl ?_⟩
            ·
             omega
            ·
             simp [encL_nil, e0, e1, e2]
            ·
             intro o; exact cut_one hlt hfr (by simp; try omega)
     replace H := hj3
     refine AWP_seqk [0, 1, 4, 13, 36] fun K29 hK29 => ?_
     refine AWP_regl tok [] ?_
     have e0 : ¬ w0 = N0 := by omega
     have e1 : ¬ N0 = w0 := by omega
     simp -dsimp -implicitDefEqProofs (maxDischargeDepth := 6) [e0, e1]
     refine keepE2 (l := [0, 1, 4, 13, 36]) (x := [(0, .ptr w0 0 0), (1, .int .i64 p1), (4, .ptr N0 0 0), (13, .int .i64 r1.1), (36, .bool (ieq r1.1 4))]) (s := hp B [(w0, some ⟨138, 2, [[.fsl (encL rI_u8 r1.2.b), .int .i64 r1.2.p]]⟩), (N0, some ⟨40, 5, [[.int .i64 0, .int .i64 0, .int .i64 0, .int .i64 0, .int .i64 0]]⟩)] (M6 + 2)) rfl rfl fun a' ha => ?_
     clear e0 e1
     refine hK29 _ _ ?_; rw [ha]
     refine AWP_cond (ieq r1.1 4) rfl (fun C8 => ?_) (fun C8 => ?_)
     ·
      replace H := ifT C8 H
      refine AWP_skip ?_
      show K9 _ _
      refine keepE (l := [0, 1, 4, 13, 36]) (x := [(0, .ptr w0 0 0), (1, .int .i64 p1), (4, .ptr N0 0 0), (13, .int .i64 r1.1), (36, .bool (ieq r1.1 4))]) rfl fun a' ha => ?_
      replace H := Option.some.inj H
      subst H
      exact J1 _ _ (M6 + 2) (by omega) ha (AHeap.Sub.refl _)
     ·
      replace H := ifF C8 H
      refine AWP_seqk [0, 1, 4, 13, 36] fun K30 hK30 => ?_
      refine AWP_regl tok [] ?_
      have e0 : ¬ w0 = N0 := by omega
      have e1 : ¬ N0 = w0 := by omega
      simp -dsimp -implicitDefEqProofs (maxDischargeDepth := 6) [e0, e1]
      refine keepE2 (l := [0, 1, 4, 13, 36]) (x := [(0, .ptr w0 0 0), (1, .int .i64 p1), (4, .ptr N0 0 0), (13, .int .i64 r1.1), (36, .bool (ieq r1.1 5))]) (s := hp B [(w0, some ⟨138, 2, [[.fsl (encL rI_u8 r1.2.b), .int .i64 r1.2.p]]⟩), (N0, some ⟨40, 5, [[.int .i64 0, .int .i64 0, .int .i64 0, .int .i64 0, .int .i64 0]]⟩)] (M6 + 4)) rfl rfl fun a' ha => ?_
      clear e0 e1
      refine hK30 _ _ ?_; rw [ha]
      refine AWP_cond (ieq r1.1 5) rfl (fun C7 => ?_) (fun C7 => ?_)
      ·
       replace H := ifT C7 H
       refine AWP_skip ?_
       show K9 _ _
       refine keepE (l := [0, 1, 4, 13, 36]) (x := [(0, .ptr w0 0 0), (1, .int .i64 p1), (4, .ptr N0 0 0), (13, .int .i64 r1.1), (36, .bool (ieq r1.1 5))]) rfl fun a' ha => ?_
       replace H := Option.some.inj H
       subst H
       exact J1 _ _ (M6 + 4) (by omega) ha (AHeap.Sub.refl _)
      ·
       replace H := ifF C7 H
       refine AWP_regl tok [] ?_
       have e0 : ¬ w0 = N0 := by omega
       have e1 : ¬ N0 = w0 := by omega
       simp -dsimp -implicitDefEqProofs (maxDischargeDepth := 6) [e0, e1]
       refine keepE2 (l := [0, 1, 4, 13, 36]) (x := [(0, .ptr w0 0 0), (1, .int .i64 p1), (4, .ptr N0 0 0), (13, .int .i64 r1.1), (36, .bool (ieq r1.1 6))]) (s := hp B [(w0, some ⟨138, 2, [[.fsl (encL rI_u8 r1.2.b), .int .i64 r1.2.p]]⟩), (N0, some ⟨40, 5, [[.int .i64 0, .int .i64 0, .int .i64 0, .int .i64 0, .int .i64 0]]⟩)] (M6 + 6)) rfl rfl fun a' ha => ?_
       clear e0 e1
       replace H := Option.some.inj H
       subst H
       exact J1 _ _ (M6 + 6) (by omega) ha (AHeap.Sub.refl _)
   replace H := hj2
   refine AWP_seqk [0, 1, 4, 13, 27] fun K31 hK31 => ?_
   refine AWP_regl tok [] ?_
   have e0 : ¬ w0 = N0 := by omega
   have e1 : ¬ N0 = w0 := by omega
   simp -dsimp -implicitDefEqProofs (maxDischargeDepth := 6) [e0, e1]
   refine keepE2 (l := [0, 1, 4, 13, 27]) (x := [(0, .ptr w0 0 0), (1, .int .i64 p1), (4, .ptr N0 0 0), (13, .int .i64 r1.1), (27, .bool (ieq r1.1 2))]) (s := hp B [(w0, some ⟨138, 2, [[.fsl (encL rI_u8 r1.2.b), .int .i64 r1.2.p]]⟩), (N0, some ⟨40, 5, [[.int .i64 0, .int .i64 0, .int .i64 0, .int .i64 0, .int .i64 0]]⟩)] (M2 + 2)) rfl rfl fun a' ha => ?_
   clear e0 e1
   refine hK31 _ _ ?_; rw [ha]
   refine AWP_cond (ieq r1.1 2) rfl (fun C10 => ?_) (fun C10 => ?_)
   ·
    replace H := ifT C10 H
    refine AWP_skip ?_
    show K6 _ _
    refine keepE (l := [0, 1, 4, 13, 27]) (x := [(0, .ptr w0 0 0), (1, .int .i64 p1), (4, .ptr N0 0 0), (13, .int .i64 r1.1), (27, .bool (ieq r1.1 2))]) rfl fun a' ha => ?_
    replace H := Option.some.inj H
    subst H
    exact J2 _ _ (M2 + 2) (by omega) ha (AHeap.Sub.refl _)
   ·
    replace H := ifF C10 H
    refine AWP_regl tok [] ?_
    have e0 : ¬ w0 = N0 := by omega
    have e1 : ¬ N0 = w0 := by omega
    simp -dsimp -implicitDefEqProofs (maxDischargeDepth := 6) [e0, e1]
    refine keepE2 (l := [0, 1, 4, 13, 27]) (x := [(0, .ptr w0 0 0), (1, .int .i64 p1), (4, .ptr N0 0 0), (13, .int .i64 r1.1), (27, .bool (ieq r1.1 3))]) (s := hp B [(w0, some ⟨138, 2, [[.fsl (encL rI_u8 r1.2.b), .int .i64 r1.2.p]]⟩), (N0, some ⟨40, 5, [[.int .i64 0, .int .i64 0, .int .i64 0, .int .i64 0, .int .i64 0]]⟩)] (M2 + 4)) rfl rfl fun a' ha => ?_
    clear e0 e1
    replace H := Option.some.inj H
    subst H
    exact J2 _ _ (M2 + 4) (by omega) ha (AHeap.Sub.refl _)
 replace H := hj1
 refine AWP_seqk [0, 1, 4, 13, 14] fun K32 hK32 => ?_
 refine AWP_regl tok [] ?_
 have e0 : ¬ w0 = N0 := by omega
 have e1 : ¬ N0 = w0 := by omega
 simp -dsimp -implicitDefEqProofs (maxDischargeDepth := 6) [e0, e1]
 refine keepE2 (l := [0, 1, 4, 13, 14]) (x := [(0, .ptr w0 0 0), (1, .int .i64 p1), (4, .ptr N0 0 0), (13, .int .i64 r1.1), (14, .bool (ieq r1.1 0))]) (s := hp B [(w0, some ⟨138, 2, [[.fsl (encL rI_u8 r1.2.b), .int .i64 r1.2.p]]⟩), (N0, some ⟨40, 5, [[.int .i64 0, .int .i64 0, .int .i64 0, .int .i64 0, .int .i64 0]]⟩)] (M1 + 2)) rfl rfl fun a' ha => ?_
 clear e0 e1
 refine hK32 _ _ ?_; rw [ha]
 refine AWP_cond (ieq r1.1 0) rfl (fun C12 => ?_) (fun C12 => ?_)
 ·
  replace H := ifT C12 H
  refine AWP_skip ?_
  show K4 _ _
  refine keepE (l := [0, 1, 4, 13, 14]) (x := [(0, .ptr w0 0 0), (1, .int .i64 p1), (4, .ptr N0 0 0), (13, .int .i64 r1.1), (14, .bool (ieq r1.1 0))]) rfl fun a' ha => ?_
  replace H := Option.some.inj H
  subst H
  exact J3 _ _ (M1 + 2) (by omega) ha (AHeap.Sub.refl _)
 ·
  replace H := ifF C12 H
  refine AWP_regl tok [] ?_
  have e0 : ¬ w0 = N0 := by omega
  have e1 : ¬ N0 = w0 := by omega
  simp -dsimp -implicitDefEqProofs (maxDischargeDepth := 6) [e0, e1]
  refine keepE2 (l := [0, 1, 4, 13, 14]) (x := [(0, .ptr w0 0 0), (1, .int .i64 p1), (4, .ptr N0 0 0), (13, .int .i64 r1.1), (14, .bool (ieq r1.1 1))]) (s := hp B [(w0, some ⟨138, 2, [[.fsl (encL rI_u8 r1.2.b), .int .i64 r1.2.p]]⟩), (N0, some ⟨40, 5, [[.int .i64 0, .int .i64 0, .int .i64 0, .int .i64 0, .int .i64 0]]⟩)] (M1 + 4)) rfl rfl fun a' ha => ?_
  clear e0 e1
  replace H := Option.some.inj H
  subst H
  exact J3 _ _ (M1 + 4) (by omega) ha (AHeap.Sub.refl _)
end Go.Proofs.YtoklfbdcghgmlaaDoor
