/- The contracts of functions of the program, part 0: each computes what its mirror computes. No conditions. -/
import Derived.Test.YtoklfbdcghgmlaaDoorDH
import Derived.Test.YtoklfbdcghgmlaaDoorDM
set_option linter.unusedSimpArgs false
set_option linter.unusedVariables false
set_option maxRecDepth 20000
set_option maxHeartbeats 4000000
namespace Go.Proofs.YtoklfbdcghgmlaaDoor
open Go Go.Abs Go.RowKit

theorem c65 {p0 : Int} {p1 : Int} {p2 : Int} {r : Bool} (H : s_l6In p0 p1 p2 = some r) : APure Tryd.prog G 65 [.int .i64 p0, .int .i64 p1, .int .i64 p2] (.bool r) := by
 refine APure_thaw 4 (fun σ => ?_) (by simp)
 refine ACalls_fn tok Tryd.func65 (by kernel_rfl) rfl Tryd.ntmps65 Tryd.results65 rfl ?_
 simp only [argsA, Nat.reduceAdd]
 refine AWP_ids fun hfr => ?_
 obtain ⟨B, hB⟩ : ∃ B, B = σ.objs := ⟨_, rfl⟩
 obtain ⟨N0, hN0⟩ : ∃ N, N = σ.next := ⟨_, rfl⟩
 have hσ : σ = hp B [] N0 := by rw [hB, hN0]; rfl
 rw [← hN0, ← hB] at hfr ⊢
 rw [hσ]; clear hσ
 unfold s_l6In at H
 refine AWP_seqk [0, 1, 2] fun K1 hK1 => ?_
 refine AWP_regl tok [] ?_
 simp -dsimp -implicitDefEqProofs (maxDischargeDepth := 6)
 refine keepE2 (l := [0, 1, 2]) (x := [(0, .int .i64 p0), (1, .int .i64 p1), (2, .int .i64 p2)]) (s := hp B [] (N0 + 1)) rfl rfl fun a' ha => ?_
 refine hK1 _ _ ?_; rw [ha]
 refine AWP_seqk [6] fun K2 hK2 => ?_
 obtain ⟨g1, hg1, H⟩ := bindE H
 have J1 : ∀ a' σ', AAct.keep a' [6] = [(6, .bool g1)] → σ' = hp B [] (N0 + 10) → K2 a' σ' := by
  intro a' σ' ha hs; subst hs
  refine hK2 _ _ ?_; rw [ha]
  refine AWP_ret ?_
  replace H := Option.some.inj H; subst H
  refine ⟨[.bool g1], by simp, ?_, ?_⟩
  ·
   simp [encL_nil]
  ·
   intro o ho; exact lk_out (by simp; try omega)
 refine AWP_regl tok [] ?_
 simp -dsimp -implicitDefEqProofs (maxDischargeDepth := 6)
 cases hbg1 : ige p0 p1
 ·
  replace hg1 := ifF hbg1 hg1
  replace hg1 := Option.some.inj hg1; subst hg1
  try simp -dsimp -implicitDefEqProofs (maxDischargeDepth := 6) [hbg1]
  exact J1 _ _ rfl rfl
 ·
  replace hg1 := ifT hbg1 hg1
  replace hg1 := Option.some.inj hg1; subst hg1
  try simp -dsimp -implicitDefEqProofs (maxDischargeDepth := 6) [hbg1]
  exact J1 _ _ rfl rfl
theorem c75 {p0 : Int} {r : Bool} (H : s_WordValid p0 = some r) : APure Tryd.prog G 75 [.int .i64 p0] (.bool r) := by
 refine APure_thaw 4 (fun σ => ?_) (by simp)
 refine ACalls_fn tok Tryd.func75 (by kernel_rfl) rfl Tryd.ntmps75 Tryd.results75 rfl ?_
 simp only [argsA, Nat.reduceAdd]
 refine AWP_ids fun hfr => ?_
 obtain ⟨B, hB⟩ : ∃ B, B = σ.objs := ⟨_, rfl⟩
 obtain ⟨N0, hN0⟩ : ∃ N, N = σ.next := ⟨_, rfl⟩
 have hσ : σ = hp B [] N0 := by rw [hB, hN0]; rfl
 rw [← hN0, ← hB] at hfr ⊢
 rw [hσ]; clear hσ
 unfold s_WordValid at H
 refine AWP_seqk [0] fun K1 hK1 => ?_
 refine AWP_regl tok [] ?_
 simp -dsimp -implicitDefEqProofs (maxDischargeDepth := 6)
 refine keepE2 (l := [0]) (x := [(0, .int .i64 p0)]) (s := hp B [] (N0 + 1)) rfl rfl fun a' ha => ?_
 refine hK1 _ _ ?_; rw [ha]
 refine AWP_seqk [2] fun K2 hK2 => ?_
 obtain ⟨r1, hr1, H⟩ := bindE H
 refine AWP_regl tok [] ?_
 simp -dsimp -implicitDefEqProofs (maxDischargeDepth := 6)
 refine (c65 hr1).app ?_; try simp -dsimp -implicitDefEqProofs (maxDischargeDepth := 6)
 refine keepE2 (l := [2]) (x := [(2, .bool r1)]) (s := hp B [] (N0 + 4)) rfl rfl fun a' ha => ?_
 refine hK2 _ _ ?_; rw [ha]
 refine AWP_ret ?_
 replace H := Option.some.inj H; subst H
 refine ⟨[.bool r1], by simp, ?_, ?_⟩
 ·
  simp [encL_nil]
 ·
  intro o ho; exact lk_out (by simp; try omega)
theorem c142 {p0 : Int} {p1 : Bool} {r : Bool} (H : s_l21Reg p0 p1 = some r) : APure Tryd.prog G 142 [.int .i64 p0, .bool p1] (.bool r) := by
 refine APure_thaw 4 (fun σ => ?_) (by simp)
 refine ACalls_fn tok Tryd.func142 (by kernel_rfl) rfl Tryd.ntmps142 Tryd.results142 rfl ?_
 simp only [argsA, Nat.reduceAdd]
 refine AWP_ids fun hfr => ?_
 obtain ⟨B, hB⟩ : ∃ B, B = σ.objs := ⟨_, rfl⟩
 obtain ⟨N0, hN0⟩ : ∃ N, N = σ.next := ⟨_, rfl⟩
 have hσ : σ = hp B [] N0 := by rw [hB, hN0]; rfl
 rw [← hN0, ← hB] at hfr ⊢
 rw [hσ]; clear hσ
 unfold s_l21Reg at H
 refine AWP_seqk [0, 1] fun K1 hK1 => ?_
 refine AWP_regl tok [] ?_
 simp -dsimp -implicitDefEqProofs (maxDischargeDepth := 6)
 refine keepE2 (l := [0, 1]) (x := [(0, .int .i64 p0), (1, .bool p1)]) (s := hp B [] (N0 + 1)) rfl rfl fun a' ha => ?_
 refine hK1 _ _ ?_; rw [ha]
 refine AWP_seqk [0] fun K2 hK2 => ?_
 refine AWP_seqk [0, 5] fun K3 hK3 => ?_
 refine AWP_regl tok [] ?_
 simp -dsimp -implicitDefEqProofs (maxDischargeDepth := 6)
 refine keepE2 (l := [0, 5]) (x := [(0, .int .i64 p0), (5, .bool p1)]) (s := hp B [] (N0 + 2)) rfl rfl fun a' ha => ?_
 refine hK3 _ _ ?_; rw [ha]
 refine AWP_cond p1 rfl (fun C1 => ?_) (fun C1 => ?_)
 ·
  replace H := ifT C1 H
  refine AWP_seqk [4] fun K4 hK4 => ?_
  obtain ⟨r1, hr1, H⟩ := bindE H
  refine AWP_regl tok [] ?_
  simp -dsimp -implicitDefEqProofs (maxDischargeDepth := 6)
  refine (c65 hr1).app ?_; try simp -dsimp -implicitDefEqProofs (maxDischargeDepth := 6)
  refine keepE2 (l := [4]) (x := [(4, .bool r1)]) (s := hp B [] (N0 + 5)) rfl rfl fun a' ha => ?_
  refine hK4 _ _ ?_; rw [ha]
  refine AWP_ret ?_
  replace H := Option.some.inj H; subst H
  refine ⟨[.bool r1], by simp, ?_, ?_⟩
  ·
   simp [encL_nil]
  ·
   intro o ho; exact lk_out (by simp; try omega)
 ·
  replace H := ifF C1 H
  refine AWP_skip ?_
  show K2 _ _
  refine keepE (l := [0]) (x := [(0, .int .i64 p0)]) rfl fun a' ha => ?_
  refine hK2 _ _ ?_; rw [ha]
  refine AWP_seqk [4] fun K5 hK5 => ?_
  refine AWP_regl tok [] ?_
  simp -dsimp -implicitDefEqProofs (maxDischargeDepth := 6)
  refine keepE2 (l := [4]) (x := [(4, .bool (ieq p0 0))]) (s := hp B [] (N0 + 5)) rfl rfl fun a' ha => ?_
  refine hK5 _ _ ?_; rw [ha]
  refine AWP_ret ?_
  replace H := Option.some.inj H; subst H
  refine ⟨[.bool (ieq p0 0)], by simp, ?_, ?_⟩
  ·
   simp [encL_nil]
  ·
   intro o ho; exact lk_out (by simp; try omega)
theorem c103 {p0 : gQuad} {p1 : Bool} {p2 : Bool} {p3 : Bool} {r : Bool} (H : s_l21Regs p0 p1 p2 p3 = some r) : APure Tryd.prog G 103 [.agg [.int .i64 p0.Op, .int .i64 p0.Dst, .int .i64 p0.A, .int .i64 p0.B, .int .i64 p0.N], .bool p1, .bool p2, .bool p3] (.bool r) := by
 refine APure_thaw 4 (fun σ => ?_) (by simp)
 refine ACalls_fn tok Tryd.func103 (by kernel_rfl) rfl Tryd.ntmps103 Tryd.results103 rfl ?_
 simp only [argsA, Nat.reduceAdd]
 refine AWP_ids fun hfr => ?_
 obtain ⟨B, hB⟩ : ∃ B, B = σ.objs := ⟨_, rfl⟩
 obtain ⟨N0, hN0⟩ : ∃ N, N = σ.next := ⟨_, rfl⟩
 have hσ : σ = hp B [] N0 := by rw [hB, hN0]; rfl
 rw [← hN0, ← hB] at hfr ⊢
 rw [hσ]; clear hσ
 unfold s_l21Regs at H
 refine AWP_seqk [1, 2, 3, 4] fun K1 hK1 => ?_
 refine AWP_regl tok [0] ?_
 simp -dsimp -implicitDefEqProofs (maxDischargeDepth := 6)
 refine keepE2 (l := [1, 2, 3, 4]) (x := [(1, .bool p1), (2, .bool p2), (3, .bool p3), (4, .fptr [.int .i64 p0.Op, .int .i64 p0.Dst, .int .i64 p0.A, .int .i64 p0.B, .int .i64 p0.N] 0)]) (s := hp B [] (N0 + 2)) rfl rfl fun a' ha => ?_
 refine hK1 _ _ ?_; rw [ha]
 refine AWP_seqk [8] fun K2 hK2 => ?_
 obtain ⟨r1, hr1, H⟩ := bindE H
 obtain ⟨g3, hg3, H⟩ := bindE H
 obtain ⟨g5, hg5, H⟩ := bindE H
 have J1 : ∀ a' σ', AAct.keep a' [8] = [(8, .bool g5)] → σ' = hp B [] (N0 + 19) → K2 a' σ' := by
  intro a' σ' ha hs; subst hs
  refine hK2 _ _ ?_; rw [ha]
  refine AWP_ret ?_
  replace H := Option.some.inj H; subst H
  refine ⟨[.bool g5], by simp, ?_, ?_⟩
  ·
   simp [encL_nil]
  ·
   intro o ho; exact lk_out (by simp; try omega)
 refine AWP_regl tok [] ?_
 simp -dsimp -implicitDefEqProofs (maxDischargeDepth := 6)
 refine (c142 hr1).app ?_; try simp -dsimp -implicitDefEqProofs (maxDischargeDepth := 6)
 cases hbg3 : r1
 ·
  replace hg3 := ifF hbg3 hg3
  replace hg3 := Option.some.inj hg3; subst hg3
  try simp -dsimp -implicitDefEqProofs (maxDischargeDepth := 6) [hbg3]
  replace hg5 := ifF rfl hg5
  replace hg5 := Option.some.inj hg5; subst hg5
  try simp -dsimp -implicitDefEqProofs (maxDischargeDepth := 6) [hbg3]
  exact J1 _ _ rfl rfl
 ·
  replace hg3 := ifT hbg3 hg3
  obtain ⟨r2, hr2, hg3⟩ := bindE hg3
  replace hg3 := Option.some.inj hg3; subst hg3
  try simp -dsimp -implicitDefEqProofs (maxDischargeDepth := 6) [hbg3]
  refine (c142 hr2).app ?_; try simp -dsimp -implicitDefEqProofs (maxDischargeDepth := 6) [hbg3]
  cases hbg5 : r2
  ·
   replace hg5 := ifF hbg5 hg5
   replace hg5 := Option.some.inj hg5; subst hg5
   try simp -dsimp -implicitDefEqProofs (maxDischargeDepth := 6) [hbg3, hbg5]
   exact J1 _ _ rfl rfl
  ·
   replace hg5 := ifT hbg5 hg5
   obtain ⟨r4, hr4, hg5⟩ := bindE hg5
   replace hg5 := Option.some.inj hg5; subst hg5
   try simp -dsimp -implicitDefEqProofs (maxDischargeDepth := 6) [hbg3, hbg5]
   refine (c142 hr4).app ?_; try simp -dsimp -implicitDefEqProofs (maxDischargeDepth := 6) [hbg3, hbg5]
   exact J1 _ _ rfl rfl
theorem c104 {p0 : Int} {r : Bool} (H : s_OpValid p0 = some r) : APure Tryd.prog G 104 [.int .i64 p0] (.bool r) := by
 refine APure_thaw 4 (fun σ => ?_) (by simp)
 refine ACalls_fn tok Tryd.func104 (by kernel_rfl) rfl Tryd.ntmps104 Tryd.results104 rfl ?_
 simp only [argsA, Nat.reduceAdd]
 refine AWP_ids fun hfr => ?_
 obtain ⟨B, hB⟩ : ∃ B, B = σ.objs := ⟨_, rfl⟩
 obtain ⟨N0, hN0⟩ : ∃ N, N = σ.next := ⟨_, rfl⟩
 have hσ : σ = hp B [] N0 := by rw [hB, hN0]; rfl
 rw [← hN0, ← hB] at hfr ⊢
 rw [hσ]; clear hσ
 unfold s_OpValid at H
 refine AWP_seqk [0] fun K1 hK1 => ?_
 refine AWP_regl tok [] ?_
 simp -dsimp -implicitDefEqProofs (maxDischargeDepth := 6)
 refine keepE2 (l := [0]) (x := [(0, .int .i64 p0)]) (s := hp B [] (N0 + 1)) rfl rfl fun a' ha => ?_
 refine hK1 _ _ ?_; rw [ha]
 refine AWP_seqk [2] fun K2 hK2 => ?_
 obtain ⟨r1, hr1, H⟩ := bindE H
 refine AWP_regl tok [] ?_
 simp -dsimp -implicitDefEqProofs (maxDischargeDepth := 6)
 refine (c65 hr1).app ?_; try simp -dsimp -implicitDefEqProofs (maxDischargeDepth := 6)
 refine keepE2 (l := [2]) (x := [(2, .bool r1)]) (s := hp B [] (N0 + 4)) rfl rfl fun a' ha => ?_
 refine hK2 _ _ ?_; rw [ha]
 refine AWP_ret ?_
 replace H := Option.some.inj H; subst H
 refine ⟨[.bool r1], by simp, ?_, ?_⟩
 ·
  simp [encL_nil]
 ·
  intro o ho; exact lk_out (by simp; try omega)
theorem c64 {p0 : gQuad} {p1 : Int} {r : Bool} (H : s_QuadValid p0 p1 = some r) : APure Tryd.prog G 64 [.agg [.int .i64 p0.Op, .int .i64 p0.Dst, .int .i64 p0.A, .int .i64 p0.B, .int .i64 p0.N], .int .i64 p1] (.bool r) := by
 refine APure_thaw 4 (fun σ => ?_) (by simp)
 refine ACalls_fn tok Tryd.func64 (by kernel_rfl) rfl Tryd.ntmps64 Tryd.results64 rfl ?_
 simp only [argsA, Nat.reduceAdd]
 refine AWP_ids fun hfr => ?_
 obtain ⟨B, hB⟩ : ∃ B, B = σ.objs := ⟨_, rfl⟩
 obtain ⟨N0, hN0⟩ : ∃ N, N = σ.next := ⟨_, rfl⟩
 have hσ : σ = hp B [] N0 := by rw [hB, hN0]; rfl
 rw [← hN0, ← hB] at hfr ⊢
 rw [hσ]; clear hσ
 unfold s_QuadValid at H
 refine AWP_seqk [1, 2] fun K1 hK1 => ?_
 refine AWP_regl tok [0] ?_
 simp -dsimp -implicitDefEqProofs (maxDischargeDepth := 6)
 refine keepE2 (l := [1, 2]) (x := [(1, .int .i64 p1), (2, .fptr [.int .i64 p0.Op, .int .i64 p0.Dst, .int .i64 p0.A, .int .i64 p0.B, .int .i64 p0.N] 0)]) (s := hp B [] (N0 + 2)) rfl rfl fun a' ha => ?_
 refine hK1 _ _ ?_; rw [ha]
 refine AWP_seqk [] fun K2 hK2 => ?_
 refine AWP_seqk [1, 2, 6] fun K3 hK3 => ?_
 refine AWP_regl tok [] ?_
 simp -dsimp -implicitDefEqProofs (maxDischargeDepth := 6)
 refine keepE2 (l := [1, 2, 6]) (x := [(1, .int .i64 p1), (2, .fptr [.int .i64 p0.Op, .int .i64 p0.Dst, .int .i64 p0.A, .int .i64 p0.B, .int .i64 p0.N] 0), (6, .int .i64 p0.Op)]) (s := hp B [] (N0 + 4)) rfl rfl fun a' ha => ?_
 refine hK3 _ _ ?_; rw [ha]
 refine AWP_block ?_
 refine AWP_seqk [1, 2, 6, 7] fun K4 hK4 => ?_
 refine AWP_regl tok [] ?_
 simp -dsimp -implicitDefEqProofs (maxDischargeDepth := 6)
 refine keepE2 (l := [1, 2, 6, 7]) (x := [(1, .int .i64 p1), (2, .fptr [.int .i64 p0.Op, .int .i64 p0.Dst, .int .i64 p0.A, .int .i64 p0.B, .int .i64 p0.N] 0), (6, .int .i64 p0.Op), (7, .bool (ieq p0.Op 1))]) (s := hp B [] (N0 + 6)) rfl rfl fun a' ha => ?_
 refine hK4 _ _ ?_; rw [ha]
 refine AWP_cond (ieq p0.Op 1) rfl (fun C10 => ?_) (fun C10 => ?_)
 ·
  replace H := ifT C10 H
  refine AWP_seqk [4] fun K5 hK5 => ?_
  obtain ⟨r1, hr1, H⟩ := bindE H
  obtain ⟨g3, hg3, H⟩ := bindE H
  have J1 : ∀ a' σ', AAct.keep a' [4] = [(4, .bool g3)] → σ' = hp B [] (N0 + 14) → K5 a' σ' := by
   intro a' σ' ha hs; subst hs
   refine hK5 _ _ ?_; rw [ha]
   refine AWP_ret ?_
   replace H := Option.some.inj H; subst H
   refine ⟨[.bool g3], by simp, ?_, ?_⟩
   ·
    simp [encL_nil]
   ·
    intro o ho; exact lk_out (by simp; try omega)
  refine AWP_regl tok [] ?_
  simp -dsimp -implicitDefEqProofs (maxDischargeDepth := 6)
  refine (c103 hr1).app ?_; try simp -dsimp -implicitDefEqProofs (maxDischargeDepth := 6)
  cases hbg3 : r1
  ·
   replace hg3 := ifF hbg3 hg3
   replace hg3 := Option.some.inj hg3; subst hg3
   try simp -dsimp -implicitDefEqProofs (maxDischargeDepth := 6) [hbg3]
   exact J1 _ _ rfl rfl
  ·
   replace hg3 := ifT hbg3 hg3
   obtain ⟨r2, hr2, hg3⟩ := bindE hg3
   replace hg3 := Option.some.inj hg3; subst hg3
   try simp -dsimp -implicitDefEqProofs (maxDischargeDepth := 6) [hbg3]
   refine (c75 hr2).app ?_; try simp -dsimp -implicitDefEqProofs (maxDischargeDepth := 6) [hbg3]
   exact J1 _ _ rfl rfl
 ·
  replace H := ifF C10 H
  refine AWP_seqk [1, 2, 6, 16] fun K6 hK6 => ?_
  refine AWP_regl tok [] ?_
  simp -dsimp -implicitDefEqProofs (maxDischargeDepth := 6)
  refine keepE2 (l := [1, 2, 6, 16]) (x := [(1, .int .i64 p1), (2, .fptr [.int .i64 p0.Op, .int .i64 p0.Dst, .int .i64 p0.A, .int .i64 p0.B, .int .i64 p0.N] 0), (6, .int .i64 p0.Op), (16, .bool (ieq p0.Op 2))]) (s := hp B [] (N0 + 8)) rfl rfl fun a' ha => ?_
  refine hK6 _ _ ?_; rw [ha]
  refine AWP_cond (ieq p0.Op 2) rfl (fun C9 => ?_) (fun C9 => ?_)
  ·
   replace H := ifT C9 H
   refine AWP_seqk [4] fun K7 hK7 => ?_
   obtain ⟨r4, hr4, H⟩ := bindE H
   obtain ⟨g5, hg5, H⟩ := bindE H
   have J2 : ∀ a' σ', AAct.keep a' [4] = [(4, .bool g5)] → σ' = hp B [] (N0 + 16) → K7 a' σ' := by
    intro a' σ' ha hs; subst hs
    refine hK7 _ _ ?_; rw [ha]
    refine AWP_ret ?_
    replace H := Option.some.inj H; subst H
    refine ⟨[.bool g5], by simp, ?_, ?_⟩
    ·
     simp [encL_nil]
    ·
     intro o ho; exact lk_out (by simp; try omega)
   refine AWP_regl tok [] ?_
   simp -dsimp -implicitDefEqProofs (maxDischargeDepth := 6)
   refine (c103 hr4).app ?_; try simp -dsimp -implicitDefEqProofs (maxDischargeDepth := 6)
   cases hbg5 : r4
   ·
    replace hg5 := ifF hbg5 hg5
    replace hg5 := Option.some.inj hg5; subst hg5
    try simp -dsimp -implicitDefEqProofs (maxDischargeDepth := 6) [hbg5]
    exact J2 _ _ rfl rfl
   ·
    replace hg5 := ifT hbg5 hg5
    replace hg5 := Option.some.inj hg5; subst hg5
    try simp -dsimp -implicitDefEqProofs (maxDischargeDepth := 6) [hbg5]
    exact J2 _ _ rfl rfl
  ·
   replace H := ifF C9 H
   refine AWP_seqk [1, 2, 6, 25] fun K8 hK8 => ?_
   refine AWP_regl tok [] ?_
   simp -dsimp -implicitDefEqProofs (maxDischargeDepth := 6)
   refine keepE2 (l := [1, 2, 6, 25]) (x := [(1, .int .i64 p1), (2, .fptr [.int .i64 p0.Op, .int .i64 p0.Dst, .int .i64 p0.A, .int .i64 p0.B, .int .i64 p0.N] 0), (6, .int .i64 p0.Op), (25, .bool (ieq p0.Op 3))]) (s := hp B [] (N0 + 10)) rfl rfl fun a' ha => ?_
   refine hK8 _ _ ?_; rw [ha]
   refine AWP_cond (ieq p0.Op 3) rfl (fun C8 => ?_) (fun C8 => ?_)
   ·
    replace H := ifT C8 H
    refine AWP_seqk [4] fun K9 hK9 => ?_
    obtain ⟨r6, hr6, H⟩ := bindE H
    obtain ⟨g8, hg8, H⟩ := bindE H
    have J3 : ∀ a' σ', AAct.keep a' [4] = [(4, .bool g8)] → σ' = hp B [] (N0 + 18) → K9 a' σ' := by
     intro a' σ' ha hs; subst hs
     refine hK9 _ _ ?_; rw [ha]
     refine AWP_ret ?_
     replace H := Option.some.inj H; subst H
     refine ⟨[.bool g8], by simp, ?_, ?_⟩
     ·
      simp [encL_nil]
     ·
      intro o ho; exact lk_out (by simp; try omega)
    refine AWP_regl tok [] ?_
    simp -dsimp -implicitDefEqProofs (maxDischargeDepth := 6)
    refine (c103 hr6).app ?_; try simp -dsimp -implicitDefEqProofs (maxDischargeDepth := 6)
    cases hbg8 : r6
    ·
     replace hg8 := ifF hbg8 hg8
     replace hg8 := Option.some.inj hg8; subst hg8
     try simp -dsimp -implicitDefEqProofs (maxDischargeDepth := 6) [hbg8]
     exact J3 _ _ rfl rfl
    ·
     replace hg8 := ifT hbg8 hg8
     obtain ⟨r7, hr7, hg8⟩ := bindE hg8
     replace hg8 := Option.some.inj hg8; subst hg8
     try simp -dsimp -implicitDefEqProofs (maxDischargeDepth := 6) [hbg8]
     refine (c104 hr7).app ?_; try simp -dsimp -implicitDefEqProofs (maxDischargeDepth := 6) [hbg8]
     exact J3 _ _ rfl rfl
   ·
    replace H := ifF C8 H
    refine AWP_seqk [1, 2, 6, 34] fun K10 hK10 => ?_
    refine AWP_regl tok [] ?_
    simp -dsimp -implicitDefEqProofs (maxDischargeDepth := 6)
    refine keepE2 (l := [1, 2, 6, 34]) (x := [(1, .int .i64 p1), (2, .fptr [.int .i64 p0.Op, .int .i64 p0.Dst, .int .i64 p0.A, .int .i64 p0.B, .int .i64 p0.N] 0), (6, .int .i64 p0.Op), (34, .bool (ieq p0.Op 4))]) (s := hp B [] (N0 + 12)) rfl rfl fun a' ha => ?_
    refine hK10 _ _ ?_; rw [ha]
    refine AWP_cond (ieq p0.Op 4) rfl (fun C7 => ?_) (fun C7 => ?_)
    ·
     replace H := ifT C7 H
     refine AWP_seqk [4] fun K11 hK11 => ?_
     obtain ⟨r9, hr9, H⟩ := bindE H
     obtain ⟨g10, hg10, H⟩ := bindE H
     obtain ⟨g11, hg11, H⟩ := bindE H
     have J4 : ∀ a' σ', AAct.keep a' [4] = [(4, .bool g11)] → σ' = hp B [] (N0 + 26) → K11 a' σ' := by
      intro a' σ' ha hs; subst hs
      refine hK11 _ _ ?_; rw [ha]
      refine AWP_ret ?_
      replace H := Option.some.inj H; subst H
      refine ⟨[.bool g11], by simp, ?_, ?_⟩
      ·
       simp [encL_nil]
      ·
       intro o ho; exact lk_out (by simp; try omega)
     refine AWP_regl tok [] ?_
     simp -dsimp -implicitDefEqProofs (maxDischargeDepth := 6)
     refine (c103 hr9).app ?_; try simp -dsimp -implicitDefEqProofs (maxDischargeDepth := 6)
     cases hbg10 : r9
     ·
      replace hg10 := ifF hbg10 hg10
      replace hg10 := Option.some.inj hg10; subst hg10
      try simp -dsimp -implicitDefEqProofs (maxDischargeDepth := 6) [hbg10]
      replace hg11 := ifF rfl hg11
      replace hg11 := Option.some.inj hg11; subst hg11
      try simp -dsimp -implicitDefEqProofs (maxDischargeDepth := 6) [hbg10]
      exact J4 _ _ rfl rfl
     ·
      replace hg10 := ifT hbg10 hg10
      replace hg10 := Option.some.inj hg10; subst hg10
      try simp -dsimp -implicitDefEqProofs (maxDischargeDepth := 6) [hbg10]
      cases hbg11 : (ige p0.N 0)
      ·
       replace hg11 := ifF hbg11 hg11
       replace hg11 := Option.some.inj hg11; subst hg11
       try simp -dsimp -implicitDefEqProofs (maxDischargeDepth := 6) [hbg10, hbg11]
       exact J4 _ _ rfl rfl
      ·
       replace hg11 := ifT hbg11 hg11
       replace hg11 := Option.some.inj hg11; subst hg11
       try simp -dsimp -implicitDefEqProofs (maxDischargeDepth := 6) [hbg10, hbg11]
       exact J4 _ _ rfl rfl
    ·
     replace H := ifF C7 H
     refine AWP_seqk [1, 2, 6, 49] fun K12 hK12 => ?_
     refine AWP_regl tok [] ?_
     simp -dsimp -implicitDefEqProofs (maxDischargeDepth := 6)
     refine keepE2 (l := [1, 2, 6, 49]) (x := [(1, .int .i64 p1), (2, .fptr [.int .i64 p0.Op, .int .i64 p0.Dst, .int .i64 p0.A, .int .i64 p0.B, .int .i64 p0.N] 0), (6, .int .i64 p0.Op), (49, .bool (ieq p0.Op 5))]) (s := hp B [] (N0 + 14)) rfl rfl fun a' ha => ?_
     refine hK12 _ _ ?_; rw [ha]
     refine AWP_cond (ieq p0.Op 5) rfl (fun C6 => ?_) (fun C6 => ?_)
     ·
      replace H := ifT C6 H
      refine AWP_seqk [4] fun K13 hK13 => ?_
      obtain ⟨r12, hr12, H⟩ := bindE H
      obtain ⟨g13, hg13, H⟩ := bindE H
      obtain ⟨g14, hg14, H⟩ := bindE H
      have J5 : ∀ a' σ', AAct.keep a' [4] = [(4, .bool g14)] → σ' = hp B [] (N0 + 28) → K13 a' σ' := by
       intro a' σ' ha hs; subst hs
       refine hK13 _ _ ?_; rw [ha]
       refine AWP_ret ?_
       replace H := Option.some.inj H; subst H
       refine ⟨[.bool g14], by simp, ?_, ?_⟩
       ·
        simp [encL_nil]
       ·
        intro o ho; exact lk_out (by simp; try omega)
      refine AWP_regl tok [] ?_
      simp -dsimp -implicitDefEqProofs (maxDischargeDepth := 6)
      refine (c103 hr12).app ?_; try simp -dsimp -implicitDefEqProofs (maxDischargeDepth := 6)
      cases hbg13 : r12
      ·
       replace hg13 := ifF hbg13 hg13
       replace hg13 := Option.some.inj hg13; subst hg13
       try simp -dsimp -implicitDefEqProofs (maxDischargeDepth := 6) [hbg13]
       replace hg14 := ifF rfl hg14
       replace hg14 := Option.some.inj hg14; subst hg14
       try simp -dsimp -implicitDefEqProofs (maxDischargeDepth := 6) [hbg13]
       exact J5 _ _ rfl rfl
      ·
       replace hg13 := ifT hbg13 hg13
       replace hg13 := Option.some.inj hg13; subst hg13
       try simp -dsimp -implicitDefEqProofs (maxDischargeDepth := 6) [hbg13]
       cases hbg14 : (ige p0.N 0)
       ·
        replace hg14 := ifF hbg14 hg14
        replace hg14 := Option.some.inj hg14; subst hg14
        try simp -dsimp -implicitDefEqProofs (maxDischargeDepth := 6) [hbg13, hbg14]
        exact J5 _ _ rfl rfl
       ·
        replace hg14 := ifT hbg14 hg14
        replace hg14 := Option.some.inj hg14; subst hg14
        try simp -dsimp -implicitDefEqProofs (maxDischargeDepth := 6) [hbg13, hbg14]
        exact J5 _ _ rfl rfl
     ·
      replace H := ifF C6 H
      refine AWP_seqk [2, 6, 64] fun K14 hK14 => ?_
      refine AWP_regl tok [] ?_
      simp -dsimp -implicitDefEqProofs (maxDischargeDepth := 6)
      refine keepE2 (l := [2, 6, 64]) (x := [(2, .fptr [.int .i64 p0.Op, .int .i64 p0.Dst, .int .i64 p0.A, .int .i64 p0.B, .int .i64 p0.N] 0), (6, .int .i64 p0.Op), (64, .bool (ieq p0.Op 6))]) (s := hp B [] (N0 + 16)) rfl rfl fun a' ha => ?_
      refine hK14 _ _ ?_; rw [ha]
      refine AWP_cond (ieq p0.Op 6) rfl (fun C5 => ?_) (fun C5 => ?_)
      ·
       replace H := ifT C5 H
       refine AWP_seqk [4] fun K15 hK15 => ?_
       obtain ⟨r15, hr15, H⟩ := bindE H
       obtain ⟨g17, hg17, H⟩ := bindE H
       have J6 : ∀ a' σ', AAct.keep a' [4] = [(4, .bool g17)] → σ' = hp B [] (N0 + 24) → K15 a' σ' := by
        intro a' σ' ha hs; subst hs
        refine hK15 _ _ ?_; rw [ha]
        refine AWP_ret ?_
        replace H := Option.some.inj H; subst H
        refine ⟨[.bool g17], by simp, ?_, ?_⟩
        ·
         simp [encL_nil]
        ·
         intro o ho; exact lk_out (by simp; try omega)
       refine AWP_regl tok [] ?_
       simp -dsimp -implicitDefEqProofs (maxDischargeDepth := 6)
       refine (c103 hr15).app ?_; try simp -dsimp -implicitDefEqProofs (maxDischargeDepth := 6)
       cases hbg17 : r15
       ·
        replace hg17 := ifF hbg17 hg17
        replace hg17 := Option.some.inj hg17; subst hg17
        try simp -dsimp -implicitDefEqProofs (maxDischargeDepth := 6) [hbg17]
        exact J6 _ _ rfl rfl
       ·
        replace hg17 := ifT hbg17 hg17
        obtain ⟨r16, hr16, hg17⟩ := bindE hg17
        replace hg17 := Option.some.inj hg17; subst hg17
        try simp -dsimp -implicitDefEqProofs (maxDischargeDepth := 6) [hbg17]
        refine (c65 hr16).app ?_; try simp -dsimp -implicitDefEqProofs (maxDischargeDepth := 6) [hbg17]
        exact J6 _ _ rfl rfl
      ·
       replace H := ifF C5 H
       refine AWP_seqk [2, 6, 73] fun K16 hK16 => ?_
       refine AWP_regl tok [] ?_
       simp -dsimp -implicitDefEqProofs (maxDischargeDepth := 6)
       refine keepE2 (l := [2, 6, 73]) (x := [(2, .fptr [.int .i64 p0.Op, .int .i64 p0.Dst, .int .i64 p0.A, .int .i64 p0.B, .int .i64 p0.N] 0), (6, .int .i64 p0.Op), (73, .bool (ieq p0.Op 7))]) (s := hp B [] (N0 + 18)) rfl rfl fun a' ha => ?_
       refine hK16 _ _ ?_; rw [ha]
       refine AWP_cond (ieq p0.Op 7) rfl (fun C4 => ?_) (fun C4 => ?_)
       ·
        replace H := ifT C4 H
        refine AWP_seqk [4] fun K17 hK17 => ?_
        obtain ⟨r18, hr18, H⟩ := bindE H
        obtain ⟨g20, hg20, H⟩ := bindE H
        have J7 : ∀ a' σ', AAct.keep a' [4] = [(4, .bool g20)] → σ' = hp B [] (N0 + 26) → K17 a' σ' := by
         intro a' σ' ha hs; subst hs
         refine hK17 _ _ ?_; rw [ha]
         refine AWP_ret ?_
         replace H := Option.some.inj H; subst H
         refine ⟨[.bool g20], by simp, ?_, ?_⟩
         ·
          simp [encL_nil]
         ·
          intro o ho; exact lk_out (by simp; try omega)
        refine AWP_regl tok [] ?_
        simp -dsimp -implicitDefEqProofs (maxDischargeDepth := 6)
        refine (c103 hr18).app ?_; try simp -dsimp -implicitDefEqProofs (maxDischargeDepth := 6)
        cases hbg20 : r18
        ·
         replace hg20 := ifF hbg20 hg20
         replace hg20 := Option.some.inj hg20; subst hg20
         try simp -dsimp -implicitDefEqProofs (maxDischargeDepth := 6) [hbg20]
         exact J7 _ _ rfl rfl
        ·
         replace hg20 := ifT hbg20 hg20
         obtain ⟨r19, hr19, hg20⟩ := bindE hg20
         replace hg20 := Option.some.inj hg20; subst hg20
         try simp -dsimp -implicitDefEqProofs (maxDischargeDepth := 6) [hbg20]
         refine (c65 hr19).app ?_; try simp -dsimp -implicitDefEqProofs (maxDischargeDepth := 6) [hbg20]
         exact J7 _ _ rfl rfl
       ·
        replace H := ifF C4 H
        refine AWP_seqk [2, 6, 82] fun K18 hK18 => ?_
        refine AWP_regl tok [] ?_
        simp -dsimp -implicitDefEqProofs (maxDischargeDepth := 6)
        refine keepE2 (l := [2, 6, 82]) (x := [(2, .fptr [.int .i64 p0.Op, .int .i64 p0.Dst, .int .i64 p0.A, .int .i64 p0.B, .int .i64 p0.N] 0), (6, .int .i64 p0.Op), (82, .bool (ieq p0.Op 9))]) (s := hp B [] (N0 + 20)) rfl rfl fun a' ha => ?_
        refine hK18 _ _ ?_; rw [ha]
        refine AWP_cond (ieq p0.Op 9) rfl (fun C3 => ?_) (fun C3 => ?_)
        ·
         replace H := ifT C3 H
         refine AWP_seqk [4] fun K19 hK19 => ?_
         obtain ⟨r21, hr21, H⟩ := bindE H
         obtain ⟨g22, hg22, H⟩ := bindE H
         have J8 : ∀ a' σ', AAct.keep a' [4] = [(4, .bool g22)] → σ' = hp B [] (N0 + 28) → K19 a' σ' := by
          intro a' σ' ha hs; subst hs
          refine hK19 _ _ ?_; rw [ha]
          refine AWP_ret ?_
          replace H := Option.some.inj H; subst H
          refine ⟨[.bool g22], by simp, ?_, ?_⟩
          ·
           simp [encL_nil]
          ·
           intro o ho; exact lk_out (by simp; try omega)
         refine AWP_regl tok [] ?_
         simp -dsimp -implicitDefEqProofs (maxDischargeDepth := 6)
         refine (c103 hr21).app ?_; try simp -dsimp -implicitDefEqProofs (maxDischargeDepth := 6)
         cases hbg22 : r21
         ·
          replace hg22 := ifF hbg22 hg22
          replace hg22 := Option.some.inj hg22; subst hg22
          try simp -dsimp -implicitDefEqProofs (maxDischargeDepth := 6) [hbg22]
          exact J8 _ _ rfl rfl
         ·
          replace hg22 := ifT hbg22 hg22
          replace hg22 := Option.some.inj hg22; subst hg22
          try simp -dsimp -implicitDefEqProofs (maxDischargeDepth := 6) [hbg22]
          exact J8 _ _ rfl rfl
        ·
         replace H := ifF C3 H
         refine AWP_seqk [2, 91] fun K20 hK20 => ?_
         obtain ⟨j1, hj1, H⟩ := bindE H
         have J10 : ∀ a' σ' M1, N0 + 20 ≤ M1 → AAct.keep a' [2, 91] = [(2, .fptr [.int .i64 p0.Op, .int .i64 p0.Dst, .int .i64 p0.A, .int .i64 p0.B, .int .i64 p0.N] 0), (91, .bool j1)] → AHeap.Sub (hp B [] M1) σ' → K20 a' σ' := by
          intro a' σ' M1 hM1_0 ha hsub
          refine hK20 _ _ ?_; rw [ha]; refine AWP_sub hsub ?_
          refine AWP_cond j1 rfl (fun C1 => ?_) (fun C1 => ?_)
          ·
           replace H := ifT C1 H
           refine AWP_seqk [4] fun K21 hK21 => ?_
           obtain ⟨r24, hr24, H⟩ := bindE H
           obtain ⟨g25, hg25, H⟩ := bindE H
           have J9 : ∀ a' σ', AAct.keep a' [4] = [(4, .bool g25)] → σ' = hp B [] (M1 + 8) → K21 a' σ' := by
            intro a' σ' ha hs; subst hs
            refine hK21 _ _ ?_; rw [ha]
            refine AWP_ret ?_
            replace H := Option.some.inj H; subst H
            refine ⟨[.bool g25], by simp, ?_, ?_⟩
            ·
             simp [encL_nil]
            ·
             intro o ho; exact lk_out (by simp; try omega)
           refine AWP_regl tok [] ?_
           simp -dsimp -implicitDefEqProofs (maxDischargeDepth := 6)
           refine (c103 hr24).app ?_; try simp -dsimp -implicitDefEqProofs (maxDischargeDepth := 6)
           cases hbg25 : r24
           ·
            replace hg25 := ifF hbg25 hg25
            replace hg25 := Option.some.inj hg25; subst hg25
            try simp -dsimp -implicitDefEqProofs (maxDischargeDepth := 6) [hbg25]
            exact J9 _ _ rfl rfl
           ·
            replace hg25 := ifT hbg25 hg25
            replace hg25 := Option.some.inj hg25; subst hg25
            try simp -dsimp -implicitDefEqProofs (maxDischargeDepth := 6) [hbg25]
            exact J9 _ _ rfl rfl
          ·
           replace H := ifF C1 H
           refine AWP_skip ?_
           show K2 _ _
           refine keepE (l := []) (x := []) rfl fun a' ha => ?_
           refine hK2 _ _ ?_; rw [ha]
           refine AWP_seqk [4] fun K22 hK22 => ?_
           refine AWP_regl tok [] ?_
           simp -dsimp -implicitDefEqProofs (maxDischargeDepth := 6)
           refine keepE2 (l := [4]) (x := [(4, .bool false)]) (s := hp B [] (M1 + 1)) rfl rfl fun a' ha => ?_
           refine hK22 _ _ ?_; rw [ha]
           refine AWP_ret ?_
           replace H := Option.some.inj H; subst H
           refine ⟨[.bool false], by simp, ?_, ?_⟩
           ·
            simp [encL_nil]
           ·
            intro o ho; exact lk_out (by simp; try omega)
         replace H := hj1
         refine AWP_seqk [2, 6, 91] fun K23 hK23 => ?_
         refine AWP_regl tok [] ?_
         simp -dsimp -implicitDefEqProofs (maxDischargeDepth := 6)
         refine keepE2 (l := [2, 6, 91]) (x := [(2, .fptr [.int .i64 p0.Op, .int .i64 p0.Dst, .int .i64 p0.A, .int .i64 p0.B, .int .i64 p0.N] 0), (6, .int .i64 p0.Op), (91, .bool (ieq p0.Op 8))]) (s := hp B [] (N0 + 22)) rfl rfl fun a' ha => ?_
         refine hK23 _ _ ?_; rw [ha]
         refine AWP_cond (ieq p0.Op 8) rfl (fun C2 => ?_) (fun C2 => ?_)
         ·
          replace H := ifT C2 H
          refine AWP_skip ?_
          show K20 _ _
          refine keepE (l := [2, 91]) (x := [(2, .fptr [.int .i64 p0.Op, .int .i64 p0.Dst, .int .i64 p0.A, .int .i64 p0.B, .int .i64 p0.N] 0), (91, .bool (ieq p0.Op 8))]) rfl fun a' ha => ?_
          replace H := Option.some.inj H
          subst H
          exact J10 _ _ (N0 + 22) (by omega) ha (AHeap.Sub.refl _)
         ·
          replace H := ifF C2 H
          refine AWP_regl tok [] ?_
          simp -dsimp -implicitDefEqProofs (maxDischargeDepth := 6)
          refine keepE2 (l := [2, 91]) (x := [(2, .fptr [.int .i64 p0.Op, .int .i64 p0.Dst, .int .i64 p0.A, .int .i64 p0.B, .int .i64 p0.N] 0), (91, .bool (ieq p0.Op 10))]) (s := hp B [] (N0 + 24)) rfl rfl fun a' ha => ?_
          replace H := Option.some.inj H
          subst H
          exact J10 _ _ (N0 + 24) (by omega) ha (AHeap.Sub.refl _)
theorem c102 {p0 : Int} {r : Int} (H : s_Wrap p0 = some r) : APure Tryd.prog G 102 [.int .i64 p0] (.int .i64 r) := by
 refine APure_thaw 4 (fun σ => ?_) (by simp)
 refine ACalls_fn tok Tryd.func102 (by kernel_rfl) rfl Tryd.ntmps102 Tryd.results102 rfl ?_
 simp only [argsA, Nat.reduceAdd]
 refine AWP_ids fun hfr => ?_
 obtain ⟨B, hB⟩ : ∃ B, B = σ.objs := ⟨_, rfl⟩
 obtain ⟨N0, hN0⟩ : ∃ N, N = σ.next := ⟨_, rfl⟩
 have hσ : σ = hp B [] N0 := by rw [hB, hN0]; rfl
 rw [← hN0, ← hB] at hfr ⊢
 rw [hσ]; clear hσ
 unfold s_Wrap at H
 refine AWP_seqk [0] fun K1 hK1 => ?_
 refine AWP_regl tok [] ?_
 simp -dsimp -implicitDefEqProofs (maxDischargeDepth := 6)
 refine keepE2 (l := [0]) (x := [(0, .int .i64 p0)]) (s := hp B [] (N0 + 1)) rfl rfl fun a' ha => ?_
 refine hK1 _ _ ?_; rw [ha]
 refine AWP_seqk [3] fun K2 hK2 => ?_
 obtain ⟨v1, hv1, H⟩ := bindE H
 refine AWP_regl tok [] ?_
 simp -dsimp -implicitDefEqProofs (maxDischargeDepth := 6) [hv1]
 refine keepE2 (l := [3]) (x := [(3, .int .i64 v1)]) (s := hp B [] (N0 + 4)) rfl rfl fun a' ha => ?_
 refine hK2 _ _ ?_; rw [ha]
 refine AWP_seqk [3] fun K3 hK3 => ?_
 refine AWP_seqk [3, 7] fun K4 hK4 => ?_
 refine AWP_regl tok [] ?_
 simp -dsimp -implicitDefEqProofs (maxDischargeDepth := 6)
 refine keepE2 (l := [3, 7]) (x := [(3, .int .i64 v1), (7, .bool (igt v1 2147483647))]) (s := hp B [] (N0 + 6)) rfl rfl fun a' ha => ?_
 refine hK4 _ _ ?_; rw [ha]
 refine AWP_cond (igt v1 2147483647) rfl (fun C2 => ?_) (fun C2 => ?_)
 ·
  replace H := ifT C2 H
  refine AWP_seqk [2] fun K5 hK5 => ?_
  refine AWP_regl tok [] ?_
  simp -dsimp -implicitDefEqProofs (maxDischargeDepth := 6)
  refine keepE2 (l := [2]) (x := [(2, .int .i64 (isub .i64 v1 4294967296))]) (s := hp B [] (N0 + 9)) rfl rfl fun a' ha => ?_
  refine hK5 _ _ ?_; rw [ha]
  refine AWP_ret ?_
  replace H := Option.some.inj H; subst H
  refine ⟨[.int .i64 (isub .i64 v1 4294967296)], by simp, ?_, ?_⟩
  ·
   simp [encL_nil]
  ·
   intro o ho; exact lk_out (by simp; try omega)
 ·
  replace H := ifF C2 H
  refine AWP_skip ?_
  show K3 _ _
  refine keepE (l := [3]) (x := [(3, .int .i64 v1)]) rfl fun a' ha => ?_
  refine hK3 _ _ ?_; rw [ha]
  refine AWP_seqk [3] fun K6 hK6 => ?_
  refine AWP_seqk [3, 11] fun K7 hK7 => ?_
  refine AWP_regl tok [] ?_
  simp -dsimp -implicitDefEqProofs (maxDischargeDepth := 6)
  refine keepE2 (l := [3, 11]) (x := [(3, .int .i64 v1), (11, .bool (ilt v1 (-2147483648)))]) (s := hp B [] (N0 + 8)) rfl rfl fun a' ha => ?_
  refine hK7 _ _ ?_; rw [ha]
  refine AWP_cond (ilt v1 (-2147483648)) rfl (fun C1 => ?_) (fun C1 => ?_)
  ·
   replace H := ifT C1 H
   refine AWP_seqk [2] fun K8 hK8 => ?_
   refine AWP_regl tok [] ?_
   simp -dsimp -implicitDefEqProofs (maxDischargeDepth := 6)
   refine keepE2 (l := [2]) (x := [(2, .int .i64 (iadd .i64 v1 4294967296))]) (s := hp B [] (N0 + 11)) rfl rfl fun a' ha => ?_
   refine hK8 _ _ ?_; rw [ha]
   refine AWP_ret ?_
   replace H := Option.some.inj H; subst H
   refine ⟨[.int .i64 (iadd .i64 v1 4294967296)], by simp, ?_, ?_⟩
   ·
    simp [encL_nil]
   ·
    intro o ho; exact lk_out (by simp; try omega)
  ·
   replace H := ifF C1 H
   refine AWP_skip ?_
   show K6 _ _
   refine keepE (l := [3]) (x := [(3, .int .i64 v1)]) rfl fun a' ha => ?_
   refine hK6 _ _ ?_; rw [ha]
   refine AWP_seqk [2] fun K9 hK9 => ?_
   refine AWP_regl tok [] ?_
   simp -dsimp -implicitDefEqProofs (maxDischargeDepth := 6)
   refine keepE2 (l := [2]) (x := [(2, .int .i64 v1)]) (s := hp B [] (N0 + 10)) rfl rfl fun a' ha => ?_
   refine hK9 _ _ ?_; rw [ha]
   refine AWP_ret ?_
   replace H := Option.some.inj H; subst H
   refine ⟨[.int .i64 v1], by simp, ?_, ?_⟩
   ·
    simp [encL_nil]
   ·
    intro o ho; exact lk_out (by simp; try omega)
theorem c147 {p0 : Int} {r : Int} (H : s_l1Power p0 = some r) : APure Tryd.prog G 147 [.int .i64 p0] (.int .i64 r) := by
 refine APure_thaw 4 (fun σ => ?_) (by simp)
 refine ACalls_fn tok Tryd.func147 (by kernel_rfl) rfl Tryd.ntmps147 Tryd.results147 rfl ?_
 simp only [argsA, Nat.reduceAdd]
 refine AWP_ids fun hfr => ?_
 obtain ⟨B, hB⟩ : ∃ B, B = σ.objs := ⟨_, rfl⟩
 obtain ⟨N0, hN0⟩ : ∃ N, N = σ.next := ⟨_, rfl⟩
 have hσ : σ = hp B [] N0 := by rw [hB, hN0]; rfl
 rw [← hN0, ← hB] at hfr ⊢
 rw [hσ]; clear hσ
 unfold s_l1Power at H
 refine AWP_seqk [0] fun K1 hK1 => ?_
 refine AWP_regl tok [] ?_
 simp -dsimp -implicitDefEqProofs (maxDischargeDepth := 6)
 refine keepE2 (l := [0]) (x := [(0, .int .i64 p0)]) (s := hp B [] (N0 + 1)) rfl rfl fun a' ha => ?_
 refine hK1 _ _ ?_; rw [ha]
 refine AWP_seqk [0, 3] fun K2 hK2 => ?_
 refine AWP_regl tok [] ?_
 simp -dsimp -implicitDefEqProofs (maxDischargeDepth := 6)
 refine keepE2 (l := [0, 3]) (x := [(0, .int .i64 p0), (3, .int .i64 1)]) (s := hp B [] (N0 + 2)) rfl rfl fun a' ha => ?_
 refine hK2 _ _ ?_; rw [ha]
 refine AWP_seqk [3] fun K3 hK3 => ?_
 refine AWP_seqk [0, 3, 4] fun K4 hK4 => ?_
 refine AWP_regl tok [] ?_
 simp -dsimp -implicitDefEqProofs (maxDischargeDepth := 6)
 refine keepE2 (l := [0, 3, 4]) (x := [(0, .int .i64 p0), (3, .int .i64 1), (4, .int .i64 0)]) (s := hp B [] (N0 + 3)) rfl rfl fun a' ha => ?_
 refine hK4 _ _ ?_; rw [ha]
 refine AWP_block ?_
 obtain ⟨e1, hse1, H⟩ := bindE H
 refine AWP_loopM [0, 3, 4] (fun s a σ => ∃ M1 : Nat, N0 ≤ M1 ∧ a = [(0, .int .i64 p0), (3, .int .i64 s.1), (4, .int .i64 s.2)] ∧ σ = hp B [] M1) (fun s x a σ => x = .exit 0 ∧ ∃ M2 : Nat, N0 ≤ M2 ∧ a.keep [3] = [(3, .int .i64 s)] ∧ σ = hp B [] M2) hse1 ?_ ?_ ?_
 ·
  exact ⟨_, AHeap.Sub.refl _, ⟨N0 + 3, by omega, rfl, rfl⟩⟩
 ·
  clear H hse1
  rintro ⟨s1, s2⟩ fl a σ H ⟨M1, hM1_0, rfl, rfl⟩
  unfold s_l1Power_L1 at H; dsimp only at H
  refine AWP_named fun K5 hK5 => ?_
  refine AWP_seqk [0, 3, 4] fun K6 hK6 => ?_
  refine AWP_seqk [0, 3, 4, 7] fun K7 hK7 => ?_
  refine AWP_regl tok [] ?_
  simp -dsimp -implicitDefEqProofs (maxDischargeDepth := 6)
  refine keepE2 (l := [0, 3, 4, 7]) (x := [(0, .int .i64 p0), (3, .int .i64 s1), (4, .int .i64 s2), (7, .bool (ilt s2 p0))]) (s := hp B [] (M1 + 3)) rfl rfl fun a' ha => ?_
  refine hK7 _ _ ?_; rw [ha]
  refine AWP_cond (ilt s2 p0) rfl (fun C1 => ?_) (fun C1 => ?_)
  ·
   replace H := ifT C1 H
   refine AWP_skip ?_
   show K6 _ _
   refine keepE (l := [0, 3, 4]) (x := [(0, .int .i64 p0), (3, .int .i64 s1), (4, .int .i64 s2)]) rfl fun a' ha => ?_
   refine hK6 _ _ ?_; rw [ha]
   refine AWP_seqk [0, 3, 4] fun K8 hK8 => ?_
   refine AWP_block ?_
   refine AWP_toThen ?_
   refine AWP_regl tok [] ?_
   simp -dsimp -implicitDefEqProofs (maxDischargeDepth := 6)
   refine keepE2 (l := [0, 3, 4]) (x := [(0, .int .i64 p0), (3, .int .i64 (imul .i64 s1 2)), (4, .int .i64 s2)]) (s := hp B [] (M1 + 6)) rfl rfl fun a' ha => ?_
   refine hK8 _ _ ?_; rw [ha]
   refine AWP_regl tok [] ?_
   simp -dsimp -implicitDefEqProofs (maxDischargeDepth := 6)
   refine keepE2 (l := [0, 3, 4]) (x := [(0, .int .i64 p0), (3, .int .i64 (imul .i64 s1 2)), (4, .int .i64 (iadd .i64 s2 1))]) (s := hp B [] (M1 + 9)) rfl rfl fun a' ha => ?_
   refine hK5 _ _ ?_; replace H := Option.some.inj H; subst H; rw [ha]
   exact ⟨(imul .i64 s1 2, iadd .i64 s2 1), rfl, _, AHeap.Sub.refl _, ⟨M1 + 9, by omega, rfl, rfl⟩⟩
  ·
   replace H := ifF C1 H
   skip
   refine AWP_exit ?_
   replace H := Option.some.inj H; subst H
   refine doneE ?_
   exact ⟨rfl, M1 + 3, by omega, rfl, rfl⟩
 ·
  intro x a σ hx
  obtain ⟨x3, rfl⟩ : ∃ x, x = e1 := ⟨_, rfl⟩
  obtain ⟨rfl, M2, hM2_0, ha, rfl⟩ := hx
  dsimp only at H
  show K3 _ _
  refine hK3 _ _ ?_; rw [ha]
  refine AWP_seqk [2] fun K9 hK9 => ?_
  refine AWP_regl tok [] ?_
  simp -dsimp -implicitDefEqProofs (maxDischargeDepth := 6)
  refine keepE2 (l := [2]) (x := [(2, .int .i64 x3)]) (s := hp B [] (M2 + 2)) rfl rfl fun a' ha => ?_
  refine hK9 _ _ ?_; rw [ha]
  refine AWP_ret ?_
  replace H := Option.some.inj H; subst H
  refine ⟨[.int .i64 x3], by simp, ?_, ?_⟩
  ·
   simp [encL_nil]
  ·
   intro o ho; exact lk_out (by simp; try omega)
end Go.Proofs.YtoklfbdcghgmlaaDoor
