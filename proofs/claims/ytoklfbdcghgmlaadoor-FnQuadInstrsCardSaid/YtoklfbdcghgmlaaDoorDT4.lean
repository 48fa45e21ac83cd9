/- The contracts of functions of the program, part 4: each computes what its mirror computes. No conditions. -/
import Derived.Test.YtoklfbdcghgmlaaDoorDT3
set_option linter.unusedSimpArgs false
set_option linter.unusedVariables false
set_option maxRecDepth 20000
set_option maxHeartbeats 4000000
namespace Go.Proofs.YtoklfbdcghgmlaaDoor
open Go Go.Abs Go.RowKit

theorem c58 {p0 : Int} {r : Int} (H : i_Wrap p0 = some r) : APure Tryd.prog G 58 [.int .i64 p0] (.int .i64 r) := by
 refine APure_thaw 4 (fun σ => ?_) (by simp)
 refine ACalls_fn tok Tryd.func58 (by kernel_rfl) rfl Tryd.ntmps58 Tryd.results58 rfl ?_
 simp only [argsA, Nat.reduceAdd]
 refine AWP_ids fun hfr => ?_
 obtain ⟨B, hB⟩ : ∃ B, B = σ.objs := ⟨_, rfl⟩
 obtain ⟨N0, hN0⟩ : ∃ N, N = σ.next := ⟨_, rfl⟩
 have hσ : σ = hp B [] N0 := by rw [hB, hN0]; rfl
 rw [← hN0, ← hB] at hfr ⊢
 rw [hσ]; clear hσ
 unfold i_Wrap at H
 refine AWP_seqk [0] fun K1 hK1 => ?_
 refine AWP_regl tok [] ?_
 simp -dsimp -implicitDefEqProofs (maxDischargeDepth := 6)
 refine keepE2 (l := [0]) (x := [(0, .int .i64 p0)]) (s := hp B [] (N0 + 1)) rfl rfl fun a' ha => ?_
 refine hK1 _ _ ?_; rw [ha]
 refine AWP_seqk [2] fun K2 hK2 => ?_
 refine AWP_regl tok [] ?_
 simp -dsimp -implicitDefEqProofs (maxDischargeDepth := 6)
 refine keepE2 (l := [2]) (x := [(2, .int .i64 (iconv .i64 (iconv .i32 p0)))]) (s := hp B [] (N0 + 5)) rfl rfl fun a' ha => ?_
 refine hK2 _ _ ?_; rw [ha]
 refine AWP_ret ?_
 replace H := Option.some.inj H; subst H
 refine ⟨[.int .i64 (iconv .i64 (iconv .i32 p0))], by simp, ?_, ?_⟩
 ·
  simp [encL_nil]
 ·
  intro o ho; exact lk_out (by simp; try omega)
theorem c119 {p0 : Int} {p1 : Int} {p2 : Int} {r : gInstr} (H : i_addi p0 p1 p2 = some r) : APure Tryd.prog G 119 [.int .i64 p0, .int .i64 p1, .int .i64 p2] (.agg [.int .i64 r.Op, .int .i64 r.Rd, .int .i64 r.Rs, .int .i64 r.Rt, .int .i64 r.Imm]) := by
 refine APure_thaw 4 (fun σ => ?_) (by simp)
 refine ACalls_fn tok Tryd.func119 (by kernel_rfl) rfl Tryd.ntmps119 Tryd.results119 rfl ?_
 simp only [argsA, Nat.reduceAdd]
 refine AWP_ids fun hfr => ?_
 obtain ⟨B, hB⟩ : ∃ B, B = σ.objs := ⟨_, rfl⟩
 obtain ⟨N0, hN0⟩ : ∃ N, N = σ.next := ⟨_, rfl⟩
 have hσ : σ = hp B [] N0 := by rw [hB, hN0]; rfl
 rw [← hN0, ← hB] at hfr ⊢
 rw [hσ]; clear hσ
 unfold i_addi at H
 refine AWP_seqk [0, 1, 2, 6] fun K1 hK1 => ?_
 refine AWP_regl tok [] ?_
 simp -dsimp -implicitDefEqProofs (maxDischargeDepth := 6)
 refine keepE2 (l := [0, 1, 2, 6]) (x := [(0, .int .i64 p0), (1, .int .i64 p1), (2, .int .i64 p2), (6, .ptr N0 0 0)]) (s := hp B [(N0, some ⟨47, 5, [[.int .i64 0, .int .i64 0, .int .i64 0, .int .i64 0, .int .i64 0]]⟩)] (N0 + 1)) rfl rfl fun a' ha => ?_
 refine hK1 _ _ ?_; rw [ha]
 refine AWP_seqk [6] fun K2 hK2 => ?_
 refine AWP_regl tok [] ?_
 simp -dsimp -implicitDefEqProofs (maxDischargeDepth := 6)
 refine keepE2 (l := [6]) (x := [(6, .ptr N0 0 0)]) (s := hp B [(N0, some ⟨47, 5, [[.int .i64 12, .int .i64 p0, .int .i64 p1, .int .i64 0, .int .i64 p2]]⟩)] (N0 + 6)) rfl rfl fun a' ha => ?_
 refine hK2 _ _ ?_; rw [ha]
 refine AWP_ret ?_
 replace H := Option.some.inj H; subst H
 have e0 : N0 ≤ N0 := by omega
 refine ⟨[.agg [.int .i64 12, .int .i64 p0, .int .i64 p1, .int .i64 0, .int .i64 p2]], by simp [e0], ?_, ?_⟩
 ·
  simp [encL_nil, e0]
 ·
  intro o ho; exact lk_out (by simp; try omega)
theorem c126 {p0 : Int} {p1 : Int} {r : Int} (H : i_SignExtend p0 p1 = some r) : APure Tryd.prog G 126 [.int .i64 p0, .int .i64 p1] (.int .i64 r) := by
 refine APure_thaw 4 (fun σ => ?_) (by simp)
 refine ACalls_fn tok Tryd.func126 (by kernel_rfl) rfl Tryd.ntmps126 Tryd.results126 rfl ?_
 simp only [argsA, Nat.reduceAdd]
 refine AWP_ids fun hfr => ?_
 obtain ⟨B, hB⟩ : ∃ B, B = σ.objs := ⟨_, rfl⟩
 obtain ⟨N0, hN0⟩ : ∃ N, N = σ.next := ⟨_, rfl⟩
 have hσ : σ = hp B [] N0 := by rw [hB, hN0]; rfl
 rw [← hN0, ← hB] at hfr ⊢
 rw [hσ]; clear hσ
 unfold i_SignExtend at H
 refine AWP_seqk [0, 1] fun K1 hK1 => ?_
 refine AWP_regl tok [] ?_
 simp -dsimp -implicitDefEqProofs (maxDischargeDepth := 6)
 refine keepE2 (l := [0, 1]) (x := [(0, .int .i64 p0), (1, .int .i64 p1)]) (s := hp B [] (N0 + 1)) rfl rfl fun a' ha => ?_
 refine hK1 _ _ ?_; rw [ha]
 refine AWP_seqk [0, 1] fun K2 hK2 => ?_
 refine AWP_seqk [0, 1, 20] fun K3 hK3 => ?_
 obtain ⟨g1, hg1, H⟩ := bindE H
 obtain ⟨g2, hg2, H⟩ := bindE H
 obtain ⟨g4, hg4, H⟩ := bindE H
 have J1 : ∀ a' σ', AAct.keep a' [0, 1, 20] = [(0, .int .i64 p0), (1, .int .i64 p1), (20, .bool g4)] → σ' = hp B [] (N0 + 17) → K3 a' σ' := by
  intro a' σ' ha hs; subst hs
  refine hK3 _ _ ?_; rw [ha]
  refine AWP_cond g4 rfl (fun C2 => ?_) (fun C2 => ?_)
  ·
   replace H := ifT C2 H
   refine AWP_seqk [4] fun K4 hK4 => ?_
   refine AWP_regl tok [] ?_
   simp -dsimp -implicitDefEqProofs (maxDischargeDepth := 6)
   refine keepE2 (l := [4]) (x := [(4, .int .i64 0)]) (s := hp B [] (N0 + 18)) rfl rfl fun a' ha => ?_
   refine hK4 _ _ ?_; rw [ha]
   refine AWP_ret ?_
   replace H := Option.some.inj H; subst H
   refine ⟨[.int .i64 0], by simp, ?_, ?_⟩
   ·
    simp [encL_nil]
   ·
    intro o ho; exact lk_out (by simp; try omega)
  ·
   replace H := ifF C2 H
   refine AWP_skip ?_
   show K2 _ _
   refine keepE (l := [0, 1]) (x := [(0, .int .i64 p0), (1, .int .i64 p1)]) rfl fun a' ha => ?_
   refine hK2 _ _ ?_; rw [ha]
   refine AWP_seqk [0] fun K5 hK5 => ?_
   refine AWP_seqk [0, 1, 25] fun K6 hK6 => ?_
   obtain ⟨v5, hv5, H⟩ := bindE H
   refine AWP_regl tok [] ?_
   simp -dsimp -implicitDefEqProofs (maxDischargeDepth := 6) [hv5]
   refine keepE2 (l := [0, 1, 25]) (x := [(0, .int .i64 p0), (1, .int .i64 p1), (25, .bool (ige p0 v5))]) (s := hp B [] (N0 + 22)) rfl rfl fun a' ha => ?_
   refine hK6 _ _ ?_; rw [ha]
   refine AWP_cond (ige p0 v5) rfl (fun C1 => ?_) (fun C1 => ?_)
   ·
    replace H := ifT C1 H
    refine AWP_seqk [4] fun K7 hK7 => ?_
    obtain ⟨v6, hv6, H⟩ := bindE H
    refine AWP_regl tok [] ?_
    simp -dsimp -implicitDefEqProofs (maxDischargeDepth := 6) [hv6]
    refine keepE2 (l := [4]) (x := [(4, .int .i64 (isub .i64 p0 v6))]) (s := hp B [] (N0 + 27)) rfl rfl fun a' ha => ?_
    refine hK7 _ _ ?_; rw [ha]
    refine AWP_ret ?_
    replace H := Option.some.inj H; subst H
    refine ⟨[.int .i64 (isub .i64 p0 v6)], by simp, ?_, ?_⟩
    ·
     simp [encL_nil]
    ·
     intro o ho; exact lk_out (by simp; try omega)
   ·
    replace H := ifF C1 H
    refine AWP_skip ?_
    show K5 _ _
    refine keepE (l := [0]) (x := [(0, .int .i64 p0)]) rfl fun a' ha => ?_
    refine hK5 _ _ ?_; rw [ha]
    refine AWP_seqk [4] fun K8 hK8 => ?_
    refine AWP_regl tok [] ?_
    simp -dsimp -implicitDefEqProofs (maxDischargeDepth := 6)
    refine keepE2 (l := [4]) (x := [(4, .int .i64 p0)]) (s := hp B [] (N0 + 24)) rfl rfl fun a' ha => ?_
    refine hK8 _ _ ?_; rw [ha]
    refine AWP_ret ?_
    replace H := Option.some.inj H; subst H
    refine ⟨[.int .i64 p0], by simp, ?_, ?_⟩
    ·
     simp [encL_nil]
    ·
     intro o ho; exact lk_out (by simp; try omega)
 refine AWP_regl tok [] ?_
 simp -dsimp -implicitDefEqProofs (maxDischargeDepth := 6)
 cases hbg1 : ilt p1 1
 ·
  replace hg1 := ifF hbg1 hg1
  replace hg1 := Option.some.inj hg1; subst hg1
  try simp -dsimp -implicitDefEqProofs (maxDischargeDepth := 6) [hbg1]
  cases hbg2 : (igt p1 32)
  ·
   replace hg2 := ifF hbg2 hg2
   replace hg2 := Option.some.inj hg2; subst hg2
   try simp -dsimp -implicitDefEqProofs (maxDischargeDepth := 6) [hbg1, hbg2]
   cases hbg4 : (ilt p0 0)
   ·
    replace hg4 := ifF hbg4 hg4
    obtain ⟨v3, hv3, hg4⟩ := bindE hg4
    replace hg4 := Option.some.inj hg4; subst hg4
    try simp -dsimp -implicitDefEqProofs (maxDischargeDepth := 6) [hbg1, hbg2, hbg4, hv3]
    exact J1 _ _ rfl rfl
   ·
    replace hg4 := ifT hbg4 hg4
    replace hg4 := Option.some.inj hg4; subst hg4
    try simp -dsimp -implicitDefEqProofs (maxDischargeDepth := 6) [hbg1, hbg2, hbg4]
    exact J1 _ _ rfl rfl
  ·
   replace hg2 := ifT hbg2 hg2
   replace hg2 := Option.some.inj hg2; subst hg2
   try simp -dsimp -implicitDefEqProofs (maxDischargeDepth := 6) [hbg1, hbg2]
   replace hg4 := ifT rfl hg4
   replace hg4 := Option.some.inj hg4; subst hg4
   try simp -dsimp -implicitDefEqProofs (maxDischargeDepth := 6) [hbg1, hbg2]
   exact J1 _ _ rfl rfl
 ·
  replace hg1 := ifT hbg1 hg1
  replace hg1 := Option.some.inj hg1; subst hg1
  try simp -dsimp -implicitDefEqProofs (maxDischargeDepth := 6) [hbg1]
  replace hg2 := ifT rfl hg2
  replace hg2 := Option.some.inj hg2; subst hg2
  try simp -dsimp -implicitDefEqProofs (maxDischargeDepth := 6) [hbg1]
  replace hg4 := ifT rfl hg4
  replace hg4 := Option.some.inj hg4; subst hg4
  try simp -dsimp -implicitDefEqProofs (maxDischargeDepth := 6) [hbg1]
  exact J1 _ _ rfl rfl
theorem c146 {p0 : Int} {r : Bool} (H : i_isUnsigned p0 = some r) : APure Tryd.prog G 146 [.int .i64 p0] (.bool r) := by
 refine APure_thaw 4 (fun σ => ?_) (by simp)
 refine ACalls_fn tok Tryd.func146 (by kernel_rfl) rfl Tryd.ntmps146 Tryd.results146 rfl ?_
 simp only [argsA, Nat.reduceAdd]
 refine AWP_ids fun hfr => ?_
 obtain ⟨B, hB⟩ : ∃ B, B = σ.objs := ⟨_, rfl⟩
 obtain ⟨N0, hN0⟩ : ∃ N, N = σ.next := ⟨_, rfl⟩
 have hσ : σ = hp B [] N0 := by rw [hB, hN0]; rfl
 rw [← hN0, ← hB] at hfr ⊢
 rw [hσ]; clear hσ
 unfold i_isUnsigned at H
 refine AWP_seqk [0] fun K1 hK1 => ?_
 refine AWP_regl tok [] ?_
 simp -dsimp -implicitDefEqProofs (maxDischargeDepth := 6)
 refine keepE2 (l := [0]) (x := [(0, .int .i64 p0)]) (s := hp B [] (N0 + 1)) rfl rfl fun a' ha => ?_
 refine hK1 _ _ ?_; rw [ha]
 refine AWP_seqk [2] fun K2 hK2 => ?_
 obtain ⟨g1, hg1, H⟩ := bindE H
 have J1 : ∀ a' σ', AAct.keep a' [2] = [(2, .bool g1)] → σ' = hp B [] (N0 + 8) → K2 a' σ' := by
  intro a' σ' ha hs; subst hs
  refine hK2 _ _ ?_; rw [ha]
  refine AWP_ret ?_
  replace H := Option.some.inj H; subst H
  refine ⟨[.bool g1], by simp, ?_, ?_⟩
  ·
   simp [encL_nil]
  ·
   intro o ho; exact lk_out (by simp; try omega)
 refine AWP_regl tok [] ?_
 simp -dsimp -implicitDefEqProofs (maxDischargeDepth := 6)
 cases hbg1 : ige p0 0
 ·
  replace hg1 := ifF hbg1 hg1
  replace hg1 := Option.some.inj hg1; subst hg1
  try simp -dsimp -implicitDefEqProofs (maxDischargeDepth := 6) [hbg1]
  exact J1 _ _ rfl rfl
 ·
  replace hg1 := ifT hbg1 hg1
  replace hg1 := Option.some.inj hg1; subst hg1
  try simp -dsimp -implicitDefEqProofs (maxDischargeDepth := 6) [hbg1]
  exact J1 _ _ rfl rfl
theorem c127 {p0 : Int} {p1 : Int} {p2 : Int} {r : Int} (H : i_Bits p0 p1 p2 = some r) : APure Tryd.prog G 127 [.int .i64 p0, .int .i64 p1, .int .i64 p2] (.int .i64 r) := by
 refine APure_thaw 4 (fun σ => ?_) (by simp)
 refine ACalls_fn tok Tryd.func127 (by kernel_rfl) rfl Tryd.ntmps127 Tryd.results127 rfl ?_
 simp only [argsA, Nat.reduceAdd]
 refine AWP_ids fun hfr => ?_
 obtain ⟨B, hB⟩ : ∃ B, B = σ.objs := ⟨_, rfl⟩
 obtain ⟨N0, hN0⟩ : ∃ N, N = σ.next := ⟨_, rfl⟩
 have hσ : σ = hp B [] N0 := by rw [hB, hN0]; rfl
 rw [← hN0, ← hB] at hfr ⊢
 rw [hσ]; clear hσ
 unfold i_Bits at H
 refine AWP_seqk [0, 1, 2] fun K1 hK1 => ?_
 refine AWP_regl tok [] ?_
 simp -dsimp -implicitDefEqProofs (maxDischargeDepth := 6)
 refine keepE2 (l := [0, 1, 2]) (x := [(0, .int .i64 p0), (1, .int .i64 p1), (2, .int .i64 p2)]) (s := hp B [] (N0 + 1)) rfl rfl fun a' ha => ?_
 refine hK1 _ _ ?_; rw [ha]
 refine AWP_seqk [0, 1, 2] fun K2 hK2 => ?_
 refine AWP_seqk [0, 1, 2, 27] fun K3 hK3 => ?_
 obtain ⟨r1, hr1, H⟩ := bindE H
 obtain ⟨g2, hg2, H⟩ := bindE H
 obtain ⟨g3, hg3, H⟩ := bindE H
 obtain ⟨g4, hg4, H⟩ := bindE H
 obtain ⟨g5, hg5, H⟩ := bindE H
 have J1 : ∀ a' σ', AAct.keep a' [0, 1, 2, 27] = [(0, .int .i64 p0), (1, .int .i64 p1), (2, .int .i64 p2), (27, .bool g5)] → σ' = hp B [] (N0 + 22) → K3 a' σ' := by
  intro a' σ' ha hs; subst hs
  refine hK3 _ _ ?_; rw [ha]
  refine AWP_cond g5 rfl (fun C1 => ?_) (fun C1 => ?_)
  ·
   replace H := ifT C1 H
   refine AWP_seqk [6] fun K4 hK4 => ?_
   refine AWP_regl tok [] ?_
   simp -dsimp -implicitDefEqProofs (maxDischargeDepth := 6)
   refine keepE2 (l := [6]) (x := [(6, .int .i64 0)]) (s := hp B [] (N0 + 23)) rfl rfl fun a' ha => ?_
   refine hK4 _ _ ?_; rw [ha]
   refine AWP_ret ?_
   replace H := Option.some.inj H; subst H
   refine ⟨[.int .i64 0], by simp, ?_, ?_⟩
   ·
    simp [encL_nil]
   ·
    intro o ho; exact lk_out (by simp; try omega)
  ·
   replace H := ifF C1 H
   refine AWP_skip ?_
   show K2 _ _
   refine keepE (l := [0, 1, 2]) (x := [(0, .int .i64 p0), (1, .int .i64 p1), (2, .int .i64 p2)]) rfl fun a' ha => ?_
   refine hK2 _ _ ?_; rw [ha]
   refine AWP_seqk [6] fun K5 hK5 => ?_
   obtain ⟨v6, hv6, H⟩ := bindE H
   obtain ⟨v7, hv7, H⟩ := bindE H
   refine AWP_drawl tok tokM [] [] [0, 1, 2, 3, 4, 5, 6, 7] (by decide) ?_
   simp only [pickL, nthO_succ, nthO_zero]
   simp -dsimp -implicitDefEqProofs (maxDischargeDepth := 6) [hv6, hv7]
   refine keepE2 (l := [6]) (x := [(6, .int .i64 (iand .i64 v6 (isub .i64 v7 1)))]) (s := hp B [] (N0 + 30)) rfl rfl fun a' ha => ?_
   refine hK5 _ _ ?_; rw [ha]
   refine AWP_ret ?_
   replace H := Option.some.inj H; subst H
   refine ⟨[.int .i64 (iand .i64 v6 (isub .i64 v7 1))], by simp, ?_, ?_⟩
   ·
    simp [encL_nil]
   ·
    intro o ho; exact lk_out (by simp; try omega)
 refine AWP_regl tok [] ?_
 simp -dsimp -implicitDefEqProofs (maxDischargeDepth := 6)
 refine (c146 hr1).app ?_; try simp -dsimp -implicitDefEqProofs (maxDischargeDepth := 6)
 cases hbg2 : bnot r1
 ·
  replace hg2 := ifF hbg2 hg2
  replace hg2 := Option.some.inj hg2; subst hg2
  try simp -dsimp -implicitDefEqProofs (maxDischargeDepth := 6) [hbg2]
  cases hbg3 : (ilt p1 0)
  ·
   replace hg3 := ifF hbg3 hg3
   replace hg3 := Option.some.inj hg3; subst hg3
   try simp -dsimp -implicitDefEqProofs (maxDischargeDepth := 6) [hbg2, hbg3]
   cases hbg4 : (igt p1 31)
   ·
    replace hg4 := ifF hbg4 hg4
    replace hg4 := Option.some.inj hg4; subst hg4
    try simp -dsimp -implicitDefEqProofs (maxDischargeDepth := 6) [hbg2, hbg3, hbg4]
    cases hbg5 : (ilt p2 1)
    ·
     replace hg5 := ifF hbg5 hg5
     replace hg5 := Option.some.inj hg5; subst hg5
     try simp -dsimp -implicitDefEqProofs (maxDischargeDepth := 6) [hbg2, hbg3, hbg4, hbg5]
     exact J1 _ _ rfl rfl
    ·
     replace hg5 := ifT hbg5 hg5
     replace hg5 := Option.some.inj hg5; subst hg5
     try simp -dsimp -implicitDefEqProofs (maxDischargeDepth := 6) [hbg2, hbg3, hbg4, hbg5]
     exact J1 _ _ rfl rfl
   ·
    replace hg4 := ifT hbg4 hg4
    replace hg4 := Option.some.inj hg4; subst hg4
    try simp -dsimp -implicitDefEqProofs (maxDischargeDepth := 6) [hbg2, hbg3, hbg4]
    replace hg5 := ifT rfl hg5
    replace hg5 := Option.some.inj hg5; subst hg5
    try simp -dsimp -implicitDefEqProofs (maxDischargeDepth := 6) [hbg2, hbg3, hbg4]
    exact J1 _ _ rfl rfl
  ·
   replace hg3 := ifT hbg3 hg3
   replace hg3 := Option.some.inj hg3; subst hg3
   try simp -dsimp -implicitDefEqProofs (maxDischargeDepth := 6) [hbg2, hbg3]
   replace hg4 := ifT rfl hg4
   replace hg4 := Option.some.inj hg4; subst hg4
   try simp -dsimp -implicitDefEqProofs (maxDischargeDepth := 6) [hbg2, hbg3]
   replace hg5 := ifT rfl hg5
   replace hg5 := Option.some.inj hg5; subst hg5
   try simp -dsimp -implicitDefEqProofs (maxDischargeDepth := 6) [hbg2, hbg3]
   exact J1 _ _ rfl rfl
 ·
  replace hg2 := ifT hbg2 hg2
  replace hg2 := Option.some.inj hg2; subst hg2
  try simp -dsimp -implicitDefEqProofs (maxDischargeDepth := 6) [hbg2]
  replace hg3 := ifT rfl hg3
  replace hg3 := Option.some.inj hg3; subst hg3
  try simp -dsimp -implicitDefEqProofs (maxDischargeDepth := 6) [hbg2]
  replace hg4 := ifT rfl hg4
  replace hg4 := Option.some.inj hg4; subst hg4
  try simp -dsimp -implicitDefEqProofs (maxDischargeDepth := 6) [hbg2]
  replace hg5 := ifT rfl hg5
  replace hg5 := Option.some.inj hg5; subst hg5
  try simp -dsimp -implicitDefEqProofs (maxDischargeDepth := 6) [hbg2]
  exact J1 _ _ rfl rfl
theorem c128 {p0 : Int} {r : Int} (H : i_Unsigned p0 = some r) : APure Tryd.prog G 128 [.int .i64 p0] (.int .i64 r) := by
 refine APure_thaw 4 (fun σ => ?_) (by simp)
 refine ACalls_fn tok Tryd.func128 (by kernel_rfl) rfl Tryd.ntmps128 Tryd.results128 rfl ?_
 simp only [argsA, Nat.reduceAdd]
 refine AWP_ids fun hfr => ?_
 obtain ⟨B, hB⟩ : ∃ B, B = σ.objs := ⟨_, rfl⟩
 obtain ⟨N0, hN0⟩ : ∃ N, N = σ.next := ⟨_, rfl⟩
 have hσ : σ = hp B [] N0 := by rw [hB, hN0]; rfl
 rw [← hN0, ← hB] at hfr ⊢
 rw [hσ]; clear hσ
 unfold i_Unsigned at H
 refine AWP_seqk [0] fun K1 hK1 => ?_
 refine AWP_regl tok [] ?_
 simp -dsimp -implicitDefEqProofs (maxDischargeDepth := 6)
 refine keepE2 (l := [0]) (x := [(0, .int .i64 p0)]) (s := hp B [] (N0 + 1)) rfl rfl fun a' ha => ?_
 refine hK1 _ _ ?_; rw [ha]
 refine AWP_seqk [0] fun K2 hK2 => ?_
 refine AWP_seqk [0, 5] fun K3 hK3 => ?_
 obtain ⟨r1, hr1, H⟩ := bindE H
 refine AWP_regl tok [] ?_
 simp -dsimp -implicitDefEqProofs (maxDischargeDepth := 6)
 refine (c73 hr1).app ?_; try simp -dsimp -implicitDefEqProofs (maxDischargeDepth := 6)
 refine keepE2 (l := [0, 5]) (x := [(0, .int .i64 p0), (5, .bool (bnot r1))]) (s := hp B [] (N0 + 4)) rfl rfl fun a' ha => ?_
 refine hK3 _ _ ?_; rw [ha]
 refine AWP_cond (bnot r1) rfl (fun C1 => ?_) (fun C1 => ?_)
 ·
  replace H := ifT C1 H
  refine AWP_seqk [2] fun K4 hK4 => ?_
  refine AWP_regl tok [] ?_
  simp -dsimp -implicitDefEqProofs (maxDischargeDepth := 6)
  refine keepE2 (l := [2]) (x := [(2, .int .i64 (-1))]) (s := hp B [] (N0 + 5)) rfl rfl fun a' ha => ?_
  refine hK4 _ _ ?_; rw [ha]
  refine AWP_ret ?_
  replace H := Option.some.inj H; subst H
  refine ⟨[.int .i64 (-1)], by simp, ?_, ?_⟩
  ·
   simp [encL_nil]
  ·
   intro o ho; exact lk_out (by simp; try omega)
 ·
  replace H := ifF C1 H
  refine AWP_skip ?_
  show K2 _ _
  refine keepE (l := [0]) (x := [(0, .int .i64 p0)]) rfl fun a' ha => ?_
  refine hK2 _ _ ?_; rw [ha]
  refine AWP_seqk [2] fun K5 hK5 => ?_
  refine AWP_regl tok [] ?_
  simp -dsimp -implicitDefEqProofs (maxDischargeDepth := 6)
  refine keepE2 (l := [2]) (x := [(2, .int .i64 (iconv .i64 (iconv .u32 p0)))]) (s := hp B [] (N0 + 8)) rfl rfl fun a' ha => ?_
  refine hK5 _ _ ?_; rw [ha]
  refine AWP_ret ?_
  replace H := Option.some.inj H; subst H
  refine ⟨[.int .i64 (iconv .i64 (iconv .u32 p0))], by simp, ?_, ?_⟩
  ·
   simp [encL_nil]
  ·
   intro o ho; exact lk_out (by simp; try omega)
theorem c74 {p0 : Int} {p1 : Int} {r : (List gInstr)} (H : i_constInstrs p0 p1 = some r) : APure Tryd.prog G 74 [.int .i64 p0, .int .i64 p1] (.fsl (encL rInstr r)) := by
 refine APure_thaw 4 (fun σ => ?_) (by simp)
 refine ACalls_fn tok Tryd.func74 (by kernel_rfl) rfl Tryd.ntmps74 Tryd.results74 rfl ?_
 simp only [argsA, Nat.reduceAdd]
 refine AWP_ids fun hfr => ?_
 obtain ⟨B, hB⟩ : ∃ B, B = σ.objs := ⟨_, rfl⟩
 obtain ⟨N0, hN0⟩ : ∃ N, N = σ.next := ⟨_, rfl⟩
 have hσ : σ = hp B [] N0 := by rw [hB, hN0]; rfl
 rw [← hN0, ← hB] at hfr ⊢
 rw [hσ]; clear hσ
 unfold i_constInstrs at H
 refine AWP_seqk [0, 1] fun K1 hK1 => ?_
 refine AWP_regl tok [] ?_
 simp -dsimp -implicitDefEqProofs (maxDischargeDepth := 6)
 refine keepE2 (l := [0, 1]) (x := [(0, .int .i64 p0), (1, .int .i64 p1)]) (s := hp B [] (N0 + 1)) rfl rfl fun a' ha => ?_
 refine hK1 _ _ ?_; rw [ha]
 refine AWP_seqk [0, 1] fun K2 hK2 => ?_
 refine AWP_seqk [0, 1, 12] fun K3 hK3 => ?_
 obtain ⟨g1, hg1, H⟩ := bindE H
 have J1 : ∀ a' σ', AAct.keep a' [0, 1, 12] = [(0, .int .i64 p0), (1, .int .i64 p1), (12, .bool g1)] → σ' = hp B [] (N0 + 7) → K3 a' σ' := by
  intro a' σ' ha hs; subst hs
  refine hK3 _ _ ?_; rw [ha]
  refine AWP_cond g1 rfl (fun C1 => ?_) (fun C1 => ?_)
  ·
   replace H := ifT C1 H
   refine AWP_seqk [4] fun K4 hK4 => ?_
   obtain ⟨r2, hr2, H⟩ := bindE H
   have q0 : ∀ σ i, buildSliceA T 29 true i 1 [(0, .agg [.int .i64 r2.Op, .int .i64 r2.Rd, .int .i64 r2.Rs, .int .i64 r2.Rt, .int .i64 r2.Imm])] σ = some (.fsl (encL rInstr ([r2] : List gInstr)), σ) := fun _ _ => rfl
   refine AWP_regl tok [3] ?_
   simp -dsimp -implicitDefEqProofs (maxDischargeDepth := 6) [q0]
   refine (c119 hr2).app ?_; try simp -dsimp -implicitDefEqProofs (maxDischargeDepth := 6) [q0]
   refine keepE2 (l := [4]) (x := [(4, .fsl (encL rInstr ([r2] : List gInstr)))]) (s := hp B [] (N0 + 12)) rfl rfl fun a' ha => ?_
   refine hK4 _ _ ?_; rw [ha]
   refine AWP_ret ?_
   replace H := Option.some.inj H; subst H
   refine ⟨[.fsl (encL rInstr ([r2] : List gInstr))], by simp, ?_, ?_⟩
   ·
    simp [encL_nil]
   ·
    intro o ho; exact lk_out (by simp; try omega)
  ·
   replace H := ifF C1 H
   refine AWP_skip ?_
   show K2 _ _
   refine keepE (l := [0, 1]) (x := [(0, .int .i64 p0), (1, .int .i64 p1)]) rfl fun a' ha => ?_
   refine hK2 _ _ ?_; rw [ha]
   refine AWP_seqk [0, 1, 5] fun K5 hK5 => ?_
   obtain ⟨r3, hr3, H⟩ := bindE H
   obtain ⟨r4, hr4, H⟩ := bindE H
   obtain ⟨r5, hr5, H⟩ := bindE H
   refine AWP_regl tok [] ?_
   simp -dsimp -implicitDefEqProofs (maxDischargeDepth := 6)
   refine (c128 hr3).app ?_; try simp -dsimp -implicitDefEqProofs (maxDischargeDepth := 6)
   refine (c127 hr4).app ?_; try simp -dsimp -implicitDefEqProofs (maxDischargeDepth := 6)
   refine (c126 hr5).app ?_; try simp -dsimp -implicitDefEqProofs (maxDischargeDepth := 6)
   refine keepE2 (l := [0, 1, 5]) (x := [(0, .int .i64 p0), (1, .int .i64 p1), (5, .int .i64 r5)]) (s := hp B [] (N0 + 12)) rfl rfl fun a' ha => ?_
   refine hK5 _ _ ?_; rw [ha]
   refine AWP_seqk [0, 5, 6] fun K6 hK6 => ?_
   obtain ⟨r6, hr6, H⟩ := bindE H
   obtain ⟨r7, hr7, H⟩ := bindE H
   obtain ⟨r8, hr8, H⟩ := bindE H
   refine AWP_regl tok [] ?_
   simp -dsimp -implicitDefEqProofs (maxDischargeDepth := 6)
   refine (c58 hr6).app ?_; try simp -dsimp -implicitDefEqProofs (maxDischargeDepth := 6)
   refine (c128 hr7).app ?_; try simp -dsimp -implicitDefEqProofs (maxDischargeDepth := 6)
   refine (c127 hr8).app ?_; try simp -dsimp -implicitDefEqProofs (maxDischargeDepth := 6)
   refine keepE2 (l := [0, 5, 6]) (x := [(0, .int .i64 p0), (5, .int .i64 r5), (6, .int .i64 r8)]) (s := hp B [] (N0 + 19)) rfl rfl fun a' ha => ?_
   refine hK6 _ _ ?_; rw [ha]
   refine AWP_seqk [4] fun K7 hK7 => ?_
   obtain ⟨r9, hr9, H⟩ := bindE H
   have q1 : ∀ σ i, buildSliceA T 29 true i 2 [(0, .agg [.int .i64 19, .int .i64 p0, .int .i64 0, .int .i64 0, .int .i64 r8]), (1, .agg [.int .i64 r9.Op, .int .i64 r9.Rd, .int .i64 r9.Rs, .int .i64 r9.Rt, .int .i64 r9.Imm])] σ = some (.fsl (encL rInstr ([(⟨19, p0, 0, 0, r8⟩ : gInstr), r9] : List gInstr)), σ) := fun _ _ => rfl
   refine AWP_regl tok [7] ?_
   simp -dsimp -implicitDefEqProofs (maxDischargeDepth := 6) [q1]
   refine (c119 hr9).app ?_; try simp -dsimp -implicitDefEqProofs (maxDischargeDepth := 6) [q1]
   refine keepE2 (l := [4]) (x := [(4, .fsl (encL rInstr ([(⟨19, p0, 0, 0, r8⟩ : gInstr), r9] : List gInstr)))]) (s := hp B [] (N0 + 28)) rfl rfl fun a' ha => ?_
   refine hK7 _ _ ?_; rw [ha]
   refine AWP_ret ?_
   replace H := Option.some.inj H; subst H
   refine ⟨[.fsl (encL rInstr ([(⟨19, p0, 0, 0, r8⟩ : gInstr), r9] : List gInstr))], by simp, ?_, ?_⟩
   ·
    simp [encL_nil]
   ·
    intro o ho; exact lk_out (by simp; try omega)
 refine AWP_regl tok [] ?_
 simp -dsimp -implicitDefEqProofs (maxDischargeDepth := 6)
 cases hbg1 : ige p1 (-2048)
 ·
  replace hg1 := ifF hbg1 hg1
  replace hg1 := Option.some.inj hg1; subst hg1
  try simp -dsimp -implicitDefEqProofs (maxDischargeDepth := 6) [hbg1]
  exact J1 _ _ rfl rfl
 ·
  replace hg1 := ifT hbg1 hg1
  replace hg1 := Option.some.inj hg1; subst hg1
  try simp -dsimp -implicitDefEqProofs (maxDischargeDepth := 6) [hbg1]
  exact J1 _ _ rfl rfl
theorem c68 {p0 : gQuad} {p1 : Int} {p2 : Int} {r : (List gInstr)} (H : i_quadInstrs p0 p1 p2 = some r) : APure Tryd.prog G 68 [.agg [.int .i64 p0.Op, .int .i64 p0.Dst, .int .i64 p0.A, .int .i64 p0.B, .int .i64 p0.N], .int .i64 p1, .int .i64 p2] (.fsl (encL rInstr r)) := by
 refine APure_thaw 4 (fun σ => ?_) (by simp)
 refine ACalls_fn tok Tryd.func68 (by kernel_rfl) rfl Tryd.ntmps68 Tryd.results68 rfl ?_
 simp only [argsA, Nat.reduceAdd]
 refine AWP_ids fun hfr => ?_
 obtain ⟨B, hB⟩ : ∃ B, B = σ.objs := ⟨_, rfl⟩
 obtain ⟨N0, hN0⟩ : ∃ N, N = σ.next := ⟨_, rfl⟩
 have hσ : σ = hp B [] N0 := by rw [hB, hN0]; rfl
 rw [← hN0, ← hB] at hfr ⊢
 rw [hσ]; clear hσ
 unfold i_quadInstrs at H
 refine AWP_seqk [1, 2, 3] fun K1 hK1 => ?_
 refine AWP_regl tok [0] ?_
 simp -dsimp -implicitDefEqProofs (maxDischargeDepth := 6)
 refine keepE2 (l := [1, 2, 3]) (x := [(1, .int .i64 p1), (2, .int .i64 p2), (3, .fptr [.int .i64 p0.Op, .int .i64 p0.Dst, .int .i64 p0.A, .int .i64 p0.B, .int .i64 p0.N] 0)]) (s := hp B [] (N0 + 2)) rfl rfl fun a' ha => ?_
 refine hK1 _ _ ?_; rw [ha]
 refine AWP_seqk [2, 3, 7] fun K2 hK2 => ?_
 refine AWP_regl tok [1] ?_
 simp -dsimp -implicitDefEqProofs (maxDischargeDepth := 6)
 refine keepE2 (l := [2, 3, 7]) (x := [(2, .int .i64 p2), (3, .fptr [.int .i64 p0.Op, .int .i64 p0.Dst, .int .i64 p0.A, .int .i64 p0.B, .int .i64 p0.N] 0), (7, .ptr (N0 + 4) 0 0)]) (s := hp B [(N0 + 4, some ⟨129, 2, [[.int .i64 p1, .nilsl]]⟩)] (N0 + 6)) rfl rfl fun a' ha => ?_
 refine hK2 _ _ ?_; rw [ha]
 refine AWP_seqk [7] fun K3 hK3 => ?_
 refine AWP_seqk [2, 3, 7, 15] fun K4 hK4 => ?_
 refine AWP_regl tok [] ?_
 simp -dsimp -implicitDefEqProofs (maxDischargeDepth := 6)
 refine keepE2 (l := [2, 3, 7, 15]) (x := [(2, .int .i64 p2), (3, .fptr [.int .i64 p0.Op, .int .i64 p0.Dst, .int .i64 p0.A, .int .i64 p0.B, .int .i64 p0.N] 0), (7, .ptr (N0 + 4) 0 0), (15, .int .i64 p0.Op)]) (s := hp B [(N0 + 4, some ⟨129, 2, [[.int .i64 p1, .nilsl]]⟩)] (N0 + 8)) rfl rfl fun a' ha => ?_
 refine hK4 _ _ ?_; rw [ha]
 refine AWP_block ?_
 refine AWP_seqk [2, 3, 7, 15, 16] fun K5 hK5 => ?_
 refine AWP_regl tok [] ?_
 simp -dsimp -implicitDefEqProofs (maxDischargeDepth := 6)
 refine keepE2 (l := [2, 3, 7, 15, 16]) (x := [(2, .int .i64 p2), (3, .fptr [.int .i64 p0.Op, .int .i64 p0.Dst, .int .i64 p0.A, .int .i64 p0.B, .int .i64 p0.N] 0), (7, .ptr (N0 + 4) 0 0), (15, .int .i64 p0.Op), (16, .bool (ieq p0.Op 1))]) (s := hp B [(N0 + 4, some ⟨129, 2, [[.int .i64 p1, .nilsl]]⟩)] (N0 + 10)) rfl rfl fun a' ha => ?_
 refine hK5 _ _ ?_; rw [ha]
 refine AWP_cond (ieq p0.Op 1) rfl (fun C33 => ?_) (fun C33 => ?_)
 ·
  replace H := ifT C33 H
  refine AWP_toThen ?_
  refine AWP_regl tok [] ?_
  simp -dsimp -implicitDefEqProofs (maxDischargeDepth := 6)
  refine ACalls_fn tok Tryd.func115 (by kernel_rfl) rfl Tryd.ntmps115 Tryd.results115 rfl ?_
  simp only [argsA, Nat.reduceAdd]
  refine AWP_toThen (AWP_named fun K6 hK6 => ?_)
  refine AWP_seqk [0, 1, 2] fun K7 hK7 => ?_
  refine AWP_seqk [0, 1, 2, 11] fun K8 hK8 => ?_
  refine AWP_regl tok [] ?_
  simp -dsimp -implicitDefEqProofs (maxDischargeDepth := 6)
  refine keepE2 (l := [0, 1, 2, 11]) (x := [(0, .ptr (N0 + 4) 0 0), (1, .int .i64 p0.Dst), (2, .clo 116 [] [.fptr [.int .i64 p0.Op, .int .i64 p0.Dst, .int .i64 p0.A, .int .i64 p0.B, .int .i64 p0.N] 0]), (11, .bool (ilt p0.Dst p1))]) (s := hp B [(N0 + 4, some ⟨129, 2, [[.int .i64 p1, .nilsl]]⟩)] (N0 + 21)) rfl rfl fun a' ha => ?_
  refine hK8 _ _ ?_; rw [ha]
  refine AWP_cond (ilt p0.Dst p1) rfl (fun C1 => ?_) (fun C1 => ?_)
  ·
   replace H := ifT C1 H
   refine AWP_seqk [] fun K9 hK9 => ?_
   obtain ⟨v1, hv1, H⟩ := bindE H
   refine AWP_regl tok [] ?_
   simp -dsimp -implicitDefEqProofs (maxDischargeDepth := 6) [gx157 hv1, gl_get hv1]
   refine ACalls_fn tok Tryd.func116 (by kernel_rfl) rfl Tryd.ntmps116 Tryd.results116 rfl ?_
   simp only [argsA, Nat.reduceAdd]
   refine AWP_seqk [0, 1] fun K11 hK11 => ?_
   refine AWP_regl tok [] ?_
   simp -dsimp -implicitDefEqProofs (maxDischargeDepth := 6)
   refine keepE2 (l := [0, 1]) (x := [(0, .int .i64 v1), (1, .fptr [.int .i64 p0.Op, .int .i64 p0.Dst, .int .i64 p0.A, .int .i64 p0.B, .int .i64 p0.N] 0)]) (s := hp B [(N0 + 4, some ⟨129, 2, [[.int .i64 p1, .nilsl]]⟩)] (N0 + 29)) rfl rfl fun a' ha => ?_
   refine hK11 _ _ ?_; rw [ha]
   refine AWP_seqk [3] fun K12 hK12 => ?_
   obtain ⟨r2, hr2, H⟩ := bindE H
   refine AWP_regl tok [] ?_
   simp -dsimp -implicitDefEqProofs (maxDischargeDepth := 6)
   refine (c74 hr2).app ?_; try simp -dsimp -implicitDefEqProofs (maxDischargeDepth := 6)
   refine keepE2 (l := [3]) (x := [(3, .fsl (encL rInstr r2))]) (s := hp B [(N0 + 4, some ⟨129, 2, [[.int .i64 p1, .nilsl]]⟩)] (N0 + 34)) rfl rfl fun a' ha => ?_
   refine hK12 _ _ ?_; rw [ha]
   refine AWP_ret ?_
   have e0 : N0 ≤ N0 + 4 := by omega
   refine ⟨[.fsl (encL rInstr r2)], by simp [e0], ?_⟩
   simp -dsimp -implicitDefEqProofs (maxDischargeDepth := 6)
   refine ACalls_fn tok Tryd.func122 (by kernel_rfl) rfl Tryd.ntmps122 Tryd.results122 rfl ?_
   simp only [argsA, Nat.reduceAdd]
   refine AWP_toThen (AWP_named fun K13 hK13 => ?_)
   obtain ⟨l3, hl3, H⟩ := bindE H
   refine AWP_regl tok [] ?_
   simp -dsimp -implicitDefEqProofs (maxDischargeDepth := 6) [appn29 hl3]
   refine keepE2 (l := []) (x := []) (s := hp B [(N0 + 4, some ⟨129, 2, [[.int .i64 p1, .sl (N0 + 40) 0 l3.length]]⟩), (N0 + 40, some ⟨47, 5, encL rInstr l3⟩)] (N0 + 44)) rfl rfl fun a' ha => ?_
   refine hK13 _ _ ?_; try rw [ha]
   have e0 : N0 ≤ N0 + 4 := by omega
   have e1 : N0 ≤ N0 + 40 := by omega
   refine ⟨[], by simp [e0, e1], ?_⟩
   simp -dsimp -implicitDefEqProofs (maxDischargeDepth := 6)
   refine keepE2 (l := []) (x := []) (s := hp B [(N0 + 4, some ⟨129, 2, [[.int .i64 p1, .sl (N0 + 40) 0 l3.length]]⟩), (N0 + 40, some ⟨47, 5, encL rInstr l3⟩)] (N0 + 44)) rfl rfl fun a' ha => ?_
   refine hK9 _ _ ?_; rw [ha]
   refine AWP_ret ?_
   have e0 : N0 ≤ N0 + 4 := by omega
   have e1 : N0 ≤ N0 + 40 := by omega
   refine ⟨[], by simp [e0, e1], ?_⟩
   simp -dsimp -implicitDefEqProofs (maxDischargeDepth := 6)
   refine keepE2 (l := [7]) (x := [(7, .ptr (N0 + 4) 0 0)]) (s := hp B [(N0 + 4, some ⟨129, 2, [[.int .i64 p1, .sl (N0 + 40) 0 l3.length]]⟩), (N0 + 40, some ⟨47, 5, encL rInstr l3⟩)] (N0 + 44)) rfl rfl fun a' ha => ?_
   refine hK3 _ _ ?_; rw [ha]
   refine AWP_seqk [6] fun K14 hK14 => ?_
   refine AWP_regl tok [] ?_
   simp -dsimp -implicitDefEqProofs (maxDischargeDepth := 6)
   refine keepE2 (l := [6]) (x := [(6, .sl (N0 + 40) 0 l3.length)]) (s := hp B [(N0 + 4, some ⟨129, 2, [[.int .i64 p1, .sl (N0 + 40) 0 l3.length]]⟩), (N0 + 40, some ⟨47, 5, encL rInstr l3⟩)] (N0 + 49)) rfl rfl fun a' ha => ?_
   refine hK14 _ _ ?_; rw [ha]
   refine AWP_ret ?_
   replace H := Option.some.inj H; subst H
   have e0 : N0 ≤ N0 + 4 := by omega
   have e1 : N0 ≤ N0 + 40 := by omega
   refine ⟨[.sl (N0 + 40) 0 l3.length], by simp [e0, e1], ?_, ?_⟩
   ·
    simp [encL_nil, e0, e1]
   ·
    intro o ho; exact lk_out (by simp; try omega)
  ·
   replace H := ifF C1 H
   refine AWP_skip ?_
   show K7 _ _
   refine keepE (l := [0, 1, 2]) (x := [(0, .ptr (N0 + 4) 0 0), (1, .int .i64 p0.Dst), (2, .clo 116 [] [.fptr [.int .i64 p0.Op, .int .i64 p0.Dst, .int .i64 p0.A, .int .i64 p0.B, .int .i64 p0.N] 0])]) rfl fun a' ha => ?_
   refine hK7 _ _ ?_; rw [ha]
   refine AWP_seqk [0, 1] fun K15 hK15 => ?_
   refine AWP_regl tok [] ?_
   simp -dsimp -implicitDefEqProofs (maxDischargeDepth := 6)
   refine ACalls_fn tok Tryd.func116 (by kernel_rfl) rfl Tryd.ntmps116 Tryd.results116 rfl ?_
   simp only [argsA, Nat.reduceAdd]
   refine AWP_seqk [0, 1] fun K17 hK17 => ?_
   refine AWP_regl tok [] ?_
   simp -dsimp -implicitDefEqProofs (maxDischargeDepth := 6)
   refine keepE2 (l := [0, 1]) (x := [(0, .int .i64 7), (1, .fptr [.int .i64 p0.Op, .int .i64 p0.Dst, .int .i64 p0.A, .int .i64 p0.B, .int .i64 p0.N] 0)]) (s := hp B [(N0 + 4, some ⟨129, 2, [[.int .i64 p1, .nilsl]]⟩)] (N0 + 26)) rfl rfl fun a' ha => ?_
   refine hK17 _ _ ?_; rw [ha]
   refine AWP_seqk [3] fun K18 hK18 => ?_
   obtain ⟨r4, hr4, H⟩ := bindE H
   refine AWP_regl tok [] ?_
   simp -dsimp -implicitDefEqProofs (maxDischargeDepth := 6)
   refine (c74 hr4).app ?_; try simp -dsimp -implicitDefEqProofs (maxDischargeDepth := 6)
   refine keepE2 (l := [3]) (x := [(3, .fsl (encL rInstr r4))]) (s := hp B [(N0 + 4, some ⟨129, 2, [[.int .i64 p1, .nilsl]]⟩)] (N0 + 31)) rfl rfl fun a' ha => ?_
   refine hK18 _ _ ?_; rw [ha]
   refine AWP_ret ?_
   have e0 : N0 ≤ N0 + 4 := by omega
   refine ⟨[.fsl (encL rInstr r4)], by simp [e0], ?_⟩
   simp -dsimp -implicitDefEqProofs (maxDischargeDepth := 6)
   refine ACalls_fn tok Tryd.func122 (by kernel_rfl) rfl Tryd.ntmps122 Tryd.results122 rfl ?_
   simp only [argsA, Nat.reduceAdd]
   refine AWP_toThen (AWP_named fun K19 hK19 => ?_)
   obtain ⟨l5, hl5, H⟩ := bindE H
   refine AWP_regl tok [] ?_
   simp -dsimp -implicitDefEqProofs (maxDischargeDepth := 6) [appn29 hl5]
   refine keepE2 (l := []) (x := []) (s := hp B [(N0 + 4, some ⟨129, 2, [[.int .i64 p1, .sl (N0 + 37) 0 l5.length]]⟩), (N0 + 37, some ⟨47, 5, encL rInstr l5⟩)] (N0 + 41)) rfl rfl fun a' ha => ?_
   refine hK19 _ _ ?_; try rw [ha]
   have e0 : N0 ≤ N0 + 4 := by omega
   have e1 : N0 ≤ N0 + 37 := by omega
   refine ⟨[], by simp [e0, e1], ?_⟩
   simp -dsimp -implicitDefEqProofs (maxDischargeDepth := 6)
   refine keepE2 (l := [0, 1]) (x := [(0, .ptr (N0 + 4) 0 0), (1, .int .i64 p0.Dst)]) (s := hp B [(N0 + 4, some ⟨129, 2, [[.int .i64 p1, .sl (N0 + 37) 0 l5.length]]⟩), (N0 + 37, some ⟨47, 5, encL rInstr l5⟩)] (N0 + 41)) rfl rfl fun a' ha => ?_
   refine hK15 _ _ ?_; rw [ha]
   have q0 : ∀ σ i, buildSliceA T 29 true i 1 [(0, .agg [.int .i64 16, .int .i64 0, .int .i64 2, .int .i64 7, .int .i64 (imul .i64 4 (isub .i64 p0.Dst p1))])] σ = some (.fsl (encL rInstr ([(⟨16, 0, 2, 7, imul .i64 4 (isub .i64 p0.Dst p1)⟩ : gInstr)] : List gInstr)), σ) := fun _ _ => rfl
   refine AWP_regl tok [9] ?_
   simp -dsimp -implicitDefEqProofs (maxDischargeDepth := 6) [q0]
   refine ACalls_fn tok Tryd.func122 (by kernel_rfl) rfl Tryd.ntmps122 Tryd.results122 rfl ?_
   simp only [argsA, Nat.reduceAdd]
   refine AWP_toThen (AWP_named fun K20 hK20 => ?_)
   obtain ⟨l6, hl6, H⟩ := bindE H
   refine AWP_regl tok [] ?_
   simp -dsimp -implicitDefEqProofs (maxDischargeDepth := 6) [app29 hl6]
   refine keepE2 (l := []) (x := []) (s := hp B [(N0 + 4, some ⟨129, 2, [[.int .i64 p1, .sl (N0 + 58) 0 l6.length]]⟩), (N0 + 37, none), (N0 + 58, some ⟨47, 5, encL rInstr l6⟩)] (N0 + 62)) rfl rfl fun a' ha => ?_
   refine hK20 _ _ ?_; try rw [ha]
   have e0 : N0 ≤ N0 + 4 := by omega
   have e1 : N0 ≤ N0 + 37 := by omega
   have e2 : N0 ≤ N0 + 58 := by omega
   refine ⟨[], by simp [e0, e1, e2], ?_⟩
   simp -dsimp -implicitDefEqProofs (maxDischargeDepth := 6)
   refine keepE2 (l := []) (x := []) (s := hp B [(N0 + 4, some ⟨129, 2, [[.int .i64 p1, .sl (N0 + 58) 0 l6.length]]⟩), (N0 + 37, none), (N0 + 58, some ⟨47, 5, encL rInstr l6⟩)] (N0 + 62)) rfl rfl fun a' ha => ?_
   refine hK6 _ _ ?_; try rw [ha]
   have e0 : N0 ≤ N0 + 4 := by omega
   have e1 : N0 ≤ N0 + 37 := by omega
   have e2 : N0 ≤ N0 + 58 := by omega
   refine ⟨[], by simp [e0, e1, e2], ?_⟩
   simp -dsimp -implicitDefEqProofs (maxDischargeDepth := 6)
   refine keepE2 (l := [7]) (x := [(7, .ptr (N0 + 4) 0 0)]) (s := hp B [(N0 + 4, some ⟨129, 2, [[.int .i64 p1, .sl (N0 + 58) 0 l6.length]]⟩), (N0 + 37, none), (N0 + 58, some ⟨47, 5, encL rInstr l6⟩)] (N0 + 62)) rfl rfl fun a' ha => ?_
   refine hK3 _ _ ?_; rw [ha]
   refine AWP_seqk [6] fun K21 hK21 => ?_
   refine AWP_regl tok [] ?_
   simp -dsimp -implicitDefEqProofs (maxDischargeDepth := 6)
   refine keepE2 (l := [6]) (x := [(6, .sl (N0 + 58) 0 l6.length)]) (s := hp B [(N0 + 4, some ⟨129, 2, [[.int .i64 p1, .sl (N0 + 58) 0 l6.length]]⟩), (N0 + 37, none), (N0 + 58, some ⟨47, 5, encL rInstr l6⟩)] (N0 + 67)) rfl rfl fun a' ha => ?_
   refine hK21 _ _ ?_; rw [ha]
   refine AWP_ret ?_
   replace H := Option.some.inj H; subst H
   have e0 : N0 ≤ N0 + 4 := by omega
   have e1 : N0 ≤ N0 + 37 := by omega
   have e2 : N0 ≤ N0 + 58 := by omega
   refine ⟨[.sl (N0 + 58) 0 l6.length], by simp [e0, e1, e2], ?_, ?_⟩
   ·
    simp [encL_nil, e0, e1, e2]
   ·
    intro o ho; exact lk_out (by simp; try omega)
 ·
  replace H := ifF C33 H
  refine AWP_seqk [2, 3, 7, 15, 23] fun K22 hK22 => ?_
  refine AWP_regl tok [] ?_
  simp -dsimp -implicitDefEqProofs (maxDischargeDepth := 6)
  refine keepE2 (l := [2, 3, 7, 15, 23]) (x := [(2, .int .i64 p2), (3, .fptr [.int .i64 p0.Op, .int .i64 p0.Dst, .int .i64 p0.A, .int .i64 p0.B, .int .i64 p0.N] 0), (7, .ptr (N0 + 4) 0 0), (15, .int .i64 p0.Op), (23, .bool (ieq p0.Op 2))]) (s := hp B [(N0 + 4, some ⟨129, 2, [[.int .i64 p1, .nilsl]]⟩)] (N0 + 12)) rfl rfl fun a' ha => ?_
  refine hK22 _ _ ?_; rw [ha]
  refine AWP_cond (ieq p0.Op 2) rfl (fun C32 => ?_) (fun C32 => ?_)
  ·
   replace H := ifT C32 H
   refine AWP_seqk [3, 7, 8] fun K23 hK23 => ?_
   refine AWP_regl tok [] ?_
   simp -dsimp -implicitDefEqProofs (maxDischargeDepth := 6)
   refine ACalls_fn tok Tryd.func117 (by kernel_rfl) rfl Tryd.ntmps117 Tryd.results117 rfl ?_
   simp only [argsA, Nat.reduceAdd]
   refine AWP_seqk [0, 1, 2] fun K25 hK25 => ?_
   refine AWP_regl tok [] ?_
   simp -dsimp -implicitDefEqProofs (maxDischargeDepth := 6)
   refine keepE2 (l := [0, 1, 2]) (x := [(0, .ptr (N0 + 4) 0 0), (1, .int .i64 p0.A), (2, .int .i64 5)]) (s := hp B [(N0 + 4, some ⟨129, 2, [[.int .i64 p1, .nilsl]]⟩)] (N0 + 19)) rfl rfl fun a' ha => ?_
   refine hK25 _ _ ?_; rw [ha]
   refine AWP_seqk [0, 1, 2] fun K26 hK26 => ?_
   refine AWP_seqk [0, 1, 2, 12] fun K27 hK27 => ?_
   refine AWP_regl tok [] ?_
   simp -dsimp -implicitDefEqProofs (maxDischargeDepth := 6)
   refine keepE2 (l := [0, 1, 2, 12]) (x := [(0, .ptr (N0 + 4) 0 0), (1, .int .i64 p0.A), (2, .int .i64 5), (12, .bool (ilt p0.A p1))]) (s := hp B [(N0 + 4, some ⟨129, 2, [[.int .i64 p1, .nilsl]]⟩)] (N0 + 25)) rfl rfl fun a' ha => ?_
   refine hK27 _ _ ?_; rw [ha]
   refine AWP_cond (ilt p0.A p1) rfl (fun C4 => ?_) (fun C4 => ?_)
   ·
    replace H := ifT C4 H
    refine AWP_seqk [6] fun K28 hK28 => ?_
    obtain ⟨v7, hv7, H⟩ := bindE H
    refine AWP_regl tok [] ?_
    simp -dsimp -implicitDefEqProofs (maxDischargeDepth := 6) [gx157 hv7, gl_get hv7]
    refine keepE2 (l := [6]) (x := [(6, .int .i64 v7)]) (s := hp B [(N0 + 4, some ⟨129, 2, [[.int .i64 p1, .nilsl]]⟩)] (N0 + 29)) rfl rfl fun a' ha => ?_
    refine hK28 _ _ ?_; rw [ha]
    refine AWP_ret ?_
    have e0 : N0 ≤ N0 + 4 := by omega
    refine ⟨[.int .i64 v7], by simp [e0], ?_⟩
    simp -dsimp -implicitDefEqProofs (maxDischargeDepth := 6)
    refine keepE2 (l := [3, 7, 8]) (x := [(3, .fptr [.int .i64 p0.Op, .int .i64 p0.Dst, .int .i64 p0.A, .int .i64 p0.B, .int .i64 p0.N] 0), (7, .ptr (N0 + 4) 0 0), (8, .ptr (N0 + 16) 0 0)]) (s := hp B [(N0 + 4, some ⟨129, 2, [[.int .i64 p1, .nilsl]]⟩), (N0 + 16, some ⟨3, 1, [[.int .i64 v7]]⟩)] (N0 + 29)) rfl rfl fun a' ha => ?_
    refine hK23 _ _ ?_; rw [ha]
    refine AWP_toThen ?_
    refine AWP_regl tok [] ?_
    simp -dsimp -implicitDefEqProofs (maxDischargeDepth := 6)
    refine ACalls_fn tok Tryd.func115 (by kernel_rfl) rfl Tryd.ntmps115 Tryd.results115 rfl ?_
    simp only [argsA, Nat.reduceAdd]
    refine AWP_toThen (AWP_named fun K29 hK29 => ?_)
    refine AWP_seqk [0, 1, 2] fun K30 hK30 => ?_
    refine AWP_seqk [0, 1, 2, 11] fun K31 hK31 => ?_
    refine AWP_regl tok [] ?_
    simp -dsimp -implicitDefEqProofs (maxDischargeDepth := 6)
    refine keepE2 (l := [0, 1, 2, 11]) (x := [(0, .ptr (N0 + 4) 0 0), (1, .int .i64 p0.Dst), (2, .clo 118 [] [.ptr (N0 + 16) 0 0]), (11, .bool (ilt p0.Dst p1))]) (s := hp B [(N0 + 4, some ⟨129, 2, [[.int .i64 p1, .nilsl]]⟩), (N0 + 16, some ⟨3, 1, [[.int .i64 v7]]⟩)] (N0 + 40)) rfl rfl fun a' ha => ?_
    refine hK31 _ _ ?_; rw [ha]
    refine AWP_cond (ilt p0.Dst p1) rfl (fun C2 => ?_) (fun C2 => ?_)
    ·
     replace H := ifT C2 H
     refine AWP_seqk [] fun K32 hK32 => ?_
     obtain ⟨v8, hv8, H⟩ := bindE H
     refine AWP_regl tok [] ?_
     simp -dsimp -implicitDefEqProofs (maxDischargeDepth := 6) [gx157 hv8, gl_get hv8]
     refine ACalls_fn tok Tryd.func118 (by kernel_rfl) rfl Tryd.ntmps118 Tryd.results118 rfl ?_
     simp only [argsA, Nat.reduceAdd]
     refine AWP_seqk [0, 1] fun K34 hK34 => ?_
     refine AWP_regl tok [] ?_
     simp -dsimp -implicitDefEqProofs (maxDischargeDepth := 6)
     refine keepE2 (l := [0, 1]) (x := [(0, .int .i64 v8), (1, .ptr (N0 + 16) 0 0)]) (s := hp B [(N0 + 4, some ⟨129, 2, [[.int .i64 p1, .nilsl]]⟩), (N0 + 16, some ⟨3, 1, [[.int .i64 v7]]⟩)] (N0 + 48)) rfl rfl fun a' ha => ?_
     refine hK34 _ _ ?_; rw [ha]
     refine AWP_seqk [3] fun K35 hK35 => ?_
     obtain ⟨r9, hr9, H⟩ := bindE H
     have q1 : ∀ σ i, buildSliceA T 29 true i 1 [(0, .agg [.int .i64 r9.Op, .int .i64 r9.Rd, .int .i64 r9.Rs, .int .i64 r9.Rt, .int .i64 r9.Imm])] σ = some (.fsl (encL rInstr ([r9] : List gInstr)), σ) := fun _ _ => rfl
     refine AWP_regl tok [3] ?_
     simp -dsimp -implicitDefEqProofs (maxDischargeDepth := 6) [q1]
     refine (c119 hr9).app ?_; try simp -dsimp -implicitDefEqProofs (maxDischargeDepth := 6) [q1]
     refine keepE2 (l := [3]) (x := [(3, .fsl (encL rInstr ([r9] : List gInstr)))]) (s := hp B [(N0 + 4, some ⟨129, 2, [[.int .i64 p1, .nilsl]]⟩), (N0 + 16, some ⟨3, 1, [[.int .i64 v7]]⟩)] (N0 + 53)) rfl rfl fun a' ha => ?_
     refine hK35 _ _ ?_; rw [ha]
     refine AWP_ret ?_
     have e0 : N0 ≤ N0 + 4 := by omega
     have e1 : N0 ≤ N0 + 16 := by omega
     refine ⟨[.fsl (encL rInstr ([r9] : List gInstr))], by simp [e0, e1], ?_⟩
     simp -dsimp -implicitDefEqProofs (maxDischargeDepth := 6)
     refine ACalls_fn tok Tryd.func122 (by kernel_rfl) rfl Tryd.ntmps122 Tryd.results122 rfl ?_
     simp only [argsA, Nat.reduceAdd]
     refine AWP_toThen (AWP_named fun K36 hK36 => ?_)
     obtain ⟨l10, hl10, H⟩ := bindE H
     refine AWP_regl tok [] ?_
     simp -dsimp -implicitDefEqProofs (maxDischargeDepth := 6) [appn29 hl10]
     refine keepE2 (l := []) (x := []) (s := hp B [(N0 + 4, some ⟨129, 2, [[.int .i64 p1, .sl (N0 + 59) 0 l10.length]]⟩), (N0 + 16, some ⟨3, 1, [[.int .i64 v7]]⟩), (N0 + 59, some ⟨47, 5, encL rInstr l10⟩)] (N0 + 63)) rfl rfl fun a' ha => ?_
     refine hK36 _ _ ?_; try rw [ha]
     have e0 : N0 ≤ N0 + 4 := by omega
     have e1 : N0 ≤ N0 + 16 := by omega
     have e2 : N0 ≤ N0 + 59 := by omega
     refine ⟨[], by simp [e0, e1, e2], ?_⟩
     simp -dsimp -implicitDefEqProofs (maxDischargeDepth := 6)
     refine keepE2 (l := []) (x := []) (s := hp B [(N0 + 4, some ⟨129, 2, [[.int .i64 p1, .sl (N0 + 59) 0 l10.length]]⟩), (N0 + 16, some ⟨3, 1, [[.int .i64 v7]]⟩), (N0 + 59, some ⟨47, 5, encL rInstr l10⟩)] (N0 + 63)) rfl rfl fun a' ha => ?_
     refine hK32 _ _ ?_; rw [ha]
     refine AWP_ret ?_
     have e0 : N0 ≤ N0 + 4 := by omega
     have e1 : N0 ≤ N0 + 16 := by omega
     have e2 : N0 ≤ N0 + 59 := by omega
     refine ⟨[], by simp [e0, e1, e2], ?_⟩
     simp -dsimp -implicitDefEqProofs (maxDischargeDepth := 6)
     refine keepE2 (l := [7]) (x := [(7, .ptr (N0 + 4) 0 0)]) (s := hp B [(N0 + 4, some ⟨129, 2, [[.int .i64 p1, .sl (N0 + 59) 0 l10.length]]⟩), (N0 + 16, some ⟨3, 1, [[.int .i64 v7]]⟩), (N0 + 59, some ⟨47, 5, encL rInstr l10⟩)] (N0 + 63)) rfl rfl fun a' ha => ?_
     refine hK3 _ _ ?_; rw [ha]
     refine AWP_seqk [6] fun K37 hK37 => ?_
     refine AWP_regl tok [] ?_
     simp -dsimp -implicitDefEqProofs (maxDischargeDepth := 6)
     refine keepE2 (l := [6]) (x := [(6, .sl (N0 + 59) 0 l10.length)]) (s := hp B [(N0 + 4, some ⟨129, 2, [[.int .i64 p1, .sl (N0 + 59) 0 l10.length]]⟩), (N0 + 16, some ⟨3, 1, [[.int .i64 v7]]⟩), (N0 + 59, some ⟨47, 5, encL rInstr l10⟩)] (N0 + 68)) rfl rfl fun a' ha => ?_
     refine hK37 _ _ ?_; rw [ha]
     refine AWP_ret ?_
     replace H := Option.some.inj H; subst H
     have e0 : N0 ≤ N0 + 4 := by omega
     have e1 : N0 ≤ N0 + 16 := by omega
     have e2 : N0 ≤ N0 + 59 := by omega
     refine ⟨[.sl (N0 + 59) 0 l10.length], by simp [e0, e1, e2], ?_, ?_⟩
     ·
      simp [encL_nil, e0, e1, e2]
     ·
      intro o ho; exact lk_out (by simp; try omega)
    ·
     replace H := ifF C2 H
     refine AWP_skip ?_
     show K30 _ _
     refine keepE (l := [0, 1, 2]) (x := [(0, .ptr (N0 + 4) 0 0), (1, .int .i64 p0.Dst), (2, .clo 118 [] [.ptr (N0 + 16) 0 0])]) rfl fun a' ha => ?_
     refine hK30 _ _ ?_; rw [ha]
     refine AWP_seqk [0, 1] fun K38 hK38 => ?_
     refine AWP_regl tok [] ?_
     simp -dsimp -implicitDefEqProofs (maxDischargeDepth := 6)
     refine ACalls_fn tok Tryd.func118 (by kernel_rfl) rfl Tryd.ntmps118 Tryd.results118 rfl ?_
     simp only [argsA, Nat.reduceAdd]
     refine AWP_seqk [0, 1] fun K40 hK40 => ?_
     refine AWP_regl tok [] ?_
     simp -dsimp -implicitDefEqProofs (maxDischargeDepth := 6)
     refine keepE2 (l := [0, 1]) (x := [(0, .int .i64 7), (1, .ptr (N0 + 16) 0 0)]) (s := hp B [(N0 + 4, some ⟨129, 2, [[.int .i64 p1, .nilsl]]⟩), (N0 + 16, some ⟨3, 1, [[.int .i64 v7]]⟩)] (N0 + 45)) rfl rfl fun a' ha => ?_
     refine hK40 _ _ ?_; rw [ha]
     refine AWP_seqk [3] fun K41 hK41 => ?_
     obtain ⟨r11, hr11, H⟩ := bindE H
     have q2 : ∀ σ i, buildSliceA T 29 true i 1 [(0, .agg [.int .i64 r11.Op, .int .i64 r11.Rd, .int .i64 r11.Rs, .int .i64 r11.Rt, .int .i64 r11.Imm])] σ = some (.fsl (encL rInstr ([r11] : List gInstr)), σ) := fun _ _ => rfl
     refine AWP_regl tok [3] ?_
     simp -dsimp -implicitDefEqProofs (maxDischargeDepth := 6) [q2]
     refine (c119 hr11).app ?_; try simp -dsimp -implicitDefEqProofs (maxDischargeDepth := 6) [q2]
     refine keepE2 (l := [3]) (x := [(3, .fsl (encL rInstr ([r11] : List gInstr)))]) (s := hp B [(N0 + 4, some ⟨129, 2, [[.int .i64 p1, .nilsl]]⟩), (N0 + 16, some ⟨3, 1, [[.int .i64 v7]]⟩)] (N0 + 50)) rfl rfl fun a' ha => ?_
     refine hK41 _ _ ?_; rw [ha]
     refine AWP_ret ?_
     have e0 : N0 ≤ N0 + 4 := by omega
     have e1 : N0 ≤ N0 + 16 := by omega
     refine ⟨[.fsl (encL rInstr ([r11] : List gInstr))], by simp [e0, e1], ?_⟩
     simp -dsimp -implicitDefEqProofs (maxDischargeDepth := 6)
     refine ACalls_fn tok Tryd.func122 (by kernel_rfl) rfl Tryd.ntmps122 Tryd.results122 rfl ?_
     simp only [argsA, Nat.reduceAdd]
     refine AWP_toThen (AWP_named fun K42 hK42 => ?_)
     obtain ⟨l12, hl12, H⟩ := bindE H
     refine AWP_regl tok [] ?_
     simp -dsimp -implicitDefEqProofs (maxDischargeDepth := 6) [appn29 hl12]
     refine keepE2 (l := []) (x := []) (s := hp B [(N0 + 4, some ⟨129, 2, [[.int .i64 p1, .sl (N0 + 56) 0 l12.length]]⟩), (N0 + 16, some ⟨3, 1, [[.int .i64 v7]]⟩), (N0 + 56, some ⟨47, 5, encL rInstr l12⟩)] (N0 + 60)) rfl rfl fun a' ha => ?_
     refine hK42 _ _ ?_; try rw [ha]
     have e0 : N0 ≤ N0 + 4 := by omega
     have e1 : N0 ≤ N0 + 16 := by omega
     have e2 : N0 ≤ N0 + 56 := by omega
     refine ⟨[], by simp [e0, e1, e2], ?_⟩
     simp -dsimp -implicitDefEqProofs (maxDischargeDepth := 6)
     refine keepE2 (l := [0, 1]) (x := [(0, .ptr (N0 + 4) 0 0), (1, .int .i64 p0.Dst)]) (s := hp B [(N0 + 4, some ⟨129, 2, [[.int .i64 p1, .sl (N0 + 56) 0 l12.length]]⟩), (N0 + 16, some ⟨3, 1, [[.int .i64 v7]]⟩), (N0 + 56, some ⟨47, 5, encL rInstr l12⟩)] (N0 + 60)) rfl rfl fun a' ha => ?_
     refine hK38 _ _ ?_; rw [ha]
     have q3 : ∀ σ i, buildSliceA T 29 true i 1 [(0, .agg [.int .i64 16, .int .i64 0, .int .i64 2, .int .i64 7, .int .i64 (imul .i64 4 (isub .i64 p0.Dst p1))])] σ = some (.fsl (encL rInstr ([(⟨16, 0, 2, 7, imul .i64 4 (isub .i64 p0.Dst p1)⟩ : gInstr)] : List gInstr)), σ) := fun _ _ => rfl
     refine AWP_regl tok [9] ?_
     simp -dsimp -implicitDefEqProofs (maxDischargeDepth := 6) [q3]
     refine ACalls_fn tok Tryd.func122 (by kernel_rfl) rfl Tryd.ntmps122 Tryd.results122 rfl ?_
     simp only [argsA, Nat.reduceAdd]
     refine AWP_toThen (AWP_named fun K43 hK43 => ?_)
     obtain ⟨l13, hl13, H⟩ := bindE H
     refine AWP_regl tok [] ?_
     simp -dsimp -implicitDefEqProofs (maxDischargeDepth := 6) [app29 hl13]
     refine keepE2 (l := []) (x := []) (s := hp B [(N0 + 4, some ⟨129, 2, [[.int .i64 p1, .sl (N0 + 77) 0 l13.length]]⟩), (N0 + 16, some ⟨3, 1, [[.int .i64 v7]]⟩), (N0 + 56, none), (N0 + 77, some ⟨47, 5, encL rInstr l13⟩)] (N0 + 81)) rfl rfl fun a' ha => ?_
     refine hK43 _ _ ?_; try rw [ha]
     have e0 : N0 ≤ N0 + 4 := by omega
     have e1 : N0 ≤ N0 + 16 := by omega
     have e2 : N0 ≤ N0 + 56 := by omega
     have e3 : N0 ≤ N0 + 77 := by omega
     refine ⟨[], by simp [e0, e1, e2, e3], ?_⟩
     simp -dsimp -implicitDefEqProofs (maxDischargeDepth := 6)
     refine keepE2 (l := []) (x := []) (s := hp B [(N0 + 4, some ⟨129, 2, [[.int .i64 p1, .sl (N0 + 77) 0 l13.length]]⟩), (N0 + 16, some ⟨3, 1, [[.int .i64 v7]]⟩), (N0 + 56, none), (N0 + 77, some ⟨47, 5, encL rInstr l13⟩)] (N0 + 81)) rfl rfl fun a' ha => ?_
     refine hK29 _ _ ?_; try rw [ha]
     have e0 : N0 ≤ N0 + 4 := by omega
     have e1 : N0 ≤ N0 + 16 := by omega
     have e2 : N0 ≤ N0 + 56 := by omega
     have e3 : N0 ≤ N0 + 77 := by omega
     refine ⟨[], by simp [e0, e1, e2, e3], ?_⟩
     simp -dsimp -implicitDefEqProofs (maxDischargeDepth := 6)
     refine keepE2 (l := [7]) (x := [(7, .ptr (N0 + 4) 0 0)]) (s := hp B [(N0 + 4, some ⟨129, 2, [[.int .i64 p1, .sl (N0 + 77) 0 l13.length]]⟩), (N0 + 16, some ⟨3, 1, [[.int .i64 v7]]⟩), (N0 + 56, none), (N0 + 77, some ⟨47, 5, encL rInstr l13⟩)] (N0 + 81)) rfl rfl fun a' ha => ?_
     refine hK3 _ _ ?_; rw [ha]
     refine AWP_seqk [6] fun K44 hK44 => ?_
     refine AWP_regl tok [] ?_
     simp -dsimp -implicitDefEqProofs (maxDischargeDepth := 6)
     refine keepE2 (l := [6]) (x := [(6, .sl (N0 + 77) 0 l13.length)]) (s := hp B [(N0 + 4, some ⟨129, 2, [[.int .i64 p1, .sl (N0 + 77) 0 l13.length]]⟩), (N0 + 16, some ⟨3, 1, [[.int .i64 v7]]⟩), (N0 + 56, none), (N0 + 77, some ⟨47, 5, encL rInstr l13⟩)] (N0 + 86)) rfl rfl fun a' ha => ?_
     refine hK44 _ _ ?_; rw [ha]
     refine AWP_ret ?_
     replace H := Option.some.inj H; subst H
     have e0 : N0 ≤ N0 + 4 := by omega
     have e1 : N0 ≤ N0 + 16 := by omega
     have e2 : N0 ≤ N0 + 56 := by omega
     have e3 : N0 ≤ N0 + 77 := by omega
     refine ⟨[.sl (N0 + 77) 0 l13.length], by simp [e0, e1, e2, e3], ?_, ?_⟩
     ·
      simp [encL_nil, e0, e1, e2, e3]
     ·
      intro o ho; exact lk_out (by simp; try omega)
   ·
    replace H := ifF C4 H
    refine AWP_skip ?_
    show K26 _ _
    refine keepE (l := [0, 1, 2]) (x := [(0, .ptr (N0 + 4) 0 0), (1, .int .i64 p0.A), (2, .int .i64 5)]) rfl fun a' ha => ?_
    refine hK26 _ _ ?_; rw [ha]
    refine AWP_seqk [2] fun K45 hK45 => ?_
    have q4 : ∀ σ i, buildSliceA T 29 true i 1 [(0, .agg [.int .i64 14, .int .i64 5, .int .i64 2, .int .i64 0, .int .i64 (imul .i64 4 (isub .i64 p0.A p1))])] σ = some (.fsl (encL rInstr ([(⟨14, 5, 2, 0, imul .i64 4 (isub .i64 p0.A p1)⟩ : gInstr)] : List gInstr)), σ) := fun _ _ => rfl
    refine AWP_regl tok [10] ?_
    simp -dsimp -implicitDefEqProofs (maxDischargeDepth := 6) [q4]
    refine ACalls_fn tok Tryd.func122 (by kernel_rfl) rfl Tryd.ntmps122 Tryd.results122 rfl ?_
    simp only [argsA, Nat.reduceAdd]
    refine AWP_toThen (AWP_named fun K46 hK46 => ?_)
    obtain ⟨l14, hl14, H⟩ := bindE H
    refine AWP_regl tok [] ?_
    simp -dsimp -implicitDefEqProofs (maxDischargeDepth := 6) [appn29 hl14]
    refine keepE2 (l := []) (x := []) (s := hp B [(N0 + 4, some ⟨129, 2, [[.int .i64 p1, .sl (N0 + 43) 0 l14.length]]⟩), (N0 + 43, some ⟨47, 5, encL rInstr l14⟩)] (N0 + 47)) rfl rfl fun a' ha => ?_
    refine hK46 _ _ ?_; try rw [ha]
    have e0 : N0 ≤ N0 + 4 := by omega
    have e1 : N0 ≤ N0 + 43 := by omega
    refine ⟨[], by simp [e0, e1], ?_⟩
    simp -dsimp -implicitDefEqProofs (maxDischargeDepth := 6)
    refine keepE2 (l := [2]) (x := [(2, .int .i64 5)]) (s := hp B [(N0 + 4, some ⟨129, 2, [[.int .i64 p1, .sl (N0 + 43) 0 l14.length]]⟩), (N0 + 43, some ⟨47, 5, encL rInstr l14⟩)] (N0 + 47)) rfl rfl fun a' ha => ?_
    refine hK45 _ _ ?_; rw [ha]
    refine AWP_seqk [6] fun K47 hK47 => ?_
    refine AWP_regl tok [] ?_
    simp -dsimp -implicitDefEqProofs (maxDischargeDepth := 6)
    refine keepE2 (l := [6]) (x := [(6, .int .i64 5)]) (s := hp B [(N0 + 4, some ⟨129, 2, [[.int .i64 p1, .sl (N0 + 43) 0 l14.length]]⟩), (N0 + 43, some ⟨47, 5, encL rInstr l14⟩)] (N0 + 49)) rfl rfl fun a' ha => ?_
    refine hK47 _ _ ?_; rw [ha]
    refine AWP_ret ?_
    have e0 : N0 ≤ N0 + 4 := by omega
    have e1 : N0 ≤ N0 + 43 := by omega
    refine ⟨[.int .i64 5], by simp [e0, e1], ?_⟩
    simp -dsimp -implicitDefEqProofs (maxDischargeDepth := 6)
    refine keepE2 (l := [3, 7, 8]) (x := [(3, .fptr [.int .i64 p0.Op, .int .i64 p0.Dst, .int .i64 p0.A, .int .i64 p0.B, .int .i64 p0.N] 0), (7, .ptr (N0 + 4) 0 0), (8, .ptr (N0 + 16) 0 0)]) (s := hp B [(N0 + 4, some ⟨129, 2, [[.int .i64 p1, .sl (N0 + 43) 0 l14.length]]⟩), (N0 + 43, some ⟨47, 5, encL rInstr l14⟩), (N0 + 16, some ⟨3, 1, [[.int .i64 5]]⟩)] (N0 + 49)) rfl rfl fun a' ha => ?_
    refine hK23 _ _ ?_; rw [ha]
    refine AWP_toThen ?_
    refine AWP_regl tok [] ?_
    simp -dsimp -implicitDefEqProofs (maxDischargeDepth := 6)
    refine ACalls_fn tok Tryd.func115 (by kernel_rfl) rfl Tryd.ntmps115 Tryd.results115 rfl ?_
    simp only [argsA, Nat.reduceAdd]
    refine AWP_toThen (AWP_named fun K48 hK48 => ?_)
    refine AWP_seqk [0, 1, 2] fun K49 hK49 => ?_
    refine AWP_seqk [0, 1, 2, 11] fun K50 hK50 => ?_
    refine AWP_regl tok [] ?_
    simp -dsimp -implicitDefEqProofs (maxDischargeDepth := 6)
    refine keepE2 (l := [0, 1, 2, 11]) (x := [(0, .ptr (N0 + 4) 0 0), (1, .int .i64 p0.Dst), (2, .clo 118 [] [.ptr (N0 + 16) 0 0]), (11, .bool (ilt p0.Dst p1))]) (s := hp B [(N0 + 4, some ⟨129, 2, [[.int .i64 p1, .sl (N0 + 43) 0 l14.length]]⟩), (N0 + 43, some ⟨47, 5, encL rInstr l14⟩), (N0 + 16, some ⟨3, 1, [[.int .i64 5]]⟩)] (N0 + 60)) rfl rfl fun a' ha => ?_
    refine hK50 _ _ ?_; rw [ha]
    refine AWP_cond (ilt p0.Dst p1) rfl (fun C3 => ?_) (fun C3 => ?_)
    ·
     replace H := ifT C3 H
     refine AWP_seqk [] fun K51 hK51 => ?_
     obtain ⟨v15, hv15, H⟩ := bindE H
     refine AWP_regl tok [] ?_
     simp -dsimp -implicitDefEqProofs (maxDischargeDepth := 6) [gx157 hv15, gl_get hv15]
     refine ACalls_fn tok Tryd.func118 (by kernel_rfl) rfl Tryd.ntmps118 Tryd.results118 rfl ?_
     simp only [argsA, Nat.reduceAdd]
     refine AWP_seqk [0, 1] fun K53 hK53 => ?_
     refine AWP_regl tok [] ?_
     simp -dsimp -implicitDefEqProofs (maxDischargeDepth := 6)
     refine keepE2 (l := [0, 1]) (x := [(0, .int .i64 v15), (1, .ptr (N0 + 16) 0 0)]) (s := hp B [(N0 + 4, some ⟨129, 2, [[.int .i64 p1, .sl (N0 + 43) 0 l14.length]]⟩), (N0 + 43, some ⟨47, 5, encL rInstr l14⟩), (N0 + 16, some ⟨3, 1, [[.int .i64 5]]⟩)] (N0 + 68)) rfl rfl fun a' ha => ?_
     refine hK53 _ _ ?_; rw [ha]
     refine AWP_seqk [3] fun K54 hK54 => ?_
     obtain ⟨r16, hr16, H⟩ := bindE H
     have q5 : ∀ σ i, buildSliceA T 29 true i 1 [(0, .agg [.int .i64 r16.Op, .int .i64 r16.Rd, .int .i64 r16.Rs, .int .i64 r16.Rt, .int .i64 r16.Imm])] σ = some (.fsl (encL rInstr ([r16] : List gInstr)), σ) := fun _ _ => rfl
     refine AWP_regl tok [3] ?_
     simp -dsimp -implicitDefEqProofs (maxDischargeDepth := 6) [q5]
     refine (c119 hr16).app ?_; try simp -dsimp -implicitDefEqProofs (maxDischargeDepth := 6) [q5]
     refine keepE2 (l := [3]) (x := [(3, .fsl (encL rInstr ([r16] : List gInstr)))]) (s := hp B [(N0 + 4, some ⟨129, 2, [[.int .i64 p1, .sl (N0 + 43) 0 l14.length]]⟩), (N0 + 43, some ⟨47, 5, encL rInstr l14⟩), (N0 + 16, some ⟨3, 1, [[.int .i64 5]]⟩)] (N0 + 73)) rfl rfl fun a' ha => ?_
     refine hK54 _ _ ?_; rw [ha]
     refine AWP_ret ?_
     have e0 : N0 ≤ N0 + 4 := by omega
     have e1 : N0 ≤ N0 + 43 := by omega
     have e2 : N0 ≤ N0 + 16 := by omega
     refine ⟨[.fsl (encL rInstr ([r16] : List gInstr))], by simp [e0, e1, e2], ?_⟩
     simp -dsimp -implicitDefEqProofs (maxDischargeDepth := 6)
     refine ACalls_fn tok Tryd.func122 (by kernel_rfl) rfl Tryd.ntmps122 Tryd.results122 rfl ?_
     simp only [argsA, Nat.reduceAdd]
     refine AWP_toThen (AWP_named fun K55 hK55 => ?_)
     obtain ⟨l17, hl17, H⟩ := bindE H
     refine AWP_regl tok [] ?_
     simp -dsimp -implicitDefEqProofs (maxDischargeDepth := 6) [app29 hl17]
     refine keepE2 (l := []) (x := []) (s := hp B [(N0 + 4, some ⟨129, 2, [[.int .i64 p1, .sl (N0 + 79) 0 l17.length]]⟩), (N0 + 43, none), (N0 + 16, some ⟨3, 1, [[.int .i64 5]]⟩), (N0 + 79, some ⟨47, 5, encL rInstr l17⟩)] (N0 + 83)) rfl rfl fun a' ha => ?_
     refine hK55 _ _ ?_; try rw [ha]
     have e0 : N0 ≤ N0 + 4 := by omega
     have e1 : N0 ≤ N0 + 43 := by omega
     have e2 : N0 ≤ N0 + 16 := by omega
     have e3 : N0 ≤ N0 + 79 := by omega
     refine ⟨[], by simp [e0, e1, e2, e3], ?_⟩
     simp -dsimp -implicitDefEqProofs (maxDischargeDepth := 6)
     refine keepE2 (l := []) (x := []) (s := hp B [(N0 + 4, some ⟨129, 2, [[.int .i64 p1, .sl (N0 + 79) 0 l17.length]]⟩), (N0 + 43, none), (N0 + 16, some ⟨3, 1, [[.int .i64 5]]⟩), (N0 + 79, some ⟨47, 5, encL rInstr l17⟩)] (N0 + 83)) rfl rfl fun a' ha => ?_
     refine hK51 _ _ ?_; rw [ha]
     refine AWP_ret ?_
     have e0 : N0 ≤ N0 + 4 := by omega
     have e1 : N0 ≤ N0 + 43 := by omega
     have e2 : N0 ≤ N0 + 16 := by omega
     have e3 : N0 ≤ N0 + 79 := by omega
     refine ⟨[], by simp [e0, e1, e2, e3], ?_⟩
     simp -dsimp -implicitDefEqProofs (maxDischargeDepth := 6)
     refine keepE2 (l := [7]) (x := [(7, .ptr (N0 + 4) 0 0)]) (s := hp B [(N0 + 4, some ⟨129, 2, [[.int .i64 p1, .sl (N0 + 79) 0 l17.length]]⟩), (N0 + 43, none), (N0 + 16, some ⟨3, 1, [[.int .i64 5]]⟩), (N0 + 79, some ⟨47, 5, encL rInstr l17⟩)] (N0 + 83)) rfl rfl fun a' ha => ?_
     refine hK3 _ _ ?_; rw [ha]
     refine AWP_seqk [6] fun K56 hK56 => ?_
     refine AWP_regl tok [] ?_
     simp -dsimp -implicitDefEqProofs (maxDischargeDepth := 6)
     refine keepE2 (l := [6]) (x := [(6, .sl (N0 + 79) 0 l17.length)]) (s := hp B [(N0 + 4, some ⟨129, 2, [[.int .i64 p1, .sl (N0 + 79) 0 l17.length]]⟩), (N0 + 43, none), (N0 + 16, some ⟨3, 1, [[.int .i64 5]]⟩), (N0 + 79, some ⟨47, 5, encL rInstr l17⟩)] (N0 + 88)) rfl rfl fun a' ha => ?_
     refine hK56 _ _ ?_; rw [ha]
     refine AWP_ret ?_
     replace H := Option.some.inj H; subst H
     have e0 : N0 ≤ N0 + 4 := by omega
     have e1 : N0 ≤ N0 + 43 := by omega
     have e2 : N0 ≤ N0 + 16 := by omega
     have e3 : N0 ≤ N0 + 79 := by omega
     refine ⟨[.sl (N0 + 79) 0 l17.length], by simp [e0, e1, e2, e3], ?_, ?_⟩
     ·
      simp [encL_nil, e0, e1, e2, e3]
     ·
      intro o ho; exact lk_out (by simp; try omega)
    ·
     replace H := ifF C3 H
     refine AWP_skip ?_
     show K49 _ _
     refine keepE (l := [0, 1, 2]) (x := [(0, .ptr (N0 + 4) 0 0), (1, .int .i64 p0.Dst), (2, .clo 118 [] [.ptr (N0 + 16) 0 0])]) rfl fun a' ha => ?_
     refine hK49 _ _ ?_; rw [ha]
     refine AWP_seqk [0, 1] fun K57 hK57 => ?_
     refine AWP_regl tok [] ?_
     simp -dsimp -implicitDefEqProofs (maxDischargeDepth := 6)
     refine ACalls_fn tok Tryd.func118 (by kernel_rfl) rfl Tryd.ntmps118 Tryd.results118 rfl ?_
     simp only [argsA, Nat.reduceAdd]
     refine AWP_seqk [0, 1] fun K59 hK59 => ?_
     refine AWP_regl tok [] ?_
     simp -dsimp -implicitDefEqProofs (maxDischargeDepth := 6)
     refine keepE2 (l := [0, 1]) (x := [(0, .int .i64 7), (1, .ptr (N0 + 16) 0 0)]) (s := hp B [(N0 + 4, some ⟨129, 2, [[.int .i64 p1, .sl (N0 + 43) 0 l14.length]]⟩), (N0 + 43, some ⟨47, 5, encL rInstr l14⟩), (N0 + 16, some ⟨3, 1, [[.int .i64 5]]⟩)] (N0 + 65)) rfl rfl fun a' ha => ?_
     refine hK59 _ _ ?_; rw [ha]
     refine AWP_seqk [3] fun K60 hK60 => ?_
     obtain ⟨r18, hr18, H⟩ := bindE H
     have q6 : ∀ σ i, buildSliceA T 29 true i 1 [(0, .agg [.int .i64 r18.Op, .int .i64 r18.Rd, .int .i64 r18.Rs, .int .i64 r18.Rt, .int .i64 r18.Imm])] σ = some (.fsl (encL rInstr ([r18] : List gInstr)), σ) := fun _ _ => rfl
     refine AWP_regl tok [3] ?_
     simp -dsimp -implicitDefEqProofs (maxDischargeDepth := 6) [q6]
     refine (c119 hr18).app ?_; try simp -dsimp -implicitDefEqProofs (maxDischargeDepth := 6) [q6]
     refine keepE2 (l := [3]) (x := [(3, .fsl (encL rInstr ([r18] : List gInstr)))]) (s := hp B [(N0 + 4, some ⟨129, 2, [[.int .i64 p1, .sl (N0 + 43) 0 l14.length]]⟩), (N0 + 43, some ⟨47, 5, encL rInstr l14⟩), (N0 + 16, some ⟨3, 1, [[.int .i64 5]]⟩)] (N0 + 70)) rfl rfl fun a' ha => ?_
     refine hK60 _ _ ?_; rw [ha]
     refine AWP_ret ?_
     have e0 : N0 ≤ N0 + 4 := by omega
     have e1 : N0 ≤ N0 + 43 := by omega
     have e2 : N0 ≤ N0 + 16 := by omega
     refine ⟨[.fsl (encL rInstr ([r18] : List gInstr))], by simp [e0, e1, e2], ?_⟩
     simp -dsimp -implicitDefEqProofs (maxDischargeDepth := 6)
     refine ACalls_fn tok Tryd.func122 (by kernel_rfl) rfl Tryd.ntmps122 Tryd.results122 rfl ?_
     simp only [argsA, Nat.reduceAdd]
     refine AWP_toThen (AWP_named fun K61 hK61 => ?_)
     obtain ⟨l19, hl19, H⟩ := bindE H
     refine AWP_regl tok [] ?_
     simp -dsimp -implicitDefEqProofs (maxDischargeDepth := 6) [app29 hl19]
     refine keepE2 (l := []) (x := []) (s := hp B [(N0 + 4, some ⟨129, 2, [[.int .i64 p1, .sl (N0 + 76) 0 l19.length]]⟩), (N0 + 43, none), (N0 + 16, some ⟨3, 1, [[.int .i64 5]]⟩), (N0 + 76, some ⟨47, 5, encL rInstr l19⟩)] (N0 + 80)) rfl rfl fun a' ha => ?_
     refine hK61 _ _ ?_; try rw [ha]
     have e0 : N0 ≤ N0 + 4 := by omega
     have e1 : N0 ≤ N0 + 43 := by omega
     have e2 : N0 ≤ N0 + 16 := by omega
     have e3 : N0 ≤ N0 + 76 := by omega
     refine ⟨[], by simp [e0, e1, e2, e3], ?_⟩
     simp -dsimp -implicitDefEqProofs (maxDischargeDepth := 6)
     refine keepE2 (l := [0, 1]) (x := [(0, .ptr (N0 + 4) 0 0), (1, .int .i64 p0.Dst)]) (s := hp B [(N0 + 4, some ⟨129, 2, [[.int .i64 p1, .sl (N0 + 76) 0 l19.length]]⟩), (N0 + 43, none), (N0 + 16, some ⟨3, 1, [[.int .i64 5]]⟩), (N0 + 76, some ⟨47, 5, encL rInstr l19⟩)] (N0 + 80)) rfl rfl fun a' ha => ?_
     refine hK57 _ _ ?_; rw [ha]
     have q7 : ∀ σ i, buildSliceA T 29 true i 1 [(0, .agg [.int .i64 16, .int .i64 0, .int .i64 2, .int .i64 7, .int .i64 (imul .i64 4 (isub .i64 p0.Dst p1))])] σ = some (.fsl (encL rInstr ([(⟨16, 0, 2, 7, imul .i64 4 (isub .i64 p0.Dst p1)⟩ : gInstr)] : List gInstr)), σ) := fun _ _ => rfl
     refine AWP_regl tok [9] ?_
     simp -dsimp -implicitDefEqProofs (maxDischargeDepth := 6) [q7]
     refine ACalls_fn tok Tryd.func122 (by kernel_rfl) rfl Tryd.ntmps122 Tryd.results122 rfl ?_
     simp only [argsA, Nat.reduceAdd]
     refine AWP_toThen (AWP_named fun K62 hK62 => ?_)
     obtain ⟨l20, hl20, H⟩ := bindE H
     refine AWP_regl tok [] ?_
     simp -dsimp -implicitDefEqProofs (maxDischargeDepth := 6) [app29 hl20]
     refine keepE2 (l := []) (x := []) (s := hp B [(N0 + 4, some ⟨129, 2, [[.int .i64 p1, .sl (N0 + 97) 0 l20.length]]⟩), (N0 + 43, none), (N0 + 16, some ⟨3, 1, [[.int .i64 5]]⟩), (N0 + 76, none), (N0 + 97, some ⟨47, 5, encL rInstr l20⟩)] (N0 + 101)) rfl rfl fun a' ha => ?_
     refine hK62 _ _ ?_; try rw [ha]
     have e0 : N0 ≤ N0 + 4 := by omega
     have e1 : N0 ≤ N0 + 43 := by omega
     have e2 : N0 ≤ N0 + 16 := by omega
     have e3 : N0 ≤ N0 + 76 := by omega
     have e4 : N0 ≤ N0 + 97 := by omega
     refine ⟨[], by simp [e0, e1, e2, e3, e4], ?_⟩
     simp -dsimp -implicitDefEqProofs (maxDischargeDepth := 6)
     refine keepE2 (l := []) (x := []) (s := hp B [(N0 + 4, some ⟨129, 2, [[.int .i64 p1, .sl (N0 + 97) 0 l20.length]]⟩), (N0 + 43, none), (N0 + 16, some ⟨3, 1, [[.int .i64 5]]⟩), (N0 + 76, none), (N0 + 97, some ⟨47, 5, encL rInstr l20⟩)] (N0 + 101)) rfl rfl fun a' ha => ?_
     refine hK48 _ _ ?_; try rw [ha]
     have e0 : N0 ≤ N0 + 4 := by omega
     have e1 : N0 ≤ N0 + 43 := by omega
     have e2 : N0 ≤ N0 + 16 := by omega
     have e3 : N0 ≤ N0 + 76 := by omega
     have e4 : N0 ≤ N0 + 97 := by omega
     refine ⟨[], by simp [e0, e1, e2, e3, e4], ?_⟩
     simp -dsimp -implicitDefEqProofs (maxDischargeDepth := 6)
     refine keepE2 (l := [7]) (x := [(7, .ptr (N0 + 4) 0 0)]) (s := hp B [(N0 + 4, some ⟨129, 2, [[.int .i64 p1, .sl (N0 + 97) 0 l20.length]]⟩), (N0 + 43, none), (N0 + 16, some ⟨3, 1, [[.int .i64 5]]⟩), (N0 + 76, none), (N0 + 97, some ⟨47, 5, encL rInstr l20⟩)] (N0 + 101)) rfl rfl fun a' ha => ?_
     refine hK3 _ _ ?_; rw [ha]
     refine AWP_seqk [6] fun K63 hK63 => ?_
     refine AWP_regl tok [] ?_
     simp -dsimp -implicitDefEqProofs (maxDischargeDepth := 6)
     refine keepE2 (l := [6]) (x := [(6, .sl (N0 + 97) 0 l20.length)]) (s := hp B [(N0 + 4, some ⟨129, 2, [[.int .i64 p1, .sl (N0 + 97) 0 l20.length]]⟩), (N0 + 43, none), (N0 + 16, some ⟨3, 1, [[.int .i64 5]]⟩), (N0 + 76, none), (N0 + 97, some ⟨47, 5, encL rInstr l20⟩)] (N0 + 106)) rfl rfl fun a' ha => ?_
     refine hK63 _ _ ?_; rw [ha]
     refine AWP_ret ?_
     replace H := Option.some.inj H; subst H
     have e0 : N0 ≤ N0 + 4 := by omega
     have e1 : N0 ≤ N0 + 43 := by omega
     have e2 : N0 ≤ N0 + 16 := by omega
     have e3 : N0 ≤ N0 + 76 := by omega
     have e4 : N0 ≤ N0 + 97 := by omega
     refine ⟨[.sl (N0 + 97) 0 l20.length], by simp [e0, e1, e2, e3, e4], ?_, ?_⟩
     ·
      simp [encL_nil, e0, e1, e2, e3, e4]
     ·
      intro o ho; exact lk_out (by simp; try omega)
  ·
   replace H := ifF C32 H
   refine AWP_seqk [2, 3, 7, 15, 34] fun K64 hK64 => ?_
   refine AWP_regl tok [] ?_
   simp -dsimp -implicitDefEqProofs (maxDischargeDepth := 6)
   refine keepE2 (l := [2, 3, 7, 15, 34]) (x := [(2, .int .i64 p2), (3, .fptr [.int .i64 p0.Op, .int .i64 p0.Dst, .int .i64 p0.A, .int .i64 p0.B, .int .i64 p0.N] 0), (7, .ptr (N0 + 4) 0 0), (15, .int .i64 p0.Op), (34, .bool (ieq p0.Op 3))]) (s := hp B [(N0 + 4, some ⟨129, 2, [[.int .i64 p1, .nilsl]]⟩)] (N0 + 14)) rfl rfl fun a' ha => ?_
   refine hK64 _ _ ?_; rw [ha]
   refine AWP_cond (ieq p0.Op 3) rfl (fun C31 => ?_) (fun C31 => ?_)
   ·
    replace H := ifT C31 H
    refine AWP_seqk [3, 7, 9] fun K65 hK65 => ?_
    refine AWP_regl tok [] ?_
    simp -dsimp -implicitDefEqProofs (maxDischargeDepth := 6)
    refine ACalls_fn tok Tryd.func117 (by kernel_rfl) rfl Tryd.ntmps117 Tryd.results117 rfl ?_
    simp only [argsA, Nat.reduceAdd]
    refine AWP_seqk [0, 1, 2] fun K67 hK67 => ?_
    refine AWP_regl tok [] ?_
    simp -dsimp -implicitDefEqProofs (maxDischargeDepth := 6)
    refine keepE2 (l := [0, 1, 2]) (x := [(0, .ptr (N0 + 4) 0 0), (1, .int .i64 p0.A), (2, .int .i64 5)]) (s := hp B [(N0 + 4, some ⟨129, 2, [[.int .i64 p1, .nilsl]]⟩)] (N0 + 21)) rfl rfl fun a' ha => ?_
    refine hK67 _ _ ?_; rw [ha]
    refine AWP_seqk [0, 1, 2] fun K68 hK68 => ?_
    refine AWP_seqk [0, 1, 2, 12] fun K69 hK69 => ?_
    refine AWP_regl tok [] ?_
    simp -dsimp -implicitDefEqProofs (maxDischargeDepth := 6)
    refine keepE2 (l := [0, 1, 2, 12]) (x := [(0, .ptr (N0 + 4) 0 0), (1, .int .i64 p0.A), (2, .int .i64 5), (12, .bool (ilt p0.A p1))]) (s := hp B [(N0 + 4, some ⟨129, 2, [[.int .i64 p1, .nilsl]]⟩)] (N0 + 27)) rfl rfl fun a' ha => ?_
    refine hK69 _ _ ?_; rw [ha]
    refine AWP_cond (ilt p0.A p1) rfl (fun C19 => ?_) (fun C19 => ?_)
    ·
     replace H := ifT C19 H
     refine AWP_seqk [6] fun K70 hK70 => ?_
     obtain ⟨v21, hv21, H⟩ := bindE H
     refine AWP_regl tok [] ?_
     simp -dsimp -implicitDefEqProofs (maxDischargeDepth := 6) [gx157 hv21, gl_get hv21]
     refine keepE2 (l := [6]) (x := [(6, .int .i64 v21)]) (s := hp B [(N0 + 4, some ⟨129, 2, [[.int .i64 p1, .nilsl]]⟩)] (N0 + 31)) rfl rfl fun a' ha => ?_
     refine hK70 _ _ ?_; rw [ha]
     refine AWP_ret ?_
     have e0 : N0 ≤ N0 + 4 := by omega
     refine ⟨[.int .i64 v21], by simp [e0], ?_⟩
     simp -dsimp -implicitDefEqProofs (maxDischargeDepth := 6)
     refine keepE2 (l := [3, 7, 9]) (x := [(3, .fptr [.int .i64 p0.Op, .int .i64 p0.Dst, .int .i64 p0.A, .int .i64 p0.B, .int .i64 p0.N] 0), (7, .ptr (N0 + 4) 0 0), (9, .ptr (N0 + 18) 0 0)]) (s := hp B [(N0 + 4, some ⟨129, 2, [[.int .i64 p1, .nilsl]]⟩), (N0 + 18, some ⟨3, 1, [[.int .i64 v21]]⟩)] (N0 + 31)) rfl rfl fun a' ha => ?_
     refine hK65 _ _ ?_; rw [ha]
     refine AWP_seqk [3, 7, 9, 10] fun K71 hK71 => ?_
     refine AWP_regl tok [] ?_
     simp -dsimp -implicitDefEqProofs (maxDischargeDepth := 6)
     refine ACalls_fn tok Tryd.func117 (by kernel_rfl) rfl Tryd.ntmps117 Tryd.results117 rfl ?_
     simp only [argsA, Nat.reduceAdd]
     refine AWP_seqk [0, 1, 2] fun K73 hK73 => ?_
     refine AWP_regl tok [] ?_
     simp -dsimp -implicitDefEqProofs (maxDischargeDepth := 6)
     refine keepE2 (l := [0, 1, 2]) (x := [(0, .ptr (N0 + 4) 0 0), (1, .int .i64 p0.B), (2, .int .i64 6)]) (s := hp B [(N0 + 4, some ⟨129, 2, [[.int .i64 p1, .nilsl]]⟩), (N0 + 18, some ⟨3, 1, [[.int .i64 v21]]⟩)] (N0 + 38)) rfl rfl fun a' ha => ?_
     refine hK73 _ _ ?_; rw [ha]
     refine AWP_seqk [0, 1, 2] fun K74 hK74 => ?_
     refine AWP_seqk [0, 1, 2, 12] fun K75 hK75 => ?_
     refine AWP_regl tok [] ?_
     simp -dsimp -implicitDefEqProofs (maxDischargeDepth := 6)
     refine keepE2 (l := [0, 1, 2, 12]) (x := [(0, .ptr (N0 + 4) 0 0), (1, .int .i64 p0.B), (2, .int .i64 6), (12, .bool (ilt p0.B p1))]) (s := hp B [(N0 + 4, some ⟨129, 2, [[.int .i64 p1, .nilsl]]⟩), (N0 + 18, some ⟨3, 1, [[.int .i64 v21]]⟩)] (N0 + 44)) rfl rfl fun a' ha => ?_
     refine hK75 _ _ ?_; rw [ha]
     refine AWP_cond (ilt p0.B p1) rfl (fun C11 => ?_) (fun C11 => ?_)
     ·
      replace H := ifT C11 H
      refine AWP_seqk [6] fun K76 hK76 => ?_
      obtain ⟨v22, hv22, H⟩ := bindE H
      refine AWP_regl tok [] ?_
      simp -dsimp -implicitDefEqProofs (maxDischargeDepth := 6) [gx157 hv22, gl_get hv22]
      refine keepE2 (l := [6]) (x := [(6, .int .i64 v22)]) (s := hp B [(N0 + 4, some ⟨129, 2, [[.int .i64 p1, .nilsl]]⟩), (N0 + 18, some ⟨3, 1, [[.int .i64 v21]]⟩)] (N0 + 48)) rfl rfl fun a' ha => ?_
      refine hK76 _ _ ?_; rw [ha]
      refine AWP_ret ?_
      have e0 : N0 ≤ N0 + 4 := by omega
      have e1 : N0 ≤ N0 + 18 := by omega
      refine ⟨[.int .i64 v22], by simp [e0, e1], ?_⟩
      simp -dsimp -implicitDefEqProofs (maxDischargeDepth := 6)
      refine keepE2 (l := [3, 7, 9, 10]) (x := [(3, .fptr [.int .i64 p0.Op, .int .i64 p0.Dst, .int .i64 p0.A, .int .i64 p0.B, .int .i64 p0.N] 0), (7, .ptr (N0 + 4) 0 0), (9, .ptr (N0 + 18) 0 0), (10, .ptr (N0 + 35) 0 0)]) (s := hp B [(N0 + 4, some ⟨129, 2, [[.int .i64 p1, .nilsl]]⟩), (N0 + 18, some ⟨3, 1, [[.int .i64 v21]]⟩), (N0 + 35, some ⟨3, 1, [[.int .i64 v22]]⟩)] (N0 + 48)) rfl rfl fun a' ha => ?_
      refine hK71 _ _ ?_; rw [ha]
      refine AWP_toThen ?_
      refine AWP_regl tok [] ?_
      simp -dsimp -implicitDefEqProofs (maxDischargeDepth := 6)
      refine ACalls_fn tok Tryd.func115 (by kernel_rfl) rfl Tryd.ntmps115 Tryd.results115 rfl ?_
      simp only [argsA, Nat.reduceAdd]
      refine AWP_toThen (AWP_named fun K77 hK77 => ?_)
      refine AWP_seqk [0, 1, 2] fun K78 hK78 => ?_
      refine AWP_seqk [0, 1, 2, 11] fun K79 hK79 => ?_
      refine AWP_regl tok [] ?_
      simp -dsimp -implicitDefEqProofs (maxDischargeDepth := 6)
      refine keepE2 (l := [0, 1, 2, 11]) (x := [(0, .ptr (N0 + 4) 0 0), (1, .int .i64 p0.Dst), (2, .clo 120 [] [.fptr [.int .i64 p0.Op, .int .i64 p0.Dst, .int .i64 p0.A, .int .i64 p0.B, .int .i64 p0.N] 0, .ptr (N0 + 18) 0 0, .ptr (N0 + 35) 0 0]), (11, .bool (ilt p0.Dst p1))]) (s := hp B [(N0 + 4, some ⟨129, 2, [[.int .i64 p1, .nilsl]]⟩), (N0 + 18, some ⟨3, 1, [[.int .i64 v21]]⟩), (N0 + 35, some ⟨3, 1, [[.int .i64 v22]]⟩)] (N0 + 59)) rfl rfl fun a' ha => ?_
      refine hK79 _ _ ?_; rw [ha]
      refine AWP_cond (ilt p0.Dst p1) rfl (fun C7 => ?_) (fun C7 => ?_)
      ·
       replace H := ifT C7 H
       refine AWP_seqk [] fun K80 hK80 => ?_
       obtain ⟨v23, hv23, H⟩ := bindE H
       refine AWP_regl tok [] ?_
       simp -dsimp -implicitDefEqProofs (maxDischargeDepth := 6) [gx157 hv23, gl_get hv23]
       refine ACalls_fn tok Tryd.func120 (by kernel_rfl) rfl Tryd.ntmps120 Tryd.results120 rfl ?_
       simp only [argsA, Nat.reduceAdd]
       refine AWP_seqk [0, 1, 2, 3] fun K82 hK82 => ?_
       refine AWP_regl tok [] ?_
       simp -dsimp -implicitDefEqProofs (maxDischargeDepth := 6)
       refine keepE2 (l := [0, 1, 2, 3]) (x := [(0, .int .i64 v23), (1, .fptr [.int .i64 p0.Op, .int .i64 p0.Dst, .int .i64 p0.A, .int .i64 p0.B, .int .i64 p0.N] 0), (2, .ptr (N0 + 18) 0 0), (3, .ptr (N0 + 35) 0 0)]) (s := hp B [(N0 + 4, some ⟨129, 2, [[.int .i64 p1, .nilsl]]⟩), (N0 + 18, some ⟨3, 1, [[.int .i64 v21]]⟩), (N0 + 35, some ⟨3, 1, [[.int .i64 v22]]⟩)] (N0 + 67)) rfl rfl fun a' ha => ?_
       refine hK82 _ _ ?_; rw [ha]
       refine AWP_seqk [0, 1, 6] fun K83 hK83 => ?_
       obtain ⟨v24, hv24, H⟩ := bindE H
       obtain ⟨l25, hl25, H⟩ := bindE H
       have q8 : ∀ σ i, buildSliceA T 29 false i 1 [(0, .agg [.int .i64 v24, .int .i64 v23, .int .i64 v21, .int .i64 v22, .int .i64 0])] σ = some (.sl i 0 (List.length l25), σ.put i ⟨47, 5, encL rInstr l25⟩) := by rw [← Option.some.inj hl25]; intro _ _; rfl
       refine AWP_drawl tok tokM [] [6, 7, 8, 9, 10] [0, 1, 2, 3, 4, 5, 6, 7, 8, 9, 10] (by decide) ?_
       simp only [pickL, nthO_succ, nthO_zero]
       simp -dsimp -implicitDefEqProofs (maxDischargeDepth := 6) [gx134 hv24, gl_get hv24, q8]
       refine keepE2 (l := [0, 1, 6]) (x := [(0, .int .i64 v23), (1, .fptr [.int .i64 p0.Op, .int .i64 p0.Dst, .int .i64 p0.A, .int .i64 p0.B, .int .i64 p0.N] 0), (6, .sl (N0 + 76) 0 l25.length)]) (s := hp B [(N0 + 4, some ⟨129, 2, [[.int .i64 p1, .nilsl]]⟩), (N0 + 18, some ⟨3, 1, [[.int .i64 v21]]⟩), (N0 + 35, some ⟨3, 1, [[.int .i64 v22]]⟩), (N0 + 76, some ⟨47, 5, encL rInstr l25⟩)] (N0 + 78)) rfl rfl fun a' ha => ?_
       refine hK83 _ _ ?_; rw [ha]
       refine AWP_seqk [6] fun K84 hK84 => ?_
       refine AWP_seqk [0, 6, 19] fun K85 hK85 => ?_
       refine AWP_regl tok [] ?_
       simp -dsimp -implicitDefEqProofs (maxDischargeDepth := 6)
       refine keepE2 (l := [0, 6, 19]) (x := [(0, .int .i64 v23), (6, .sl (N0 + 76) 0 l25.length), (19, .bool (ieq p0.N 4))]) (s := hp B [(N0 + 4, some ⟨129, 2, [[.int .i64 p1, .nilsl]]⟩), (N0 + 18, some ⟨3, 1, [[.int .i64 v21]]⟩), (N0 + 35, some ⟨3, 1, [[.int .i64 v22]]⟩), (N0 + 76, some ⟨47, 5, encL rInstr l25⟩)] (N0 + 81)) rfl rfl fun a' ha => ?_
       refine hK85 _ _ ?_; rw [ha]
       refine AWP_cond (ieq p0.N 4) rfl (fun C5 => ?_) (fun C5 => ?_)
       ·
        replace H := ifT C5 H
        obtain ⟨l26, hl26, H⟩ := bindE H
        have q9 : ∀ σ i, buildSliceA T 29 true i 1 [(0, .agg [.int .i64 13, .int .i64 v23, .int .i64 v23, .int .i64 0, .int .i64 1])] σ = some (.fsl (encL rInstr ([(⟨13, v23, v23, 0, 1⟩ : gInstr)] : List gInstr)), σ) := fun _ _ => rfl
        refine AWP_regl tok [4] ?_
        simp -dsimp -implicitDefEqProofs (maxDischargeDepth := 6) [q9, app29 hl26]
        refine keepE2 (l := [6]) (x := [(6, .sl (N0 + 86) 0 l26.length)]) (s := hp B [(N0 + 4, some ⟨129, 2, [[.int .i64 p1, .nilsl]]⟩), (N0 + 18, some ⟨3, 1, [[.int .i64 v21]]⟩), (N0 + 35, some ⟨3, 1, [[.int .i64 v22]]⟩), (N0 + 76, none), (N0 + 86, some ⟨47, 5, encL rInstr l26⟩)] (N0 + 88)) rfl rfl fun a' ha => ?_
        refine hK84 _ _ ?_; rw [ha]
        refine AWP_seqk [5] fun K86 hK86 => ?_
        refine AWP_regl tok [] ?_
        simp -dsimp -implicitDefEqProofs (maxDischargeDepth := 6)
        refine keepE2 (l := [5]) (x := [(5, .sl (N0 + 86) 0 l26.length)]) (s := hp B [(N0 + 4, some ⟨129, 2, [[.int .i64 p1, .nilsl]]⟩), (N0 + 18, some ⟨3, 1, [[.int .i64 v21]]⟩), (N0 + 35, some ⟨3, 1, [[.int .i64 v22]]⟩), (N0 + 76, none), (N0 + 86, some ⟨47, 5, encL rInstr l26⟩)] (N0 + 90)) rfl rfl fun a' ha => ?_
        refine hK86 _ _ ?_; rw [ha]
        refine AWP_ret ?_
        have e0 : N0 ≤ N0 + 4 := by omega
        have e1 : N0 ≤ N0 + 18 := by omega
        have e2 : N0 ≤ N0 + 35 := by omega
        have e3 : N0 ≤ N0 + 76 := by omega
        have e4 : N0 ≤ N0 + 86 := by omega
        refine ⟨[.sl (N0 + 86) 0 l26.length], by simp [e0, e1, e2, e3, e4], ?_⟩
        simp -dsimp -implicitDefEqProofs (maxDischargeDepth := 6)
        refine ACalls_fn tok Tryd.func122 (by kernel_rfl) rfl Tryd.ntmps122 Tryd.results122 rfl ?_
        simp only [argsA, Nat.reduceAdd]
        refine AWP_toThen (AWP_named fun K87 hK87 => ?_)
        obtain ⟨l27, hl27, H⟩ := bindE H
        refine AWP_regl tok [] ?_
        simp -dsimp -implicitDefEqProofs (maxDischargeDepth := 6) [appn29 hl27]
        refine keepE2 (l := []) (x := []) (s := hp B [(N0 + 4, some ⟨129, 2, [[.int .i64 p1, .sl (N0 + 96) 0 l27.length]]⟩), (N0 + 18, some ⟨3, 1, [[.int .i64 v21]]⟩), (N0 + 35, some ⟨3, 1, [[.int .i64 v22]]⟩), (N0 + 76, none), (N0 + 86, some ⟨47, 5, encL rInstr l26⟩), (N0 + 96, some ⟨47, 5, encL rInstr l27⟩)] (N0 + 100)) rfl rfl fun a' ha => ?_
        refine hK87 _ _ ?_; try rw [ha]
        have e0 : N0 ≤ N0 + 4 := by omega
        have e1 : N0 ≤ N0 + 18 := by omega
        have e2 : N0 ≤ N0 + 35 := by omega
        have e3 : N0 ≤ N0 + 76 := by omega
        have e4 : N0 ≤ N0 + 86 := by omega
        have e5 : N0 ≤ N0 + 96 := by omega
        refine ⟨[], by simp [e0, e1, e2, e3, e4, e5], ?_⟩
        simp -dsimp -implicitDefEqProofs (maxDischargeDepth := 6)
        refine keepE2 (l := []) (x := []) (s := hp B [(N0 + 4, some ⟨129, 2, [[.int .i64 p1, .sl (N0 + 96) 0 l27.length]]⟩), (N0 + 18, some ⟨3, 1, [[.int .i64 v21]]⟩), (N0 + 35, some ⟨3, 1, [[.int .i64 v22]]⟩), (N0 + 76, none), (N0 + 86, some ⟨47, 5, encL rInstr l26⟩), (N0 + 96, some ⟨47, 5, encL rInstr l27⟩)] (N0 + 100)) rfl rfl fun a' ha => ?_
        refine hK80 _ _ ?_; rw [ha]
        refine AWP_ret ?_
        have e0 : N0 ≤ N0 + 4 := by omega
        have e1 : N0 ≤ N0 + 18 := by omega
        have e2 : N0 ≤ N0 + 35 := by omega
        have e3 : N0 ≤ N0 + 76 := by omega
        have e4 : N0 ≤ N0 + 86 := by omega
        have e5 : N0 ≤ N0 + 96 := by omega
        refine ⟨[], by simp [e0, e1, e2, e3, e4, e5], ?_⟩
        simp -dsimp -implicitDefEqProofs (maxDischargeDepth := 6)
        refine keepE2 (l := [7]) (x := [(7, .ptr (N0 + 4) 0 0)]) (s := hp B [(N0 + 4, some ⟨129, 2, [[.int .i64 p1, .sl (N0 + 96) 0 l27.length]]⟩), (N0 + 18, some ⟨3, 1, [[.int .i64 v21]]⟩), (N0 + 35, some ⟨3, 1, [[.int .i64 v22]]⟩), (N0 + 76, none), (N0 + 86, some ⟨47, 5, encL rInstr l26⟩), (N0 + 96, some ⟨47, 5, encL rInstr l27⟩)] (N0 + 100)) rfl rfl fun a' ha => ?_
        refine hK3 _ _ ?_; rw [ha]
        refine AWP_seqk [6] fun K88 hK88 => ?_
        refine AWP_regl tok [] ?_
        simp -dsimp -implicitDefEqProofs (maxDischargeDepth := 6)
        refine keepE2 (l := [6]) (x := [(6, .sl (N0 + 96) 0 l27.length)]) (s := hp B [(N0 + 4, some ⟨129, 2, [[.int .i64 p1, .sl (N0 + 96) 0 l27.length]]⟩), (N0 + 18, some ⟨3, 1, [[.int .i64 v21]]⟩), (N0 + 35, some ⟨3, 1, [[.int .i64 v22]]⟩), (N0 + 76, none), (N0 + 86, some ⟨47, 5, encL rInstr l26⟩), (N0 + 96, some ⟨47, 5, encL rInstr l27⟩)] (N0 + 105)) rfl rfl fun a' ha => ?_
        refine hK88 _ _ ?_; rw [ha]
        refine AWP_ret ?_
        replace H := Option.some.inj H; subst H
        have e0 : N0 ≤ N0 + 4 := by omega
        have e1 : N0 ≤ N0 + 18 := by omega
        have e2 : N0 ≤ N0 + 35 := by omega
        have e3 : N0 ≤ N0 + 76 := by omega
        have e4 : N0 ≤ N0 + 86 := by omega
        have e5 : N0 ≤ N0 + 96 := by omega
        refine ⟨[.sl (N0 + 96) 0 l27.length], by simp [e0, e1, e2, e3, e4, e5], ?_, ?_⟩
        ·
         simp [encL_nil, e0, e1, e2, e3, e4, e5]
        ·
         intro o ho; exact lk_out (by simp; try omega)
       ·
        replace H := ifF C5 H
        refine AWP_skip ?_
        show K84 _ _
        refine keepE (l := [6]) (x := [(6, .sl (N0 + 76) 0 l25.length)]) rfl fun a' ha => ?_
        refine hK84 _ _ ?_; rw [ha]
        refine AWP_seqk [5] fun K89 hK89 => ?_
        refine AWP_regl tok [] ?_
        simp -dsimp -implicitDefEqProofs (maxDischargeDepth := 6)
        refine keepE2 (l := [5]) (x := [(5, .sl (N0 + 76) 0 l25.length)]) (s := hp B [(N0 + 4, some ⟨129, 2, [[.int .i64 p1, .nilsl]]⟩), (N0 + 18, some ⟨3, 1, [[.int .i64 v21]]⟩), (N0 + 35, some ⟨3, 1, [[.int .i64 v22]]⟩), (N0 + 76, some ⟨47, 5, encL rInstr l25⟩)] (N0 + 83)) rfl rfl fun a' ha => ?_
        refine hK89 _ _ ?_; rw [ha]
        refine AWP_ret ?_
        have e0 : N0 ≤ N0 + 4 := by omega
        have e1 : N0 ≤ N0 + 18 := by omega
        have e2 : N0 ≤ N0 + 35 := by omega
        have e3 : N0 ≤ N0 + 76 := by omega
        refine ⟨[.sl (N0 + 76) 0 l25.length], by simp [e0, e1, e2, e3], ?_⟩
        simp -dsimp -implicitDefEqProofs (maxDischargeDepth := 6)
        refine ACalls_fn tok Tryd.func122 (by kernel_rfl) rfl Tryd.ntmps122 Tryd.results122 rfl ?_
        simp only [argsA, Nat.reduceAdd]
        refine AWP_toThen (AWP_named fun K90 hK90 => ?_)
        obtain ⟨l28, hl28, H⟩ := bindE H
        refine AWP_regl tok [] ?_
        simp -dsimp -implicitDefEqProofs (maxDischargeDepth := 6) [appn29 hl28]
        refine keepE2 (l := []) (x := []) (s := hp B [(N0 + 4, some ⟨129, 2, [[.int .i64 p1, .sl (N0 + 89) 0 l28.length]]⟩), (N0 + 18, some ⟨3, 1, [[.int .i64 v21]]⟩), (N0 + 35, some ⟨3, 1, [[.int .i64 v22]]⟩), (N0 + 76, some ⟨47, 5, encL rInstr l25⟩), (N0 + 89, some ⟨47, 5, encL rInstr l28⟩)] (N0 + 93)) rfl rfl fun a' ha => ?_
        refine hK90 _ _ ?_; try rw [ha]
        have e0 : N0 ≤ N0 + 4 := by omega
        have e1 : N0 ≤ N0 + 18 := by omega
        have e2 : N0 ≤ N0 + 35 := by omega
        have e3 : N0 ≤ N0 + 76 := by omega
        have e4 : N0 ≤ N0 + 89 := by omega
        refine ⟨[], by simp [e0, e1, e2, e3, e4], ?_⟩
        simp -dsimp -implicitDefEqProofs (maxDischargeDepth := 6)
        refine keepE2 (l := []) (x := []) (s := hp B [(N0 + 4, some ⟨129, 2, [[.int .i64 p1, .sl (N0 + 89) 0 l28.length]]⟩), (N0 + 18, some ⟨3, 1, [[.int .i64 v21]]⟩), (N0 + 35, some ⟨3, 1, [[.int .i64 v22]]⟩), (N0 + 76, some ⟨47, 5, encL rInstr l25⟩), (N0 + 89, some ⟨47, 5, encL rInstr l28⟩)] (N0 + 93)) rfl rfl fun a' ha => ?_
        refine hK80 _ _ ?_; rw [ha]
        refine AWP_ret ?_
        have e0 : N0 ≤ N0 + 4 := by omega
        have e1 : N0 ≤ N0 + 18 := by omega
        have e2 : N0 ≤ N0 + 35 := by omega
        have e3 : N0 ≤ N0 + 76 := by omega
        have e4 : N0 ≤ N0 + 89 := by omega
        refine ⟨[], by simp [e0, e1, e2, e3, e4], ?_⟩
        simp -dsimp -implicitDefEqProofs (maxDischargeDepth := 6)
        refine keepE2 (l := [7]) (x := [(7, .ptr (N0 + 4) 0 0)]) (s := hp B [(N0 + 4, some ⟨129, 2, [[.int .i64 p1, .sl (N0 + 89) 0 l28.length]]⟩), (N0 + 18, some ⟨3, 1, [[.int .i64 v21]]⟩), (N0 + 35, some ⟨3, 1, [[.int .i64 v22]]⟩), (N0 + 76, some ⟨47, 5, encL rInstr l25⟩), (N0 + 89, some ⟨47, 5, encL rInstr l28⟩)] (N0 + 93)) rfl rfl fun a' ha => ?_
        refine hK3 _ _ ?_; rw [ha]
        refine AWP_seqk [6] fun K91 hK91 => ?_
        refine AWP_regl tok [] ?_
        simp -dsimp -implicitDefEqProofs (maxDischargeDepth := 6)
        refine keepE2 (l := [6]) (x := [(6, .sl (N0 + 89) 0 l28.length)]) (s := hp B [(N0 + 4, some ⟨129, 2, [[.int .i64 p1, .sl (N0 + 89) 0 l28.length]]⟩), (N0 + 18, some ⟨3, 1, [[.int .i64 v21]]⟩), (N0 + 35, some ⟨3, 1, [[.int .i64 v22]]⟩), (N0 + 76, some ⟨47, 5, encL rInstr l25⟩), (N0 + 89, some ⟨47, 5, encL rInstr l28⟩)] (N0 + 98)) rfl rfl fun a' ha => ?_
        refine hK91 _ _ ?_; rw [ha]
        refine AWP_ret ?_
        replace H := Option.some.inj H; subst H
        have e0 : N0 ≤ N0 + 4 := by omega
        have e1 : N0 ≤ N0 + 18 := by omega
        have e2 : N0 ≤ N0 + 35 := by omega
        have e3 : N0 ≤ N0 + 76 := by omega
        have e4 : N0 ≤ N0 + 89 := by omega
        refine ⟨[.sl (N0 + 89) 0 l28.length], by simp [e0, e1, e2, e3, e4], ?_, ?_⟩
        ·
         simp [encL_nil, e0, e1, e2, e3, e4]
        ·
         intro o ho; exact lk_out (by simp; try omega)
      ·
       replace H := ifF C7 H
       refine AWP_skip ?_
       show K78 _ _
       refine keepE (l := [0, 1, 2]) (x := [(0, .ptr (N0 + 4) 0 0), (1, .int .i64 p0.Dst), (2, .clo 120 [] [.fptr [.int .i64 p0.Op, .int .i64 p0.Dst, .int .i64 p0.A, .int .i64 p0.B, .int .i64 p0.N] 0, .ptr (N0 + 18) 0 0, .ptr (N0 + 35) 0 0])]) rfl fun a' ha => ?_
       refine hK78 _ _ ?_; rw [ha]
       refine AWP_seqk [0, 1] fun K92 hK92 => ?_
       refine AWP_regl tok [] ?_
       simp -dsimp -implicitDefEqProofs (maxDischargeDepth := 6)
       refine ACalls_fn tok Tryd.func120 (by kernel_rfl) rfl Tryd.ntmps120 Tryd.results120 rfl ?_
       simp only [argsA, Nat.reduceAdd]
       refine AWP_seqk [0, 1, 2, 3] fun K94 hK94 => ?_
       refine AWP_regl tok [] ?_
       simp -dsimp -implicitDefEqProofs (maxDischargeDepth := 6)
       refine keepE2 (l := [0, 1, 2, 3]) (x := [(0, .int .i64 7), (1, .fptr [.int .i64 p0.Op, .int .i64 p0.Dst, .int .i64 p0.A, .int .i64 p0.B, .int .i64 p0.N] 0), (2, .ptr (N0 + 18) 0 0), (3, .ptr (N0 + 35) 0 0)]) (s := hp B [(N0 + 4, some ⟨129, 2, [[.int .i64 p1, .nilsl]]⟩), (N0 + 18, some ⟨3, 1, [[.int .i64 v21]]⟩), (N0 + 35, some ⟨3, 1, [[.int .i64 v22]]⟩)] (N0 + 64)) rfl rfl fun a' ha => ?_
       refine hK94 _ _ ?_; rw [ha]
       refine AWP_seqk [0, 1, 6] fun K95 hK95 => ?_
       obtain ⟨v29, hv29, H⟩ := bindE H
       obtain ⟨l30, hl30, H⟩ := bindE H
       have q10 : ∀ σ i, buildSliceA T 29 false i 1 [(0, .agg [.int .i64 v29, .int .i64 7, .int .i64 v21, .int .i64 v22, .int .i64 0])] σ = some (.sl i 0 (List.length l30), σ.put i ⟨47, 5, encL rInstr l30⟩) := by rw [← Option.some.inj hl30]; intro _ _; rfl
       refine AWP_drawl tok tokM [] [6, 7, 8, 9, 10] [0, 1, 2, 3, 4, 5, 6, 7, 8, 9, 10] (by decide) ?_
       simp only [pickL, nthO_succ, nthO_zero]
       simp -dsimp -implicitDefEqProofs (maxDischargeDepth := 6) [gx134 hv29, gl_get hv29, q10]
       refine keepE2 (l := [0, 1, 6]) (x := [(0, .int .i64 7), (1, .fptr [.int .i64 p0.Op, .int .i64 p0.Dst, .int .i64 p0.A, .int .i64 p0.B, .int .i64 p0.N] 0), (6, .sl (N0 + 73) 0 l30.length)]) (s := hp B [(N0 + 4, some ⟨129, 2, [[.int .i64 p1, .nilsl]]⟩), (N0 + 18, some ⟨3, 1, [[.int .i64 v21]]⟩), (N0 + 35, some ⟨3, 1, [[.int .i64 v22]]⟩), (N0 + 73, some ⟨47, 5, encL rInstr l30⟩)] (N0 + 75)) rfl rfl fun a' ha => ?_
       refine hK95 _ _ ?_; rw [ha]
       refine AWP_seqk [6] fun K96 hK96 => ?_
       refine AWP_seqk [0, 6, 19] fun K97 hK97 => ?_
       refine AWP_regl tok [] ?_
       simp -dsimp -implicitDefEqProofs (maxDischargeDepth := 6)
       refine keepE2 (l := [0, 6, 19]) (x := [(0, .int .i64 7), (6, .sl (N0 + 73) 0 l30.length), (19, .bool (ieq p0.N 4))]) (s := hp B [(N0 + 4, some ⟨129, 2, [[.int .i64 p1, .nilsl]]⟩), (N0 + 18, some ⟨3, 1, [[.int .i64 v21]]⟩), (N0 + 35, some ⟨3, 1, [[.int .i64 v22]]⟩), (N0 + 73, some ⟨47, 5, encL rInstr l30⟩)] (N0 + 78)) rfl rfl fun a' ha => ?_
       refine hK97 _ _ ?_; rw [ha]
       refine AWP_cond (ieq p0.N 4) rfl (fun C6 => ?_) (fun C6 => ?_)
       ·
        replace H := ifT C6 H
        obtain ⟨l31, hl31, H⟩ := bindE H
        have q11 : ∀ σ i, buildSliceA T 29 true i 1 [(0, .agg [.int .i64 13, .int .i64 7, .int .i64 7, .int .i64 0, .int .i64 1])] σ = some (.fsl (encL rInstr ([(⟨13, 7, 7, 0, 1⟩ : gInstr)] : List gInstr)), σ) := fun _ _ => rfl
        refine AWP_regl tok [4] ?_
        simp -dsimp -implicitDefEqProofs (maxDischargeDepth := 6) [q11, app29 hl31]
        refine keepE2 (l := [6]) (x := [(6, .sl (N0 + 83) 0 l31.length)]) (s := hp B [(N0 + 4, some ⟨129, 2, [[.int .i64 p1, .nilsl]]⟩), (N0 + 18, some ⟨3, 1, [[.int .i64 v21]]⟩), (N0 + 35, some ⟨3, 1, [[.int .i64 v22]]⟩), (N0 + 73, none), (N0 + 83, some ⟨47, 5, encL rInstr l31⟩)] (N0 + 85)) rfl rfl fun a' ha => ?_
        refine hK96 _ _ ?_; rw [ha]
        refine AWP_seqk [5] fun K98 hK98 => ?_
        refine AWP_regl tok [] ?_
        simp -dsimp -implicitDefEqProofs (maxDischargeDepth := 6)
        refine keepE2 (l := [5]) (x := [(5, .sl (N0 + 83) 0 l31.length)]) (s := hp B [(N0 + 4, some ⟨129, 2, [[.int .i64 p1, .nilsl]]⟩), (N0 + 18, some ⟨3, 1, [[.int .i64 v21]]⟩), (N0 + 35, some ⟨3, 1, [[.int .i64 v22]]⟩), (N0 + 73, none), (N0 + 83, some ⟨47, 5, encL rInstr l31⟩)] (N0 + 87)) rfl rfl fun a' ha => ?_
        refine hK98 _ _ ?_; rw [ha]
        refine AWP_ret ?_
        have e0 : N0 ≤ N0 + 4 := by omega
        have e1 : N0 ≤ N0 + 18 := by omega
        have e2 : N0 ≤ N0 + 35 := by omega
        have e3 : N0 ≤ N0 + 73 := by omega
        have e4 : N0 ≤ N0 + 83 := by omega
        refine ⟨[.sl (N0 + 83) 0 l31.length], by simp [e0, e1, e2, e3, e4], ?_⟩
        simp -dsimp -implicitDefEqProofs (maxDischargeDepth := 6)
        refine ACalls_fn tok Tryd.func122 (by kernel_rfl) rfl Tryd.ntmps122 Tryd.results122 rfl ?_
        simp only [argsA, Nat.reduceAdd]
        refine AWP_toThen (AWP_named fun K99 hK99 => ?_)
        obtain ⟨l32, hl32, H⟩ := bindE H
        refine AWP_regl tok [] ?_
        simp -dsimp -implicitDefEqProofs (maxDischargeDepth := 6) [appn29 hl32]
        refine keepE2 (l := []) (x := []) (s := hp B [(N0 + 4, some ⟨129, 2, [[.int .i64 p1, .sl (N0 + 93) 0 l32.length]]⟩), (N0 + 18, some ⟨3, 1, [[.int .i64 v21]]⟩), (N0 + 35, some ⟨3, 1, [[.int .i64 v22]]⟩), (N0 + 73, none), (N0 + 83, some ⟨47, 5, encL rInstr l31⟩), (N0 + 93, some ⟨47, 5, encL rInstr l32⟩)] (N0 + 97)) rfl rfl fun a' ha => ?_
        refine hK99 _ _ ?_; try rw [ha]
        have e0 : N0 ≤ N0 + 4 := by omega
        have e1 : N0 ≤ N0 + 18 := by omega
        have e2 : N0 ≤ N0 + 35 := by omega
        have e3 : N0 ≤ N0 + 73 := by omega
        have e4 : N0 ≤ N0 + 83 := by omega
        have e5 : N0 ≤ N0 + 93 := by omega
        refine ⟨[], by simp [e0, e1, e2, e3, e4, e5], ?_⟩
        simp -dsimp -implicitDefEqProofs (maxDischargeDepth := 6)
        refine keepE2 (l := [0, 1]) (x := [(0, .ptr (N0 + 4) 0 0), (1, .int .i64 p0.Dst)]) (s := hp B [(N0 + 4, some ⟨129, 2, [[.int .i64 p1, .sl (N0 + 93) 0 l32.length]]⟩), (N0 + 18, some ⟨3, 1, [[.int .i64 v21]]⟩), (N0 + 35, some ⟨3, 1, [[.int .i64 v22]]⟩), (N0 + 73, none), (N0 + 83, some ⟨47, 5, encL rInstr l31⟩), (N0 + 93, some ⟨47, 5, encL rInstr l32⟩)] (N0 + 97)) rfl rfl fun a' ha => ?_
        refine hK92 _ _ ?_; rw [ha]
        have q12 : ∀ σ i, buildSliceA T 29 true i 1 [(0, .agg [.int .i64 16, .int .i64 0, .int .i64 2, .int .i64 7, .int .i64 (imul .i64 4 (isub .i64 p0.Dst p1))])] σ = some (.fsl (encL rInstr ([(⟨16, 0, 2, 7, imul .i64 4 (isub .i64 p0.Dst p1)⟩ : gInstr)] : List gInstr)), σ) := fun _ _ => rfl
        refine AWP_regl tok [9] ?_
        simp -dsimp -implicitDefEqProofs (maxDischargeDepth := 6) [q12]
        refine ACalls_fn tok Tryd.func122 (by kernel_rfl) rfl Tryd.ntmps122 Tryd.results122 rfl ?_
        simp only [argsA, Nat.reduceAdd]
        refine AWP_toThen (AWP_named fun K100 hK100 => ?_)
        obtain ⟨l33, hl33, H⟩ := bindE H
        refine AWP_regl tok [] ?_
        simp -dsimp -implicitDefEqProofs (maxDischargeDepth := 6) [app29 hl33]
        refine keepE2 (l := []) (x := []) (s := hp B [(N0 + 4, some ⟨129, 2, [[.int .i64 p1, .sl (N0 + 114) 0 l33.length]]⟩), (N0 + 18, some ⟨3, 1, [[.int .i64 v21]]⟩), (N0 + 35, some ⟨3, 1, [[.int .i64 v22]]⟩), (N0 + 73, none), (N0 + 83, some ⟨47, 5, encL rInstr l31⟩), (N0 + 93, none), (N0 + 114, some ⟨47, 5, encL rInstr l33⟩)] (N0 + 118)) rfl rfl fun a' ha => ?_
        refine hK100 _ _ ?_; try rw [ha]
        have e0 : N0 ≤ N0 + 4 := by omega
        have e1 : N0 ≤ N0 + 18 := by omega
        have e2 : N0 ≤ N0 + 35 := by omega
        have e3 : N0 ≤ N0 + 73 := by omega
        have e4 : N0 ≤ N0 + 83 := by omega
        have e5 : N0 ≤ N0 + 93 := by omega
        have e6 : N0 ≤ N0 + 114 := by omega
        refine ⟨[], by simp [e0, e1, e2, e3, e4, e5, e6], ?_⟩
        simp -dsimp -implicitDefEqProofs (maxDischargeDepth := 6)
        refine keepE2 (l := []) (x := []) (s := hp B [(N0 + 4, some ⟨129, 2, [[.int .i64 p1, .sl (N0 + 114) 0 l33.length]]⟩), (N0 + 18, some ⟨3, 1, [[.int .i64 v21]]⟩), (N0 + 35, some ⟨3, 1, [[.int .i64 v22]]⟩), (N0 + 73, none), (N0 + 83, some ⟨47, 5, encL rInstr l31⟩), (N0 + 93, none), (N0 + 114, some ⟨47, 5, encL rInstr l33⟩)] (N0 + 118)) rfl rfl fun a' ha => ?_
        refine hK77 _ _ ?_; try rw [ha]
        have e0 : N0 ≤ N0 + 4 := by omega
        have e1 : N0 ≤ N0 + 18 := by omega
        have e2 : N0 ≤ N0 + 35 := by omega
        have e3 : N0 ≤ N0 + 73 := by omega
        have e4 : N0 ≤ N0 + 83 := by omega
        have e5 : N0 ≤ N0 + 93 := by omega
        have e6 : N0 ≤ N0 + 114 := by omega
        refine ⟨[], by simp [e0, e1, e2, e3, e4, e5, e6], ?_⟩
        simp -dsimp -implicitDefEqProofs (maxDischargeDepth := 6)
        refine keepE2 (l := [7]) (x := [(7, .ptr (N0 + 4) 0 0)]) (s := hp B [(N0 + 4, some ⟨129, 2, [[.int .i64 p1, .sl (N0 + 114) 0 l33.length]]⟩), (N0 + 18, some ⟨3, 1, [[.int .i64 v21]]⟩), (N0 + 35, some ⟨3, 1, [[.int .i64 v22]]⟩), (N0 + 73, none), (N0 + 83, some ⟨47, 5, encL rInstr l31⟩), (N0 + 93, none), (N0 + 114, some ⟨47, 5, encL rInstr l33⟩)] (N0 + 118)) rfl rfl fun a' ha => ?_
        refine hK3 _ _ ?_; rw [ha]
        refine AWP_seqk [6] fun K101 hK101 => ?_
        refine AWP_regl tok [] ?_
        simp -dsimp -implicitDefEqProofs (maxDischargeDepth := 6)
        refine keepE2 (l := [6]) (x := [(6, .sl (N0 + 114) 0 l33.length)]) (s := hp B [(N0 + 4, some ⟨129, 2, [[.int .i64 p1, .sl (N0 + 114) 0 l33.length]]⟩), (N0 + 18, some ⟨3, 1, [[.int .i64 v21]]⟩), (N0 + 35, some ⟨3, 1, [[.int .i64 v22]]⟩), (N0 + 73, none), (N0 + 83, some ⟨47, 5, encL rInstr l31⟩), (N0 + 93, none), (N0 + 114, some ⟨47, 5, encL rInstr l33⟩)] (N0 + 123)) rfl rfl fun a' ha => ?_
        refine hK101 _ _ ?_; rw [ha]
        refine AWP_ret ?_
        replace H := Option.some.inj H; subst H
        have e0 : N0 ≤ N0 + 4 := by omega
        have e1 : N0 ≤ N0 + 18 := by omega
        have e2 : N0 ≤ N0 + 35 := by omega
        have e3 : N0 ≤ N0 + 73 := by omega
        have e4 : N0 ≤ N0 + 83 := by omega
        have e5 : N0 ≤ N0 + 93 := by omega
        have e6 : N0 ≤ N0 + 114 := by omega
        refine ⟨[.sl (N0 + 114) 0 l33.length], by simp [e0, e1, e2, e3, e4, e5, e6], ?_, ?_⟩
        ·
         simp [encL_nil, e0, e1, e2, e3, e4, e5, e6]
        ·
         intro o ho; exact lk_out (by simp; try omega)
       ·
        replace H := ifF C6 H
        refine AWP_skip ?_
        show K96 _ _
        refine keepE (l := [6]) (x := [(6, .sl (N0 + 73) 0 l30.length)]) rfl fun a' ha => ?_
        refine hK96 _ _ ?_; rw [ha]
        refine AWP_seqk [5] fun K102 hK102 => ?_
        refine AWP_regl tok [] ?_
        simp -dsimp -implicitDefEqProofs (maxDischargeDepth := 6)
        refine keepE2 (l := [5]) (x := [(5, .sl (N0 + 73) 0 l30.length)]) (s := hp B [(N0 + 4, some ⟨129, 2, [[.int .i64 p1, .nilsl]]⟩), (N0 + 18, some ⟨3, 1, [[.int .i64 v21]]⟩), (N0 + 35, some ⟨3, 1, [[.int .i64 v22]]⟩), (N0 + 73, some ⟨47, 5, encL rInstr l30⟩)] (N0 + 80)) rfl rfl fun a' ha => ?_
        refine hK102 _ _ ?_; rw [ha]
        refine AWP_ret ?_
        have e0 : N0 ≤ N0 + 4 := by omega
        have e1 : N0 ≤ N0 + 18 := by omega
        have e2 : N0 ≤ N0 + 35 := by omega
        have e3 : N0 ≤ N0 + 73 := by omega
        refine ⟨[.sl (N0 + 73) 0 l30.length], by simp [e0, e1, e2, e3], ?_⟩
        simp -dsimp -implicitDefEqProofs (maxDischargeDepth := 6)
        refine ACalls_fn tok Tryd.func122 (by kernel_rfl) rfl Tryd.ntmps122 Tryd.results122 rfl ?_
        simp only [argsA, Nat.reduceAdd]
        refine AWP_toThen (AWP_named fun K103 hK103 => ?_)
        obtain ⟨l34, hl34, H⟩ := bindE H
        refine AWP_regl tok [] ?_
        simp -dsimp -implicitDefEqProofs (maxDischargeDepth := 6) [appn29 hl34]
        refine keepE2 (l := []) (x := []) (s := hp B [(N0 + 4, some ⟨129, 2, [[.int .i64 p1, .sl (N0 + 86) 0 l34.length]]⟩), (N0 + 18, some ⟨3, 1, [[.int .i64 v21]]⟩), (N0 + 35, some ⟨3, 1, [[.int .i64 v22]]⟩), (N0 + 73, some ⟨47, 5, encL rInstr l30⟩), (N0 + 86, some ⟨47, 5, encL rInstr l34⟩)] (N0 + 90)) rfl rfl fun a' ha => ?_
        refine hK103 _ _ ?_; try rw [ha]
        have e0 : N0 ≤ N0 + 4 := by omega
        have e1 : N0 ≤ N0 + 18 := by omega
        have e2 : N0 ≤ N0 + 35 := by omega
        have e3 : N0 ≤ N0 + 73 := by omega
        have e4 : N0 ≤ N0 + 86 := by omega
        refine ⟨[], by simp [e0, e1, e2, e3, e4], ?_⟩
        simp -dsimp -implicitDefEqProofs (maxDischargeDepth := 6)
        refine keepE2 (l := [0, 1]) (x := [(0, .ptr (N0 + 4) 0 0), (1, .int .i64 p0.Dst)]) (s := hp B [(N0 + 4, some ⟨129, 2, [[.int .i64 p1, .sl (N0 + 86) 0 l34.length]]⟩), (N0 + 18, some ⟨3, 1, [[.int .i64 v21]]⟩), (N0 + 35, some ⟨3, 1, [[.int .i64 v22]]⟩), (N0 + 73, some ⟨47, 5, encL rInstr l30⟩), (N0 + 86, some ⟨47, 5, encL rInstr l34⟩)] (N0 + 90)) rfl rfl fun a' ha => ?_
        refine hK92 _ _ ?_; rw [ha]
        have q13 : ∀ σ i, buildSliceA T 29 true i 1 [(0, .agg [.int .i64 16, .int .i64 0, .int .i64 2, .int .i64 7, .int .i64 (imul .i64 4 (isub .i64 p0.Dst p1))])] σ = some (.fsl (encL rInstr ([(⟨16, 0, 2, 7, imul .i64 4 (isub .i64 p0.Dst p1)⟩ : gInstr)] : List gInstr)), σ) := fun _ _ => rfl
        refine AWP_regl tok [9] ?_
        simp -dsimp -implicitDefEqProofs (maxDischargeDepth := 6) [q13]
        refine ACalls_fn tok Tryd.func122 (by kernel_rfl) rfl Tryd.ntmps122 Tryd.results122 rfl ?_
        simp only [argsA, Nat.reduceAdd]
        refine AWP_toThen (AWP_named fun K104 hK104 => ?_)
        obtain ⟨l35, hl35, H⟩ := bindE H
        refine AWP_regl tok [] ?_
        simp -dsimp -implicitDefEqProofs (maxDischargeDepth := 6) [app29 hl35]
        refine keepE2 (l := []) (x := []) (s := hp B [(N0 + 4, some ⟨129, 2, [[.int .i64 p1, .sl (N0 + 107) 0 l35.length]]⟩), (N0 + 18, some ⟨3, 1, [[.int .i64 v21]]⟩), (N0 + 35, some ⟨3, 1, [[.int .i64 v22]]⟩), (N0 + 73, some ⟨47, 5, encL rInstr l30⟩), (N0 + 86, none), (N0 + 107, some ⟨47, 5, encL rInstr l35⟩)] (N0 + 111)) rfl rfl fun a' ha => ?_
        refine hK104 _ _ ?_; try rw [ha]
        have e0 : N0 ≤ N0 + 4 := by omega
        have e1 : N0 ≤ N0 + 18 := by omega
        have e2 : N0 ≤ N0 + 35 := by omega
        have e3 : N0 ≤ N0 + 73 := by omega
        have e4 : N0 ≤ N0 + 86 := by omega
        have e5 : N0 ≤ N0 + 107 := by omega
        refine ⟨[], by simp [e0, e1, e2, e3, e4, e5], ?_⟩
        simp -dsimp -implicitDefEqProofs (maxDischargeDepth := 6)
        refine keepE2 (l := []) (x := []) (s := hp B [(N0 + 4, some ⟨129, 2, [[.int .i64 p1, .sl (N0 + 107) 0 l35.length]]⟩), (N0 + 18, some ⟨3, 1, [[.int .i64 v21]]⟩), (N0 + 35, some ⟨3, 1, [[.int .i64 v22]]⟩), (N0 + 73, some ⟨47, 5, encL rInstr l30⟩), (N0 + 86, none), (N0 + 107, some ⟨47, 5, encL rInstr l35⟩)] (N0 + 111)) rfl rfl fun a' ha => ?_
        refine hK77 _ _ ?_; try rw [ha]
        have e0 : N0 ≤ N0 + 4 := by omega
        have e1 : N0 ≤ N0 + 18 := by omega
        have e2 : N0 ≤ N0 + 35 := by omega
        have e3 : N0 ≤ N0 + 73 := by omega
        have e4 : N0 ≤ N0 + 86 := by omega
        have e5 : N0 ≤ N0 + 107 := by omega
        refine ⟨[], by simp [e0, e1, e2, e3, e4, e5], ?_⟩
        simp -dsimp -implicitDefEqProofs (maxDischargeDepth := 6)
        refine keepE2 (l := [7]) (x := [(7, .ptr (N0 + 4) 0 0)]) (s := hp B [(N0 + 4, some ⟨129, 2, [[.int .i64 p1, .sl (N0 + 107) 0 l35.length]]⟩), (N0 + 18, some ⟨3, 1, [[.int .i64 v21]]⟩), (N0 + 35, some ⟨3, 1, [[.int .i64 v22]]⟩), (N0 + 73, some ⟨47, 5, encL rInstr l30⟩), (N0 + 86, none), (N0 + 107, some ⟨47, 5, encL rInstr l35⟩)] (N0 + 111)) rfl rfl fun a' ha => ?_
        refine hK3 _ _ ?_; rw [ha]
        refine AWP_seqk [6] fun K105 hK105 => ?_
        refine AWP_regl tok [] ?_
        simp -dsimp -implicitDefEqProofs (maxDischargeDepth := 6)
        refine keepE2 (l := [6]) (x := [(6, .sl (N0 + 107) 0 l35.length)]) (s := hp B [(N0 + 4, some ⟨129, 2, [[.int .i64 p1, .sl (N0 + 107) 0 l35.length]]⟩), (N0 + 18, some ⟨3, 1, [[.int .i64 v21]]⟩), (N0 + 35, some ⟨3, 1, [[.int .i64 v22]]⟩), (N0 + 73, some ⟨47, 5, encL rInstr l30⟩), (N0 + 86, none), (N0 + 107, some ⟨47, 5, encL rInstr l35⟩)] (N0 + 116)) rfl rfl fun a' ha => ?_
        refine hK105 _ _ ?_; rw [ha]
        refine AWP_ret ?_
        replace H := Option.some.inj H; subst H
        have e0 : N0 ≤ N0 + 4 := by omega
        have e1 : N0 ≤ N0 + 18 := by omega
        have e2 : N0 ≤ N0 + 35 := by omega
        have e3 : N0 ≤ N0 + 73 := by omega
        have e4 : N0 ≤ N0 + 86 := by omega
        have e5 : N0 ≤ N0 + 107 := by omega
        refine ⟨[.sl (N0 + 107) 0 l35.length], by simp [e0, e1, e2, e3, e4, e5], ?_, ?_⟩
        ·
         simp [encL_nil, e0, e1, e2, e3, e4, e5]
        ·
         intro o ho; exact lk_out (by simp; try omega)
     ·
      replace H := ifF C11 H
      refine AWP_skip ?_
      show K74 _ _
      refine keepE (l := [0, 1, 2]) (x := [(0, .ptr (N0 + 4) 0 0), (1, .int .i64 p0.B), (2, .int .i64 6)]) rfl fun a' ha => ?_
      refine hK74 _ _ ?_; rw [ha]
      refine AWP_seqk [2] fun K106 hK106 => ?_
      have q14 : ∀ σ i, buildSliceA T 29 true i 1 [(0, .agg [.int .i64 14, .int .i64 6, .int .i64 2, .int .i64 0, .int .i64 (imul .i64 4 (isub .i64 p0.B p1))])] σ = some (.fsl (encL rInstr ([(⟨14, 6, 2, 0, imul .i64 4 (isub .i64 p0.B p1)⟩ : gInstr)] : List gInstr)), σ) := fun _ _ => rfl
      refine AWP_regl tok [10] ?_
      simp -dsimp -implicitDefEqProofs (maxDischargeDepth := 6) [q14]
      refine ACalls_fn tok Tryd.func122 (by kernel_rfl) rfl Tryd.ntmps122 Tryd.results122 rfl ?_
      simp only [argsA, Nat.reduceAdd]
      refine AWP_toThen (AWP_named fun K107 hK107 => ?_)
      obtain ⟨l36, hl36, H⟩ := bindE H
      refine AWP_regl tok [] ?_
      simp -dsimp -implicitDefEqProofs (maxDischargeDepth := 6) [appn29 hl36]
      refine keepE2 (l := []) (x := []) (s := hp B [(N0 + 4, some ⟨129, 2, [[.int .i64 p1, .sl (N0 + 62) 0 l36.length]]⟩), (N0 + 18, some ⟨3, 1, [[.int .i64 v21]]⟩), (N0 + 62, some ⟨47, 5, encL rInstr l36⟩)] (N0 + 66)) rfl rfl fun a' ha => ?_
      refine hK107 _ _ ?_; try rw [ha]
      have e0 : N0 ≤ N0 + 4 := by omega
      have e1 : N0 ≤ N0 + 18 := by omega
      have e2 : N0 ≤ N0 + 62 := by omega
      refine ⟨[], by simp [e0, e1, e2], ?_⟩
      simp -dsimp -implicitDefEqProofs (maxDischargeDepth := 6)
      refine keepE2 (l := [2]) (x := [(2, .int .i64 6)]) (s := hp B [(N0 + 4, some ⟨129, 2, [[.int .i64 p1, .sl (N0 + 62) 0 l36.length]]⟩), (N0 + 18, some ⟨3, 1, [[.int .i64 v21]]⟩), (N0 + 62, some ⟨47, 5, encL rInstr l36⟩)] (N0 + 66)) rfl rfl fun a' ha => ?_
      refine hK106 _ _ ?_; rw [ha]
      refine AWP_seqk [6] fun K108 hK108 => ?_
      refine AWP_regl tok [] ?_
      simp -dsimp -implicitDefEqProofs (maxDischargeDepth := 6)
      refine keepE2 (l := [6]) (x := [(6, .int .i64 6)]) (s := hp B [(N0 + 4, some ⟨129, 2, [[.int .i64 p1, .sl (N0 + 62) 0 l36.length]]⟩), (N0 + 18, some ⟨3, 1, [[.int .i64 v21]]⟩), (N0 + 62, some ⟨47, 5, encL rInstr l36⟩)] (N0 + 68)) rfl rfl fun a' ha => ?_
      refine hK108 _ _ ?_; rw [ha]
      refine AWP_ret ?_
      have e0 : N0 ≤ N0 + 4 := by omega
      have e1 : N0 ≤ N0 + 18 := by omega
      have e2 : N0 ≤ N0 + 62 := by omega
      refine ⟨[.int .i64 6], by simp [e0, e1, e2], ?_⟩
      simp -dsimp -implicitDefEqProofs (maxDischargeDepth := 6)
      refine keepE2 (l := [3, 7, 9, 10]) (x := [(3, .fptr [.int .i64 p0.Op, .int .i64 p0.Dst, .int .i64 p0.A, .int .i64 p0.B, .int .i64 p0.N] 0), (7, .ptr (N0 + 4) 0 0), (9, .ptr (N0 + 18) 0 0), (10, .ptr (N0 + 35) 0 0)]) (s := hp B [(N0 + 4, some ⟨129, 2, [[.int .i64 p1, .sl (N0 + 62) 0 l36.length]]⟩), (N0 + 18, some ⟨3, 1, [[.int .i64 v21]]⟩), (N0 + 62, some ⟨47, 5, encL rInstr l36⟩), (N0 + 35, some ⟨3, 1, [[.int .i64 6]]⟩)] (N0 + 68)) rfl rfl fun a' ha => ?_
      refine hK71 _ _ ?_; rw [ha]
      refine AWP_toThen ?_
      refine AWP_regl tok [] ?_
      simp -dsimp -implicitDefEqProofs (maxDischargeDepth := 6)
      refine ACalls_fn tok Tryd.func115 (by kernel_rfl) rfl Tryd.ntmps115 Tryd.results115 rfl ?_
      simp only [argsA, Nat.reduceAdd]
      refine AWP_toThen (AWP_named fun K109 hK109 => ?_)
      refine AWP_seqk [0, 1, 2] fun K110 hK110 => ?_
      refine AWP_seqk [0, 1, 2, 11] fun K111 hK111 => ?_
      refine AWP_regl tok [] ?_
      simp -dsimp -implicitDefEqProofs (maxDischargeDepth := 6)
      refine keepE2 (l := [0, 1, 2, 11]) (x := [(0, .ptr (N0 + 4) 0 0), (1, .int .i64 p0.Dst), (2, .clo 120 [] [.fptr [.int .i64 p0.Op, .int .i64 p0.Dst, .int .i64 p0.A, .int .i64 p0.B, .int .i64 p0.N] 0, .ptr (N0 + 18) 0 0, .ptr (N0 + 35) 0 0]), (11, .bool (ilt p0.Dst p1))]) (s := hp B [(N0 + 4, some ⟨129, 2, [[.int .i64 p1, .sl (N0 + 62) 0 l36.length]]⟩), (N0 + 18, some ⟨3, 1, [[.int .i64 v21]]⟩), (N0 + 62, some ⟨47, 5, encL rInstr l36⟩), (N0 + 35, some ⟨3, 1, [[.int .i64 6]]⟩)] (N0 + 79)) rfl rfl fun a' ha => ?_
      refine hK111 _ _ ?_; rw [ha]
      refine AWP_cond (ilt p0.Dst p1) rfl (fun C10 => ?_) (fun C10 => ?_)
      ·
       replace H := ifT C10 H
       refine AWP_seqk [] fun K112 hK112 => ?_
       obtain ⟨v37, hv37, H⟩ := bindE H
       refine AWP_regl tok [] ?_
       simp -dsimp -implicitDefEqProofs (maxDischargeDepth := 6) [gx157 hv37, gl_get hv37]
       refine ACalls_fn tok Tryd.func120 (by kernel_rfl) rfl Tryd.ntmps120 Tryd.results120 rfl ?_
       simp only [argsA, Nat.reduceAdd]
       refine AWP_seqk [0, 1, 2, 3] fun K114 hK114 => ?_
       refine AWP_regl tok [] ?_
       simp -dsimp -implicitDefEqProofs (maxDischargeDepth := 6)
       refine keepE2 (l := [0, 1, 2, 3]) (x := [(0, .int .i64 v37), (1, .fptr [.int .i64 p0.Op, .int .i64 p0.Dst, .int .i64 p0.A, .int .i64 p0.B, .int .i64 p0.N] 0), (2, .ptr (N0 + 18) 0 0), (3, .ptr (N0 + 35) 0 0)]) (s := hp B [(N0 + 4, some ⟨129, 2, [[.int .i64 p1, .sl (N0 + 62) 0 l36.length]]⟩), (N0 + 18, some ⟨3, 1, [[.int .i64 v21]]⟩), (N0 + 62, some ⟨47, 5, encL rInstr l36⟩), (N0 + 35, some ⟨3, 1, [[.int .i64 6]]⟩)] (N0 + 87)) rfl rfl fun a' ha => ?_
       refine hK114 _ _ ?_; rw [ha]
       refine AWP_seqk [0, 1, 6] fun K115 hK115 => ?_
       obtain ⟨v38, hv38, H⟩ := bindE H
       obtain ⟨l39, hl39, H⟩ := bindE H
       have q15 : ∀ σ i, buildSliceA T 29 false i 1 [(0, .agg [.int .i64 v38, .int .i64 v37, .int .i64 v21, .int .i64 6, .int .i64 0])] σ = some (.sl i 0 (List.length l39), σ.put i ⟨47, 5, encL rInstr l39⟩) := by rw [← Option.some.inj hl39]; intro _ _; rfl
       refine AWP_drawl tok tokM [] [6, 7, 8, 9, 10] [0, 1, 2, 3, 4, 5, 6, 7, 8, 9, 10] (by decide) ?_
       simp only [pickL, nthO_succ, nthO_zero]
       simp -dsimp -implicitDefEqProofs (maxDischargeDepth := 6) [gx134 hv38, gl_get hv38, q15]
       refine keepE2 (l := [0, 1, 6]) (x := [(0, .int .i64 v37), (1, .fptr [.int .i64 p0.Op, .int .i64 p0.Dst, .int .i64 p0.A, .int .i64 p0.B, .int .i64 p0.N] 0), (6, .sl (N0 + 96) 0 l39.length)]) (s := hp B [(N0 + 4, some ⟨129, 2, [[.int .i64 p1, .sl (N0 + 62) 0 l36.length]]⟩), (N0 + 18, some ⟨3, 1, [[.int .i64 v21]]⟩), (N0 + 62, some ⟨47, 5, encL rInstr l36⟩), (N0 + 35, some ⟨3, 1, [[.int .i64 6]]⟩), (N0 + 96, some ⟨47, 5, encL rInstr l39⟩)] (N0 + 98)) rfl rfl fun a' ha => ?_
       refine hK115 _ _ ?_; rw [ha]
       refine AWP_seqk [6] fun K116 hK116 => ?_
       refine AWP_seqk [0, 6, 19] fun K117 hK117 => ?_
       refine AWP_regl tok [] ?_
       simp -dsimp -implicitDefEqProofs (maxDischargeDepth := 6)
       refine keepE2 (l := [0, 6, 19]) (x := [(0, .int .i64 v37), (6, .sl (N0 + 96) 0 l39.length), (19, .bool (ieq p0.N 4))]) (s := hp B [(N0 + 4, some ⟨129, 2, [[.int .i64 p1, .sl (N0 + 62) 0 l36.length]]⟩), (N0 + 18, some ⟨3, 1, [[.int .i64 v21]]⟩), (N0 + 62, some ⟨47, 5, encL rInstr l36⟩), (N0 + 35, some ⟨3, 1, [[.int .i64 6]]⟩), (N0 + 96, some ⟨47, 5, encL rInstr l39⟩)] (N0 + 101)) rfl rfl fun a' ha => ?_
       refine hK117 _ _ ?_; rw [ha]
       refine AWP_cond (ieq p0.N 4) rfl (fun C8 => ?_) (fun C8 => ?_)
       ·
        replace H := ifT C8 H
        obtain ⟨l40, hl40, H⟩ := bindE H
        have q16 : ∀ σ i, buildSliceA T 29 true i 1 [(0, .agg [.int .i64 13, .int .i64 v37, .int .i64 v37, .int .i64 0, .int .i64 1])] σ = some (.fsl (encL rInstr ([(⟨13, v37, v37, 0, 1⟩ : gInstr)] : List gInstr)), σ) := fun _ _ => rfl
        refine AWP_regl tok [4] ?_
        simp -dsimp -implicitDefEqProofs (maxDischargeDepth := 6) [q16, app29 hl40]
        refine keepE2 (l := [6]) (x := [(6, .sl (N0 + 106) 0 l40.length)]) (s := hp B [(N0 + 4, some ⟨129, 2, [[.int .i64 p1, .sl (N0 + 62) 0 l36.length]]⟩), (N0 + 18, some ⟨3, 1, [[.int .i64 v21]]⟩), (N0 + 62, some ⟨47, 5, encL rInstr l36⟩), (N0 + 35, some ⟨3, 1, [[.int .i64 6]]⟩), (N0 + 96, none), (N0 + 106, some ⟨47, 5, encL rInstr l40⟩)] (N0 + 108)) rfl rfl fun a' ha => ?_
        refine hK116 _ _ ?_; rw [ha]
        refine AWP_seqk [5] fun K118 hK118 => ?_
        refine AWP_regl tok [] ?_
        simp -dsimp -implicitDefEqProofs (maxDischargeDepth := 6)
        refine keepE2 (l := [5]) (x := [(5, .sl (N0 + 106) 0 l40.length)]) (s := hp B [(N0 + 4, some ⟨129, 2, [[.int .i64 p1, .sl (N0 + 62) 0 l36.length]]⟩), (N0 + 18, some ⟨3, 1, [[.int .i64 v21]]⟩), (N0 + 62, some ⟨47, 5, encL rInstr l36⟩), (N0 + 35, some ⟨3, 1, [[.int .i64 6]]⟩), (N0 + 96, none), (N0 + 106, some ⟨47, 5, encL rInstr l40⟩)] (N0 + 110)) rfl rfl fun a' ha => ?_
        refine hK118 _ _ ?_; rw [ha]
        refine AWP_ret ?_
        have e0 : N0 ≤ N0 + 4 := by omega
        have e1 : N0 ≤ N0 + 18 := by omega
        have e2 : N0 ≤ N0 + 62 := by omega
        have e3 : N0 ≤ N0 + 35 := by omega
        have e4 : N0 ≤ N0 + 96 := by omega
        have e5 : N0 ≤ N0 + 106 := by omega
        refine ⟨[.sl (N0 + 106) 0 l40.length], by simp [e0, e1, e2, e3, e4, e5], ?_⟩
        simp -dsimp -implicitDefEqProofs (maxDischargeDepth := 6)
        refine ACalls_fn tok Tryd.func122 (by kernel_rfl) rfl Tryd.ntmps122 Tryd.results122 rfl ?_
        simp only [argsA, Nat.reduceAdd]
        refine AWP_toThen (AWP_named fun K119 hK119 => ?_)
        obtain ⟨l41, hl41, H⟩ := bindE H
        refine AWP_regl tok [] ?_
        simp -dsimp -implicitDefEqProofs (maxDischargeDepth := 6) [app29 hl41]
        refine keepE2 (l := []) (x := []) (s := hp B [(N0 + 4, some ⟨129, 2, [[.int .i64 p1, .sl (N0 + 116) 0 l41.length]]⟩), (N0 + 18, some ⟨3, 1, [[.int .i64 v21]]⟩), (N0 + 62, none), (N0 + 35, some ⟨3, 1, [[.int .i64 6]]⟩), (N0 + 96, none), (N0 + 106, some ⟨47, 5, encL rInstr l40⟩), (N0 + 116, some ⟨47, 5, encL rInstr l41⟩)] (N0 + 120)) rfl rfl fun a' ha => ?_
        refine hK119 _ _ ?_; try rw [ha]
        have e0 : N0 ≤ N0 + 4 := by omega
        have e1 : N0 ≤ N0 + 18 := by omega
        have e2 : N0 ≤ N0 + 62 := by omega
        have e3 : N0 ≤ N0 + 35 := by omega
        have e4 : N0 ≤ N0 + 96 := by omega
        have e5 : N0 ≤ N0 + 106 := by omega
        have e6 : N0 ≤ N0 + 116 := by omega
        refine ⟨[], by simp [e0, e1, e2, e3, e4, e5, e6], ?_⟩
        simp -dsimp -implicitDefEqProofs (maxDischargeDepth := 6)
        refine keepE2 (l := []) (x := []) (s := hp B [(N0 + 4, some ⟨129, 2, [[.int .i64 p1, .sl (N0 + 116) 0 l41.length]]⟩), (N0 + 18, some ⟨3, 1, [[.int .i64 v21]]⟩), (N0 + 62, none), (N0 + 35, some ⟨3, 1, [[.int .i64 6]]⟩), (N0 + 96, none), (N0 + 106, some ⟨47, 5, encL rInstr l40⟩), (N0 + 116, some ⟨47, 5, encL rInstr l41⟩)] (N0 + 120)) rfl rfl fun a' ha => ?_
        refine hK112 _ _ ?_; rw [ha]
        refine AWP_ret ?_
        have e0 : N0 ≤ N0 + 4 := by omega
        have e1 : N0 ≤ N0 + 18 := by omega
        have e2 : N0 ≤ N0 + 62 := by omega
        have e3 : N0 ≤ N0 + 35 := by omega
        have e4 : N0 ≤ N0 + 96 := by omega
        have e5 : N0 ≤ N0 + 106 := by omega
        have e6 : N0 ≤ N0 + 116 := by omega
        refine ⟨[], by simp [e0, e1, e2, e3, e4, e5, e6], ?_⟩
        simp -dsimp -implicitDefEqProofs (maxDischargeDepth := 6)
        refine keepE2 (l := [7]) (x := [(7, .ptr (N0 + 4) 0 0)]) (s := hp B [(N0 + 4, some ⟨129, 2, [[.int .i64 p1, .sl (N0 + 116) 0 l41.length]]⟩), (N0 + 18, some ⟨3, 1, [[.int .i64 v21]]⟩), (N0 + 62, none), (N0 + 35, some ⟨3, 1, [[.int .i64 6]]⟩), (N0 + 96, none), (N0 + 106, some ⟨47, 5, encL rInstr l40⟩), (N0 + 116, some ⟨47, 5, encL rInstr l41⟩)] (N0 + 120)) rfl rfl fun a' ha => ?_
        refine hK3 _ _ ?_; rw [ha]
        refine AWP_seqk [6] fun K120 hK120 => ?_
        refine AWP_regl tok [] ?_
        simp -dsimp -implicitDefEqProofs (maxDischargeDepth := 6)
        refine keepE2 (l := [6]) (x := [(6, .sl (N0 + 116) 0 l41.length)]) (s := hp B [(N0 + 4, some ⟨129, 2, [[.int .i64 p1, .sl (N0 + 116) 0 l41.length]]⟩), (N0 + 18, some ⟨3, 1, [[.int .i64 v21]]⟩), (N0 + 62, none), (N0 + 35, some ⟨3, 1, [[.int .i64 6]]⟩), (N0 + 96, none), (N0 + 106, some ⟨47, 5, encL rInstr l40⟩), (N0 + 116, some ⟨47, 5, encL rInstr l41⟩)] (N0 + 125)) rfl rfl fun a' ha => ?_
        refine hK120 _ _ ?_; rw [ha]
        refine AWP_ret ?_
        replace H := Option.some.inj H; subst H
        have e0 : N0 ≤ N0 + 4 := by omega
        have e1 : N0 ≤ N0 + 18 := by omega
        have e2 : N0 ≤ N0 + 62 := by omega
        have e3 : N0 ≤ N0 + 35 := by omega
        have e4 : N0 ≤ N0 + 96 := by omega
        have e5 : N0 ≤ N0 + 106 := by omega
        have e6 : N0 ≤ N0 + 116 := by omega
        refine ⟨[.sl (N0 + 116) 0 l41.length], by simp [e0, e1, e2, e3, e4, e5, e6], ?_, ?_⟩
        ·
         simp [encL_nil, e0, e1, e2, e3, e4, e5, e6]
        ·
         intro o ho; exact lk_out (by simp; try omega)
       ·
        replace H := ifF C8 H
        refine AWP_skip ?_
        show K116 _ _
        refine keepE (l := [6]) (x := [(6, .sl (N0 + 96) 0 l39.length)]) rfl fun a' ha => ?_
        refine hK116 _ _ ?_; rw [ha]
        refine AWP_seqk [5] fun K121 hK121 => ?_
        refine AWP_regl tok [] ?_
        simp -dsimp -implicitDefEqProofs (maxDischargeDepth := 6)
        refine keepE2 (l := [5]) (x := [(5, .sl (N0 + 96) 0 l39.length)]) (s := hp B [(N0 + 4, some ⟨129, 2, [[.int .i64 p1, .sl (N0 + 62) 0 l36.length]]⟩), (N0 + 18, some ⟨3, 1, [[.int .i64 v21]]⟩), (N0 + 62, some ⟨47, 5, encL rInstr l36⟩), (N0 + 35, some ⟨3, 1, [[.int .i64 6]]⟩), (N0 + 96, some ⟨47, 5, encL rInstr l39⟩)] (N0 + 103)) rfl rfl fun a' ha => ?_
        refine hK121 _ _ ?_; rw [ha]
        refine AWP_ret ?_
        have e0 : N0 ≤ N0 + 4 := by omega
        have e1 : N0 ≤ N0 + 18 := by omega
        have e2 : N0 ≤ N0 + 62 := by omega
        have e3 : N0 ≤ N0 + 35 := by omega
        have e4 : N0 ≤ N0 + 96 := by omega
        refine ⟨[.sl (N0 + 96) 0 l39.length], by simp [e0, e1, e2, e3, e4], ?_⟩
        simp -dsimp -implicitDefEqProofs (maxDischargeDepth := 6)
        refine ACalls_fn tok Tryd.func122 (by kernel_rfl) rfl Tryd.ntmps122 Tryd.results122 rfl ?_
        simp only [argsA, Nat.reduceAdd]
        refine AWP_toThen (AWP_named fun K122 hK122 => ?_)
        obtain ⟨l42, hl42, H⟩ := bindE H
        refine AWP_regl tok [] ?_
        simp -dsimp -implicitDefEqProofs (maxDischargeDepth := 6) [app29 hl42]
        refine keepE2 (l := []) (x := []) (s := hp B [(N0 + 4, some ⟨129, 2, [[.int .i64 p1, .sl (N0 + 109) 0 l42.length]]⟩), (N0 + 18, some ⟨3, 1, [[.int .i64 v21]]⟩), (N0 + 62, none), (N0 + 35, some ⟨3, 1, [[.int .i64 6]]⟩), (N0 + 96, some ⟨47, 5, encL rInstr l39⟩), (N0 + 109, some ⟨47, 5, encL rInstr l42⟩)] (N0 + 113)) rfl rfl fun a' ha => ?_
        refine hK122 _ _ ?_; try rw [ha]
        have e0 : N0 ≤ N0 + 4 := by omega
        have e1 : N0 ≤ N0 + 18 := by omega
        have e2 : N0 ≤ N0 + 62 := by omega
        have e3 : N0 ≤ N0 + 35 := by omega
        have e4 : N0 ≤ N0 + 96 := by omega
        have e5 : N0 ≤ N0 + 109 := by omega
        refine ⟨[], by simp [e0, e1, e2, e3, e4, e5], ?_⟩
        simp -dsimp -implicitDefEqProofs (maxDischargeDepth := 6)
        refine keepE2 (l := []) (x := []) (s := hp B [(N0 + 4, some ⟨129, 2, [[.int .i64 p1, .sl (N0 + 109) 0 l42.length]]⟩), (N0 + 18, some ⟨3, 1, [[.int .i64 v21]]⟩), (N0 + 62, none), (N0 + 35, some ⟨3, 1, [[.int .i64 6]]⟩), (N0 + 96, some ⟨47, 5, encL rInstr l39⟩), (N0 + 109, some ⟨47, 5, encL rInstr l42⟩)] (N0 + 113)) rfl rfl fun a' ha => ?_
        refine hK112 _ _ ?_; rw [ha]
        refine AWP_ret ?_
        have e0 : N0 ≤ N0 + 4 := by omega
        have e1 : N0 ≤ N0 + 18 := by omega
        have e2 : N0 ≤ N0 + 62 := by omega
        have e3 : N0 ≤ N0 + 35 := by omega
        have e4 : N0 ≤ N0 + 96 := by omega
        have e5 : N0 ≤ N0 + 109 := by omega
        refine ⟨[], by simp [e0, e1, e2, e3, e4, e5], ?_⟩
        simp -dsimp -implicitDefEqProofs (maxDischargeDepth := 6)
        refine keepE2 (l := [7]) (x := [(7, .ptr (N0 + 4) 0 0)]) (s := hp B [(N0 + 4, some ⟨129, 2, [[.int .i64 p1, .sl (N0 + 109) 0 l42.length]]⟩), (N0 + 18, some ⟨3, 1, [[.int .i64 v21]]⟩), (N0 + 62, none), (N0 + 35, some ⟨3, 1, [[.int .i64 6]]⟩), (N0 + 96, some ⟨47, 5, encL rInstr l39⟩), (N0 + 109, some ⟨47, 5, encL rInstr l42⟩)] (N0 + 113)) rfl rfl fun a' ha => ?_
        refine hK3 _ _ ?_; rw [ha]
        refine AWP_seqk [6] fun K123 hK123 => ?_
        refine AWP_regl tok [] ?_
        simp -dsimp -implicitDefEqProofs (maxDischargeDepth := 6)
        refine keepE2 (l := [6]) (x := [(6, .sl (N0 + 109) 0 l42.length)]) (s := hp B [(N0 + 4, some ⟨129, 2, [[.int .i64 p1, .sl (N0 + 109) 0 l42.length]]⟩), (N0 + 18, some ⟨3, 1, [[.int .i64 v21]]⟩), (N0 + 62, none), (N0 + 35, some ⟨3, 1, [[.int .i64 6]]⟩), (N0 + 96, some ⟨47, 5, encL rInstr l39⟩), (N0 + 109, some ⟨47, 5, encL rInstr l42⟩)] (N0 + 118)) rfl rfl fun a' ha => ?_
        refine hK123 _ _ ?_; rw [ha]
        refine AWP_ret ?_
        replace H := Option.some.inj H; subst H
        have e0 : N0 ≤ N0 + 4 := by omega
        have e1 : N0 ≤ N0 + 18 := by omega
        have e2 : N0 ≤ N0 + 62 := by omega
        have e3 : N0 ≤ N0 + 35 := by omega
        have e4 : N0 ≤ N0 + 96 := by omega
        have e5 : N0 ≤ N0 + 109 := by omega
        refine ⟨[.sl (N0 + 109) 0 l42.length], by simp [e0, e1, e2, e3, e4, e5], ?_, ?_⟩
        ·
         simp [encL_nil, e0, e1, e2, e3, e4, e5]
        ·
         intro o ho; exact lk_out (by simp; try omega)
      ·
       replace H := ifF C10 H
       refine AWP_skip ?_
       show K110 _ _
       refine keepE (l := [0, 1, 2]) (x := [(0, .ptr (N0 + 4) 0 0), (1, .int .i64 p0.Dst), (2, .clo 120 [] [.fptr [.int .i64 p0.Op, .int .i64 p0.Dst, .int .i64 p0.A, .int .i64 p0.B, .int .i64 p0.N] 0, .ptr (N0 + 18) 0 0, .ptr (N0 + 35) 0 0])]) rfl fun a' ha => ?_
       refine hK110 _ _ ?_; rw [ha]
       refine AWP_seqk [0, 1] fun K124 hK124 => ?_
       refine AWP_regl tok [] ?_
       simp -dsimp -implicitDefEqProofs (maxDischargeDepth := 6)
       refine ACalls_fn tok Tryd.func120 (by kernel_rfl) rfl Tryd.ntmps120 Tryd.results120 rfl ?_
       simp only [argsA, Nat.reduceAdd]
       refine AWP_seqk [0, 1, 2, 3] fun K126 hK126 => ?_
       refine AWP_regl tok [] ?_
       simp -dsimp -implicitDefEqProofs (maxDischargeDepth := 6)
       refine keepE2 (l := [0, 1, 2, 3]) (x := [(0, .int .i64 7), (1, .fptr [.int .i64 p0.Op, .int .i64 p0.Dst, .int .i64 p0.A, .int .i64 p0.B, .int .i64 p0.N] 0), (2, .ptr (N0 + 18) 0 0), (3, .ptr (N0 + 35) 0 0)]) (s := hp B [(N0 + 4, some ⟨129, 2, [[.int .i64 p1, .sl (N0 + 62) 0 l36.length]]⟩), (N0 + 18, some ⟨3, 1, [[.int .i64 v21]]⟩), (N0 + 62, some ⟨47, 5, encL rInstr l36⟩), (N0 + 35, some ⟨3, 1, [[.int .i64 6]]⟩)] (N0 + 84)) rfl rfl fun a' ha => ?_
       refine hK126 _ _ ?_; rw [ha]
       refine AWP_seqk [0, 1, 6] fun K127 hK127 => ?_
       obtain ⟨v43, hv43, H⟩ := bindE H
       obtain ⟨l44, hl44, H⟩ := bindE H
       have q17 : ∀ σ i, buildSliceA T 29 false i 1 [(0, .agg [.int .i64 v43, .int .i64 7, .int .i64 v21, .int .i64 6, .int .i64 0])] σ = some (.sl i 0 (List.length l44), σ.put i ⟨47, 5, encL rInstr l44⟩) := by rw [← Option.some.inj hl44]; intro _ _; rfl
       refine AWP_drawl tok tokM [] [6, 7, 8, 9, 10] [0, 1, 2, 3, 4, 5, 6, 7, 8, 9, 10] (by decide) ?_
       simp only [pickL, nthO_succ, nthO_zero]
       simp -dsimp -implicitDefEqProofs (maxDischargeDepth := 6) [gx134 hv43, gl_get hv43, q17]
       refine keepE2 (l := [0, 1, 6]) (x := [(0, .int .i64 7), (1, .fptr [.int .i64 p0.Op, .int .i64 p0.Dst, .int .i64 p0.A, .int .i64 p0.B, .int .i64 p0.N] 0), (6, .sl (N0 + 93) 0 l44.length)]) (s := hp B [(N0 + 4, some ⟨129, 2, [[.int .i64 p1, .sl (N0 + 62) 0 l36.length]]⟩), (N0 + 18, some ⟨3, 1, [[.int .i64 v21]]⟩), (N0 + 62, some ⟨47, 5, encL rInstr l36⟩), (N0 + 35, some ⟨3, 1, [[.int .i64 6]]⟩), (N0 + 93, some ⟨47, 5, encL rInstr l44⟩)] (N0 + 95)) rfl rfl fun a' ha => ?_
       refine hK127 _ _ ?_; rw [ha]
       refine AWP_seqk [6] fun K128 hK128 => ?_
       refine AWP_seqk [0, 6, 19] fun K129 hK129 => ?_
       refine AWP_regl tok [] ?_
       simp -dsimp -implicitDefEqProofs (maxDischargeDepth := 6)
       refine keepE2 (l := [0, 6, 19]) (x := [(0, .int .i64 7), (6, .sl (N0 + 93) 0 l44.length), (19, .bool (ieq p0.N 4))]) (s := hp B [(N0 + 4, some ⟨129, 2, [[.int .i64 p1, .sl (N0 + 62) 0 l36.length]]⟩), (N0 + 18, some ⟨3, 1, [[.int .i64 v21]]⟩), (N0 + 62, some ⟨47, 5, encL rInstr l36⟩), (N0 + 35, some ⟨3, 1, [[.int .i64 6]]⟩), (N0 + 93, some ⟨47, 5, encL rInstr l44⟩)] (N0 + 98)) rfl rfl fun a' ha => ?_
       refine hK129 _ _ ?_; rw [ha]
       refine AWP_cond (ieq p0.N 4) rfl (fun C9 => ?_) (fun C9 => ?_)
       ·
        replace H := ifT C9 H
        obtain ⟨l45, hl45, H⟩ := bindE H
        have q18 : ∀ σ i, buildSliceA T 29 true i 1 [(0, .agg [.int .i64 13, .int .i64 7, .int .i64 7, .int .i64 0, .int .i64 1])] σ = some (.fsl (encL rInstr ([(⟨13, 7, 7, 0, 1⟩ : gInstr)] : List gInstr)), σ) := fun _ _ => rfl
        refine AWP_regl tok [4] ?_
        simp -dsimp -implicitDefEqProofs (maxDischargeDepth := 6) [q18, app29 hl45]
        refine keepE2 (l := [6]) (x := [(6, .sl (N0 + 103) 0 l45.length)]) (s := hp B [(N0 + 4, some ⟨129, 2, [[.int .i64 p1, .sl (N0 + 62) 0 l36.length]]⟩), (N0 + 18, some ⟨3, 1, [[.int .i64 v21]]⟩), (N0 + 62, some ⟨47, 5, encL rInstr l36⟩), (N0 + 35, some ⟨3, 1, [[.int .i64 6]]⟩), (N0 + 93, none), (N0 + 103, some ⟨47, 5, encL rInstr l45⟩)] (N0 + 105)) rfl rfl fun a' ha => ?_
        refine hK128 _ _ ?_; rw [ha]
        refine AWP_seqk [5] fun K130 hK130 => ?_
        refine AWP_regl tok [] ?_
        simp -dsimp -implicitDefEqProofs (maxDischargeDepth := 6)
        refine keepE2 (l := [5]) (x := [(5, .sl (N0 + 103) 0 l45.length)]) (s := hp B [(N0 + 4, some ⟨129, 2, [[.int .i64 p1, .sl (N0 + 62) 0 l36.length]]⟩), (N0 + 18, some ⟨3, 1, [[.int .i64 v21]]⟩), (N0 + 62, some ⟨47, 5, encL rInstr l36⟩), (N0 + 35, some ⟨3, 1, [[.int .i64 6]]⟩), (N0 + 93, none), (N0 + 103, some ⟨47, 5, encL rInstr l45⟩)] (N0 + 107)) rfl rfl fun a' ha => ?_
        refine hK130 _ _ ?_; rw [ha]
        refine AWP_ret ?_
        have e0 : N0 ≤ N0 + 4 := by omega
        have e1 : N0 ≤ N0 + 18 := by omega
        have e2 : N0 ≤ N0 + 62 := by omega
        have e3 : N0 ≤ N0 + 35 := by omega
        have e4 : N0 ≤ N0 + 93 := by omega
        have e5 : N0 ≤ N0 + 103 := by omega
        refine ⟨[.sl (N0 + 103) 0 l45.length], by simp [e0, e1, e2, e3, e4, e5], ?_⟩
        simp -dsimp -implicitDefEqProofs (maxDischargeDepth := 6)
        refine ACalls_fn tok Tryd.func122 (by kernel_rfl) rfl Tryd.ntmps122 Tryd.results122 rfl ?_
        simp only [argsA, Nat.reduceAdd]
        refine AWP_toThen (AWP_named fun K131 hK131 => ?_)
        obtain ⟨l46, hl46, H⟩ := bindE H
        refine AWP_regl tok [] ?_
        simp -dsimp -implicitDefEqProofs (maxDischargeDepth := 6) [app29 hl46]
        refine keepE2 (l := []) (x := []) (s := hp B [(N0 + 4, some ⟨129, 2, [[.int .i64 p1, .sl (N0 + 113) 0 l46.length]]⟩), (N0 + 18, some ⟨3, 1, [[.int .i64 v21]]⟩), (N0 + 62, none), (N0 + 35, some ⟨3, 1, [[.int .i64 6]]⟩), (N0 + 93, none), (N0 + 103, some ⟨47, 5, encL rInstr l45⟩), (N0 + 113, some ⟨47, 5, encL rInstr l46⟩)] (N0 + 117)) rfl rfl fun a' ha => ?_
        refine hK131 _ _ ?_; try rw [ha]
        have e0 : N0 ≤ N0 + 4 := by omega
        have e1 : N0 ≤ N0 + 18 := by omega
        have e2 : N0 ≤ N0 + 62 := by omega
        have e3 : N0 ≤ N0 + 35 := by omega
        have e4 : N0 ≤ N0 + 93 := by omega
        have e5 : N0 ≤ N0 + 103 := by omega
        have e6 : N0 ≤ N0 + 113 := by omega
        refine ⟨[], by simp [e0, e1, e2, e3, e4, e5, e6], ?_⟩
        simp -dsimp -implicitDefEqProofs (maxDischargeDepth := 6)
        refine keepE2 (l := [0, 1]) (x := [(0, .ptr (N0 + 4) 0 0), (1, .int .i64 p0.Dst)]) (s := hp B [(N0 + 4, some ⟨129, 2, [[.int .i64 p1, .sl (N0 + 113) 0 l46.length]]⟩), (N0 + 18, some ⟨3, 1, [[.int .i64 v21]]⟩), (N0 + 62, none), (N0 + 35, some ⟨3, 1, [[.int .i64 6]]⟩), (N0 + 93, none), (N0 + 103, some ⟨47, 5, encL rInstr l45⟩), (N0 + 113, some ⟨47, 5, encL rInstr l46⟩)] (N0 + 117)) rfl rfl fun a' ha => ?_
        refine hK124 _ _ ?_; rw [ha]
        have q19 : ∀ σ i, buildSliceA T 29 true i 1 [(0, .agg [.int .i64 16, .int .i64 0, .int .i64 2, .int .i64 7, .int .i64 (imul .i64 4 (isub .i64 p0.Dst p1))])] σ = some (.fsl (encL rInstr ([(⟨16, 0, 2, 7, imul .i64 4 (isub .i64 p0.Dst p1)⟩ : gInstr)] : List gInstr)), σ) := fun _ _ => rfl
        refine AWP_regl tok [9] ?_
        simp -dsimp -implicitDefEqProofs (maxDischargeDepth := 6) [q19]
        refine ACalls_fn tok Tryd.func122 (by kernel_rfl) rfl Tryd.ntmps122 Tryd.results122 rfl ?_
        simp only [argsA, Nat.reduceAdd]
        refine AWP_toThen (AWP_named fun K132 hK132 => ?_)
        obtain ⟨l47, hl47, H⟩ := bindE H
        refine AWP_regl tok [] ?_
        simp -dsimp -implicitDefEqProofs (maxDischargeDepth := 6) [app29 hl47]
        refine keepE2 (l := []) (x := []) (s := hp B [(N0 + 4, some ⟨129, 2, [[.int .i64 p1, .sl (N0 + 134) 0 l47.length]]⟩), (N0 + 18, some ⟨3, 1, [[.int .i64 v21]]⟩), (N0 + 62, none), (N0 + 35, some ⟨3, 1, [[.int .i64 6]]⟩), (N0 + 93, none), (N0 + 103, some ⟨47, 5, encL rInstr l45⟩), (N0 + 113, none), (N0 + 134, some ⟨47, 5, encL rInstr l47⟩)] (N0 + 138)) rfl rfl fun a' ha => ?_
        refine hK132 _ _ ?_; try rw [ha]
        have e0 : N0 ≤ N0 + 4 := by omega
        have e1 : N0 ≤ N0 + 18 := by omega
        have e2 : N0 ≤ N0 + 62 := by omega
        have e3 : N0 ≤ N0 + 35 := by omega
        have e4 : N0 ≤ N0 + 93 := by omega
        have e5 : N0 ≤ N0 + 103 := by omega
        have e6 : N0 ≤ N0 + 113 := by omega
        have e7 : N0 ≤ N0 + 134 := by omega
        refine ⟨[], by simp [e0, e1, e2, e3, e4, e5, e6, e7], ?_⟩
        simp -dsimp -implicitDefEqProofs (maxDischargeDepth := 6)
        refine keepE2 (l := []) (x := []) (s := hp B [(N0 + 4, some ⟨129, 2, [[.int .i64 p1, .sl (N0 + 134) 0 l47.length]]⟩), (N0 + 18, some ⟨3, 1, [[.int .i64 v21]]⟩), (N0 + 62, none), (N0 + 35, some ⟨3, 1, [[.int .i64 6]]⟩), (N0 + 93, none), (N0 + 103, some ⟨47, 5, encL rInstr l45⟩), (N0 + 113, none), (N0 + 134, some ⟨47, 5, encL rInstr l47⟩)] (N0 + 138)) rfl rfl fun a' ha => ?_
        refine hK109 _ _ ?_; try rw [ha]
        have e0 : N0 ≤ N0 + 4 := by omega
        have e1 : N0 ≤ N0 + 18 := by omega
        have e2 : N0 ≤ N0 + 62 := by omega
        have e3 : N0 ≤ N0 + 35 := by omega
        have e4 : N0 ≤ N0 + 93 := by omega
        have e5 : N0 ≤ N0 + 103 := by omega
        have e6 : N0 ≤ N0 + 113 := by omega
        have e7 : N0 ≤ N0 + 134 := by omega
        refine ⟨[], by simp [e0, e1, e2, e3, e4, e5, e6, e7], ?_⟩
        simp -dsimp -implicitDefEqProofs (maxDischargeDepth := 6)
        refine keepE2 (l := [7]) (x := [(7, .ptr (N0 + 4) 0 0)]) (s := hp B [(N0 + 4, some ⟨129, 2, [[.int .i64 p1, .sl (N0 + 134) 0 l47.length]]⟩), (N0 + 18, some ⟨3, 1, [[.int .i64 v21]]⟩), (N0 + 62, none), (N0 + 35, some ⟨3, 1, [[.int .i64 6]]⟩), (N0 + 93, none), (N0 + 103, some ⟨47, 5, encL rInstr l45⟩), (N0 + 113, none), (N0 + 134, some ⟨47, 5, encL rInstr l47⟩)] (N0 + 138)) rfl rfl fun a' ha => ?_
        refine hK3 _ _ ?_; rw [ha]
        refine AWP_seqk [6] fun K133 hK133 => ?_
        refine AWP_regl tok [] ?_
        simp -dsimp -implicitDefEqProofs (maxDischargeDepth := 6)
        refine keepE2 (l := [6]) (x := [(6, .sl (N0 + 134) 0 l47.length)]) (s := hp B [(N0 + 4, some ⟨129, 2, [[.int .i64 p1, .sl (N0 + 134) 0 l47.length]]⟩), (N0 + 18, some ⟨3, 1, [[.int .i64 v21]]⟩), (N0 + 62, none), (N0 + 35, some ⟨3, 1, [[.int .i64 6]]⟩), (N0 + 93, none), (N0 + 103, some ⟨47, 5, encL rInstr l45⟩), (N0 + 113, none), (N0 + 134, some ⟨47, 5, encL rInstr l47⟩)] (N0 + 143)) rfl rfl fun a' ha => ?_
        refine hK133 _ _ ?_; rw [ha]
        refine AWP_ret ?_
        replace H := Option.some.inj H; subst H
        have e0 : N0 ≤ N0 + 4 := by omega
        have e1 : N0 ≤ N0 + 18 := by omega
        have e2 : N0 ≤ N0 + 62 := by omega
        have e3 : N0 ≤ N0 + 35 := by omega
        have e4 : N0 ≤ N0 + 93 := by omega
        have e5 : N0 ≤ N0 + 103 := by omega
        have e6 : N0 ≤ N0 + 113 := by omega
        have e7 : N0 ≤ N0 + 134 := by omega
        refine ⟨[.sl (N0 + 134) 0 l47.length], by simp [e0, e1, e2, e3, e4, e5, e6, e7], ?_, ?_⟩
        ·
         simp [encL_nil, e0, e1, e2, e3, e4, e5, e6, e7]
        ·
         intro o ho; exact lk_out (by simp; try omega)
       ·
        replace H := ifF C9 H
        refine AWP_skip ?_
        show K128 _ _
        refine keepE (l := [6]) (x := [(6, .sl (N0 + 93) 0 l44.length)]) rfl fun a' ha => ?_
        refine hK128 _ _ ?_; rw [ha]
        refine AWP_seqk [5] fun K134 hK134 => ?_
        refine AWP_regl tok [] ?_
        simp -dsimp -implicitDefEqProofs (maxDischargeDepth := 6)
        refine keepE2 (l := [5]) (x := [(5, .sl (N0 + 93) 0 l44.length)]) (s := hp B [(N0 + 4, some ⟨129, 2, [[.int .i64 p1, .sl (N0 + 62) 0 l36.length]]⟩), (N0 + 18, some ⟨3, 1, [[.int .i64 v21]]⟩), (N0 + 62, some ⟨47, 5, encL rInstr l36⟩), (N0 + 35, some ⟨3, 1, [[.int .i64 6]]⟩), (N0 + 93, some ⟨47, 5, encL rInstr l44⟩)] (N0 + 100)) rfl rfl fun a' ha => ?_
        refine hK134 _ _ ?_; rw [ha]
        refine AWP_ret ?_
        have e0 : N0 ≤ N0 + 4 := by omega
        have e1 : N0 ≤ N0 + 18 := by omega
        have e2 : N0 ≤ N0 + 62 := by omega
        have e3 : N0 ≤ N0 + 35 := by omega
        have e4 : N0 ≤ N0 + 93 := by omega
        refine ⟨[.sl (N0 + 93) 0 l44.length], by simp [e0, e1, e2, e3, e4], ?_⟩
        simp -dsimp -implicitDefEqProofs (maxDischargeDepth := 6)
        refine ACalls_fn tok Tryd.func122 (by kernel_rfl) rfl Tryd.ntmps122 Tryd.results122 rfl ?_
        simp only [argsA, Nat.reduceAdd]
        refine AWP_toThen (AWP_named fun K135 hK135 => ?_)
        obtain ⟨l48, hl48, H⟩ := bindE H
        refine AWP_regl tok [] ?_
        simp -dsimp -implicitDefEqProofs (maxDischargeDepth := 6) [app29 hl48]
        refine keepE2 (l := []) (x := []) (s := hp B [(N0 + 4, some ⟨129, 2, [[.int .i64 p1, .sl (N0 + 106) 0 l48.length]]⟩), (N0 + 18, some ⟨3, 1, [[.int .i64 v21]]⟩), (N0 + 62, none), (N0 + 35, some ⟨3, 1, [[.int .i64 6]]⟩), (N0 + 93, some ⟨47, 5, encL rInstr l44⟩), (N0 + 106, some ⟨47, 5, encL rInstr l48⟩)] (N0 + 110)) rfl rfl fun a' ha => ?_
        refine hK135 _ _ ?_; try rw [ha]
        have e0 : N0 ≤ N0 + 4 := by omega
        have e1 : N0 ≤ N0 + 18 := by omega
        have e2 : N0 ≤ N0 + 62 := by omega
        have e3 : N0 ≤ N0 + 35 := by omega
        have e4 : N0 ≤ N0 + 93 := by omega
        have e5 : N0 ≤ N0 + 106 := by omega
        refine ⟨[], by simp [e0, e1, e2, e3, e4, e5], ?_⟩
        simp -dsimp -implicitDefEqProofs (maxDischargeDepth := 6)
        refine keepE2 (l := [0, 1]) (x := [(0, .ptr (N0 + 4) 0 0), (1, .int .i64 p0.Dst)]) (s := hp B [(N0 + 4, some ⟨129, 2, [[.int .i64 p1, .sl (N0 + 106) 0 l48.length]]⟩), (N0 + 18, some ⟨3, 1, [[.int .i64 v21]]⟩), (N0 + 62, none), (N0 + 35, some ⟨3, 1, [[.int .i64 6]]⟩), (N0 + 93, some ⟨47, 5, encL rInstr l44⟩), (N0 + 106, some ⟨47, 5, encL rInstr l48⟩)] (N0 + 110)) rfl rfl fun a' ha => ?_
        refine hK124 _ _ ?_; rw [ha]
        have q20 : ∀ σ i, buildSliceA T 29 true i 1 [(0, .agg [.int .i64 16, .int .i64 0, .int .i64 2, .int .i64 7, .int .i64 (imul .i64 4 (isub .i64 p0.Dst p1))])] σ = some (.fsl (encL rInstr ([(⟨16, 0, 2, 7, imul .i64 4 (isub .i64 p0.Dst p1)⟩ : gInstr)] : List gInstr)), σ) := fun _ _ => rfl
        refine AWP_regl tok [9] ?_
        simp -dsimp -implicitDefEqProofs (maxDischargeDepth := 6) [q20]
        refine ACalls_fn tok Tryd.func122 (by kernel_rfl) rfl Tryd.ntmps122 Tryd.results122 rfl ?_
        simp only [argsA, Nat.reduceAdd]
        refine AWP_toThen (AWP_named fun K136 hK136 => ?_)
        obtain ⟨l49, hl49, H⟩ := bindE H
        refine AWP_regl tok [] ?_
        simp -dsimp -implicitDefEqProofs (maxDischargeDepth := 6) [app29 hl49]
        refine keepE2 (l := []) (x := []) (s := hp B [(N0 + 4, some ⟨129, 2, [[.int .i64 p1, .sl (N0 + 127) 0 l49.length]]⟩), (N0 + 18, some ⟨3, 1, [[.int .i64 v21]]⟩), (N0 + 62, none), (N0 + 35, some ⟨3, 1, [[.int .i64 6]]⟩), (N0 + 93, some ⟨47, 5, encL rInstr l44⟩), (N0 + 106, none), (N0 + 127, some ⟨47, 5, encL rInstr l49⟩)] (N0 + 131)) rfl rfl fun a' ha => ?_
        refine hK136 _ _ ?_; try rw [ha]
        have e0 : N0 ≤ N0 + 4 := by omega
        have e1 : N0 ≤ N0 + 18 := by omega
        have e2 : N0 ≤ N0 + 62 := by omega
        have e3 : N0 ≤ N0 + 35 := by omega
        have e4 : N0 ≤ N0 + 93 := by omega
        have e5 : N0 ≤ N0 + 106 := by omega
        have e6 : N0 ≤ N0 + 127 := by omega
        refine ⟨[], by simp [e0, e1, e2, e3, e4, e5, e6], ?_⟩
        simp -dsimp -implicitDefEqProofs (maxDischargeDepth := 6)
        refine keepE2 (l := []) (x := []) (s := hp B [(N0 + 4, some ⟨129, 2, [[.int .i64 p1, .sl (N0 + 127) 0 l49.length]]⟩), (N0 + 18, some ⟨3, 1, [[.int .i64 v21]]⟩), (N0 + 62, none), (N0 + 35, some ⟨3, 1, [[.int .i64 6]]⟩), (N0 + 93, some ⟨47, 5, encL rInstr l44⟩), (N0 + 106, none), (N0 + 127, some ⟨47, 5, encL rInstr l49⟩)] (N0 + 131)) rfl rfl fun a' ha => ?_
        refine hK109 _ _ ?_; try rw [ha]
        have e0 : N0 ≤ N0 + 4 := by omega
        have e1 : N0 ≤ N0 + 18 := by omega
        have e2 : N0 ≤ N0 + 62 := by omega
        have e3 : N0 ≤ N0 + 35 := by omega
        have e4 : N0 ≤ N0 + 93 := by omega
        have e5 : N0 ≤ N0 + 106 := by omega
        have e6 : N0 ≤ N0 + 127 := by omega
        refine ⟨[], by simp [e0, e1, e2, e3, e4, e5, e6], ?_⟩
        simp -dsimp -implicitDefEqProofs (maxDischargeDepth := 6)
        refine keepE2 (l := [7]) (x := [(7, .ptr (N0 + 4) 0 0)]) (s := hp B [(N0 + 4, some ⟨129, 2, [[.int .i64 p1, .sl (N0 + 127) 0 l49.length]]⟩), (N0 + 18, some ⟨3, 1, [[.int .i64 v21]]⟩), (N0 + 62, none), (N0 + 35, some ⟨3, 1, [[.int .i64 6]]⟩), (N0 + 93, some ⟨47, 5, encL rInstr l44⟩), (N0 + 106, none), (N0 + 127, some ⟨47, 5, encL rInstr l49⟩)] (N0 + 131)) rfl rfl fun a' ha => ?_
        refine hK3 _ _ ?_; rw [ha]
        refine AWP_seqk [6] fun K137 hK137 => ?_
        refine AWP_regl tok [] ?_
        simp -dsimp -implicitDefEqProofs (maxDischargeDepth := 6)
        refine keepE2 (l := [6]) (x := [(6, .sl (N0 + 127) 0 l49.length)]) (s := hp B [(N0 + 4, some ⟨129, 2, [[.int .i64 p1, .sl (N0 + 127) 0 l49.length]]⟩), (N0 + 18, some ⟨3, 1, [[.int .i64 v21]]⟩), (N0 + 62, none), (N0 + 35, some ⟨3, 1, [[.int .i64 6]]⟩), (N0 + 93, some ⟨47, 5, encL rInstr l44⟩), (N0 + 106, none), (N0 + 127, some ⟨47, 5, encL rInstr l49⟩)] (N0 + 136)) rfl rfl fun a' ha => ?_
        refine hK137 _ _ ?_; rw [ha]
        refine AWP_ret ?_
        replace H := Option.some.inj H; subst H
        have e0 : N0 ≤ N0 + 4 := by omega
        have e1 : N0 ≤ N0 + 18 := by omega
        have e2 : N0 ≤ N0 + 62 := by omega
        have e3 : N0 ≤ N0 + 35 := by omega
        have e4 : N0 ≤ N0 + 93 := by omega
        have e5 : N0 ≤ N0 + 106 := by omega
        have e6 : N0 ≤ N0 + 127 := by omega
        refine ⟨[.sl (N0 + 127) 0 l49.length], by simp [e0, e1, e2, e3, e4, e5, e6], ?_, ?_⟩
        ·
         simp [encL_nil, e0, e1, e2, e3, e4, e5, e6]
        ·
         intro o ho; exact lk_out (by simp; try omega)
    ·
     replace H := ifF C19 H
     refine AWP_skip ?_
     show K68 _ _
     refine keepE (l := [0, 1, 2]) (x := [(0, .ptr (N0 + 4) 0 0), (1, .int .i64 p0.A), (2, .int .i64 5)]) rfl fun a' ha => ?_
     refine hK68 _ _ ?_; rw [ha]
     refine AWP_seqk [2] fun K138 hK138 => ?_
     have q21 : ∀ σ i, buildSliceA T 29 true i 1 [(0, .agg [.int .i64 14, .int .i64 5, .int .i64 2, .int .i64 0, .int .i64 (imul .i64 4 (isub .i64 p0.A p1))])] σ = some (.fsl (encL rInstr ([(⟨14, 5, 2, 0, imul .i64 4 (isub .i64 p0.A p1)⟩ : gInstr)] : List gInstr)), σ) := fun _ _ => rfl
     refine AWP_regl tok [10] ?_
     simp -dsimp -implicitDefEqProofs (maxDischargeDepth := 6) [q21]
     refine ACalls_fn tok Tryd.func122 (by kernel_rfl) rfl Tryd.ntmps122 Tryd.results122 rfl ?_
     simp only [argsA, Nat.reduceAdd]
     refine AWP_toThen (AWP_named fun K139 hK139 => ?_)
     obtain ⟨l50, hl50, H⟩ := bindE H
     refine AWP_regl tok [] ?_
     simp -dsimp -implicitDefEqProofs (maxDischargeDepth := 6) [appn29 hl50]
     refine keepE2 (l := []) (x := []) (s := hp B [(N0 + 4, some ⟨129, 2, [[.int .i64 p1, .sl (N0 + 45) 0 l50.length]]⟩), (N0 + 45, some ⟨47, 5, encL rInstr l50⟩)] (N0 + 49)) rfl rfl fun a' ha => ?_
     refine hK139 _ _ ?_; try rw [ha]
     have e0 : N0 ≤ N0 + 4 := by omega
     have e1 : N0 ≤ N0 + 45 := by omega
     refine ⟨[], by simp [e0, e1], ?_⟩
     simp -dsimp -implicitDefEqProofs (maxDischargeDepth := 6)
     refine keepE2 (l := [2]) (x := [(2, .int .i64 5)]) (s := hp B [(N0 + 4, some ⟨129, 2, [[.int .i64 p1, .sl (N0 + 45) 0 l50.length]]⟩), (N0 + 45, some ⟨47, 5, encL rInstr l50⟩)] (N0 + 49)) rfl rfl fun a' ha => ?_
     refine hK138 _ _ ?_; rw [ha]
     refine AWP_seqk [6] fun K140 hK140 => ?_
     refine AWP_regl tok [] ?_
     simp -dsimp -implicitDefEqProofs (maxDischargeDepth := 6)
     refine keepE2 (l := [6]) (x := [(6, .int .i64 5)]) (s := hp B [(N0 + 4, some ⟨129, 2, [[.int .i64 p1, .sl (N0 + 45) 0 l50.length]]⟩), (N0 + 45, some ⟨47, 5, encL rInstr l50⟩)] (N0 + 51)) rfl rfl fun a' ha => ?_
     refine hK140 _ _ ?_; rw [ha]
     refine AWP_ret ?_
     have e0 : N0 ≤ N0 + 4 := by omega
     have e1 : N0 ≤ N0 + 45 := by omega
     refine ⟨[.int .i64 5], by simp [e0, e1], ?_⟩
     simp -dsimp -implicitDefEqProofs (maxDischargeDepth := 6)
     refine keepE2 (l := [3, 7, 9]) (x := [(3, .fptr [.int .i64 p0.Op, .int .i64 p0.Dst, .int .i64 p0.A, .int .i64 p0.B, .int .i64 p0.N] 0), (7, .ptr (N0 + 4) 0 0), (9, .ptr (N0 + 18) 0 0)]) (s := hp B [(N0 + 4, some ⟨129, 2, [[.int .i64 p1, .sl (N0 + 45) 0 l50.length]]⟩), (N0 + 45, some ⟨47, 5, encL rInstr l50⟩), (N0 + 18, some ⟨3, 1, [[.int .i64 5]]⟩)] (N0 + 51)) rfl rfl fun a' ha => ?_
     refine hK65 _ _ ?_; rw [ha]
     refine AWP_seqk [3, 7, 9, 10] fun K141 hK141 => ?_
     refine AWP_regl tok [] ?_
     simp -dsimp -implicitDefEqProofs (maxDischargeDepth := 6)
     refine ACalls_fn tok Tryd.func117 (by kernel_rfl) rfl Tryd.ntmps117 Tryd.results117 rfl ?_
     simp only [argsA, Nat.reduceAdd]
     refine AWP_seqk [0, 1, 2] fun K143 hK143 => ?_
     refine AWP_regl tok [] ?_
     simp -dsimp -implicitDefEqProofs (maxDischargeDepth := 6)
     refine keepE2 (l := [0, 1, 2]) (x := [(0, .ptr (N0 + 4) 0 0), (1, .int .i64 p0.B), (2, .int .i64 6)]) (s := hp B [(N0 + 4, some ⟨129, 2, [[.int .i64 p1, .sl (N0 + 45) 0 l50.length]]⟩), (N0 + 45, some ⟨47, 5, encL rInstr l50⟩), (N0 + 18, some ⟨3, 1, [[.int .i64 5]]⟩)] (N0 + 58)) rfl rfl fun a' ha => ?_
     refine hK143 _ _ ?_; rw [ha]
     refine AWP_seqk [0, 1, 2] fun K144 hK144 => ?_
     refine AWP_seqk [0, 1, 2, 12] fun K145 hK145 => ?_
     refine AWP_regl tok [] ?_
     simp -dsimp -implicitDefEqProofs (maxDischargeDepth := 6)
     refine keepE2 (l := [0, 1, 2, 12]) (x := [(0, .ptr (N0 + 4) 0 0), (1, .int .i64 p0.B), (2, .int .i64 6), (12, .bool (ilt p0.B p1))]) (s := hp B [(N0 + 4, some ⟨129, 2, [[.int .i64 p1, .sl (N0 + 45) 0 l50.length]]⟩), (N0 + 45, some ⟨47, 5, encL rInstr l50⟩), (N0 + 18, some ⟨3, 1, [[.int .i64 5]]⟩)] (N0 + 64)) rfl rfl fun a' ha => ?_
     refine hK145 _ _ ?_; rw [ha]
     refine AWP_cond (ilt p0.B p1) rfl (fun C18 => ?_) (fun C18 => ?_)
     ·
      replace H := ifT C18 H
      refine AWP_seqk [6] fun K146 hK146 => ?_
      obtain ⟨v51, hv51, H⟩ := bindE H
      refine AWP_regl tok [] ?_
      simp -dsimp -implicitDefEqProofs (maxDischargeDepth := 6) [gx157 hv51, gl_get hv51]
      refine keepE2 (l := [6]) (x := [(6, .int .i64 v51)]) (s := hp B [(N0 + 4, some ⟨129, 2, [[.int .i64 p1, .sl (N0 + 45) 0 l50.length]]⟩), (N0 + 45, some ⟨47, 5, encL rInstr l50⟩), (N0 + 18, some ⟨3, 1, [[.int .i64 5]]⟩)] (N0 + 68)) rfl rfl fun a' ha => ?_
      refine hK146 _ _ ?_; rw [ha]
      refine AWP_ret ?_
      have e0 : N0 ≤ N0 + 4 := by omega
      have e1 : N0 ≤ N0 + 45 := by omega
      have e2 : N0 ≤ N0 + 18 := by omega
      refine ⟨[.int .i64 v51], by simp [e0, e1, e2], ?_⟩
      simp -dsimp -implicitDefEqProofs (maxDischargeDepth := 6)
      refine keepE2 (l := [3, 7, 9, 10]) (x := [(3, .fptr [.int .i64 p0.Op, .int .i64 p0.Dst, .int .i64 p0.A, .int .i64 p0.B, .int .i64 p0.N] 0), (7, .ptr (N0 + 4) 0 0), (9, .ptr (N0 + 18) 0 0), (10, .ptr (N0 + 55) 0 0)]) (s := hp B [(N0 + 4, some ⟨129, 2, [[.int .i64 p1, .sl (N0 + 45) 0 l50.length]]⟩), (N0 + 45, some ⟨47, 5, encL rInstr l50⟩), (N0 + 18, some ⟨3, 1, [[.int .i64 5]]⟩), (N0 + 55, some ⟨3, 1, [[.int .i64 v51]]⟩)] (N0 + 68)) rfl rfl fun a' ha => ?_
      refine hK141 _ _ ?_; rw [ha]
      refine AWP_toThen ?_
      refine AWP_regl tok [] ?_
      simp -dsimp -implicitDefEqProofs (maxDischargeDepth := 6)
      refine ACalls_fn tok Tryd.func115 (by kernel_rfl) rfl Tryd.ntmps115 Tryd.results115 rfl ?_
      simp only [argsA, Nat.reduceAdd]
      refine AWP_toThen (AWP_named fun K147 hK147 => ?_)
      refine AWP_seqk [0, 1, 2] fun K148 hK148 => ?_
      refine AWP_seqk [0, 1, 2, 11] fun K149 hK149 => ?_
      refine AWP_regl tok [] ?_
      simp -dsimp -implicitDefEqProofs (maxDischargeDepth := 6)
      refine keepE2 (l := [0, 1, 2, 11]) (x := [(0, .ptr (N0 + 4) 0 0), (1, .int .i64 p0.Dst), (2, .clo 120 [] [.fptr [.int .i64 p0.Op, .int .i64 p0.Dst, .int .i64 p0.A, .int .i64 p0.B, .int .i64 p0.N] 0, .ptr (N0 + 18) 0 0, .ptr (N0 + 55) 0 0]), (11, .bool (ilt p0.Dst p1))]) (s := hp B [(N0 + 4, some ⟨129, 2, [[.int .i64 p1, .sl (N0 + 45) 0 l50.length]]⟩), (N0 + 45, some ⟨47, 5, encL rInstr l50⟩), (N0 + 18, some ⟨3, 1, [[.int .i64 5]]⟩), (N0 + 55, some ⟨3, 1, [[.int .i64 v51]]⟩)] (N0 + 79)) rfl rfl fun a' ha => ?_
      refine hK149 _ _ ?_; rw [ha]
      refine AWP_cond (ilt p0.Dst p1) rfl (fun C14 => ?_) (fun C14 => ?_)
      ·
       replace H := ifT C14 H
       refine AWP_seqk [] fun K150 hK150 => ?_
       obtain ⟨v52, hv52, H⟩ := bindE H
       refine AWP_regl tok [] ?_
       simp -dsimp -implicitDefEqProofs (maxDischargeDepth := 6) [gx157 hv52, gl_get hv52]
       refine ACalls_fn tok Tryd.func120 (by kernel_rfl) rfl Tryd.ntmps120 Tryd.results120 rfl ?_
       simp only [argsA, Nat.reduceAdd]
       refine AWP_seqk [0, 1, 2, 3] fun K152 hK152 => ?_
       refine AWP_regl tok [] ?_
       simp -dsimp -implicitDefEqProofs (maxDischargeDepth := 6)
       refine keepE2 (l := [0, 1, 2, 3]) (x := [(0, .int .i64 v52), (1, .fptr [.int .i64 p0.Op, .int .i64 p0.Dst, .int .i64 p0.A, .int .i64 p0.B, .int .i64 p0.N] 0), (2, .ptr (N0 + 18) 0 0), (3, .ptr (N0 + 55) 0 0)]) (s := hp B [(N0 + 4, some ⟨129, 2, [[.int .i64 p1, .sl (N0 + 45) 0 l50.length]]⟩), (N0 + 45, some ⟨47, 5, encL rInstr l50⟩), (N0 + 18, some ⟨3, 1, [[.int .i64 5]]⟩), (N0 + 55, some ⟨3, 1, [[.int .i64 v51]]⟩)] (N0 + 87)) rfl rfl fun a' ha => ?_
       refine hK152 _ _ ?_; rw [ha]
       refine AWP_seqk [0, 1, 6] fun K153 hK153 => ?_
       obtain ⟨v53, hv53, H⟩ := bindE H
       obtain ⟨l54, hl54, H⟩ := bindE H
       have q22 : ∀ σ i, buildSliceA T 29 false i 1 [(0, .agg [.int .i64 v53, .int .i64 v52, .int .i64 5, .int .i64 v51, .int .i64 0])] σ = some (.sl i 0 (List.length l54), σ.put i ⟨47, 5, encL rInstr l54⟩) := by rw [← Option.some.inj hl54]; intro _ _; rfl
       refine AWP_drawl tok tokM [] [6, 7, 8, 9, 10] [0, 1, 2, 3, 4, 5, 6, 7, 8, 9, 10] (by decide) ?_
       simp only [pickL, nthO_succ, nthO_zero]
       simp -dsimp -implicitDefEqProofs (maxDischargeDepth := 6) [gx134 hv53, gl_get hv53, q22]
       refine keepE2 (l := [0, 1, 6]) (x := [(0, .int .i64 v52), (1, .fptr [.int .i64 p0.Op, .int .i64 p0.Dst, .int .i64 p0.A, .int .i64 p0.B, .int .i64 p0.N] 0), (6, .sl (N0 + 96) 0 l54.length)]) (s := hp B [(N0 + 4, some ⟨129, 2, [[.int .i64 p1, .sl (N0 + 45) 0 l50.length]]⟩), (N0 + 45, some ⟨47, 5, encL rInstr l50⟩), (N0 + 18, some ⟨3, 1, [[.int .i64 5]]⟩), (N0 + 55, some ⟨3, 1, [[.int .i64 v51]]⟩), (N0 + 96, some ⟨47, 5, encL rInstr l54⟩)] (N0 + 98)) rfl rfl fun a' ha => ?_
       refine hK153 _ _ ?_; rw [ha]
       refine AWP_seqk [6] fun K154 hK154 => ?_
       refine AWP_seqk [0, 6, 19] fun K155 hK155 => ?_
       refine AWP_regl tok [] ?_
       simp -dsimp -implicitDefEqProofs (maxDischargeDepth := 6)
       refine keepE2 (l := [0, 6, 19]) (x := [(0, .int .i64 v52), (6, .sl (N0 + 96) 0 l54.length), (19, .bool (ieq p0.N 4))]) (s := hp B [(N0 + 4, some ⟨129, 2, [[.int .i64 p1, .sl (N0 + 45) 0 l50.length]]⟩), (N0 + 45, some ⟨47, 5, encL rInstr l50⟩), (N0 + 18, some ⟨3, 1, [[.int .i64 5]]⟩), (N0 + 55, some ⟨3, 1, [[.int .i64 v51]]⟩), (N0 + 96, some ⟨47, 5, encL rInstr l54⟩)] (N0 + 101)) rfl rfl fun a' ha => ?_
       refine hK155 _ _ ?_; rw [ha]
       refine AWP_cond (ieq p0.N 4) rfl (fun C12 => ?_) (fun C12 => ?_)
       ·
        replace H := ifT C12 H
        obtain ⟨l55, hl55, H⟩ := bindE H
        have q23 : ∀ σ i, buildSliceA T 29 true i 1 [(0, .agg [.int .i64 13, .int .i64 v52, .int .i64 v52, .int .i64 0, .int .i64 1])] σ = some (.fsl (encL rInstr ([(⟨13, v52, v52, 0, 1⟩ : gInstr)] : List gInstr)), σ) := fun _ _ => rfl
        refine AWP_regl tok [4] ?_
        simp -dsimp -implicitDefEqProofs (maxDischargeDepth := 6) [q23, app29 hl55]
        refine keepE2 (l := [6]) (x := [(6, .sl (N0 + 106) 0 l55.length)]) (s := hp B [(N0 + 4, some ⟨129, 2, [[.int .i64 p1, .sl (N0 + 45) 0 l50.length]]⟩), (N0 + 45, some ⟨47, 5, encL rInstr l50⟩), (N0 + 18, some ⟨3, 1, [[.int .i64 5]]⟩), (N0 + 55, some ⟨3, 1, [[.int .i64 v51]]⟩), (N0 + 96, none), (N0 + 106, some ⟨47, 5, encL rInstr l55⟩)] (N0 + 108)) rfl rfl fun a' ha => ?_
        refine hK154 _ _ ?_; rw [ha]
        refine AWP_seqk [5] fun K156 hK156 => ?_
        refine AWP_regl tok [] ?_
        simp -dsimp -implicitDefEqProofs (maxDischargeDepth := 6)
        refine keepE2 (l := [5]) (x := [(5, .sl (N0 + 106) 0 l55.length)]) (s := hp B [(N0 + 4, some ⟨129, 2, [[.int .i64 p1, .sl (N0 + 45) 0 l50.length]]⟩), (N0 + 45, some ⟨47, 5, encL rInstr l50⟩), (N0 + 18, some ⟨3, 1, [[.int .i64 5]]⟩), (N0 + 55, some ⟨3, 1, [[.int .i64 v51]]⟩), (N0 + 96, none), (N0 + 106, some ⟨47, 5, encL rInstr l55⟩)] (N0 + 110)) rfl rfl fun a' ha => ?_
        refine hK156 _ _ ?_; rw [ha]
        refine AWP_ret ?_
        have e0 : N0 ≤ N0 + 4 := by omega
        have e1 : N0 ≤ N0 + 45 := by omega
        have e2 : N0 ≤ N0 + 18 := by omega
        have e3 : N0 ≤ N0 + 55 := by omega
        have e4 : N0 ≤ N0 + 96 := by omega
        have e5 : N0 ≤ N0 + 106 := by omega
        refine ⟨[.sl (N0 + 106) 0 l55.length], by simp [e0, e1, e2, e3, e4, e5], ?_⟩
        simp -dsimp -implicitDefEqProofs (maxDischargeDepth := 6)
        refine ACalls_fn tok Tryd.func122 (by kernel_rfl) rfl Tryd.ntmps122 Tryd.results122 rfl ?_
        simp only [argsA, Nat.reduceAdd]
        refine AWP_toThen (AWP_named fun K157 hK157 => ?_)
        obtain ⟨l56, hl56, H⟩ := bindE H
        refine AWP_regl tok [] ?_
        simp -dsimp -implicitDefEqProofs (maxDischargeDepth := 6) [app29 hl56]
        refine keepE2 (l := []) (x := []) (s := hp B [(N0 + 4, some ⟨129, 2, [[.int .i64 p1, .sl (N0 + 116) 0 l56.length]]⟩), (N0 + 45, none), (N0 + 18, some ⟨3, 1, [[.int .i64 5]]⟩), (N0 + 55, some ⟨3, 1, [[.int .i64 v51]]⟩), (N0 + 96, none), (N0 + 106, some ⟨47, 5, encL rInstr l55⟩), (N0 + 116, some ⟨47, 5, encL rInstr l56⟩)] (N0 + 120)) rfl rfl fun a' ha => ?_
        refine hK157 _ _ ?_; try rw [ha]
        have e0 : N0 ≤ N0 + 4 := by omega
        have e1 : N0 ≤ N0 + 45 := by omega
        have e2 : N0 ≤ N0 + 18 := by omega
        have e3 : N0 ≤ N0 + 55 := by omega
        have e4 : N0 ≤ N0 + 96 := by omega
        have e5 : N0 ≤ N0 + 106 := by omega
        have e6 : N0 ≤ N0 + 116 := by omega
        refine ⟨[], by simp [e0, e1, e2, e3, e4, e5, e6], ?_⟩
        simp -dsimp -implicitDefEqProofs (maxDischargeDepth := 6)
        refine keepE2 (l := []) (x := []) (s := hp B [(N0 + 4, some ⟨129, 2, [[.int .i64 p1, .sl (N0 + 116) 0 l56.length]]⟩), (N0 + 45, none), (N0 + 18, some ⟨3, 1, [[.int .i64 5]]⟩), (N0 + 55, some ⟨3, 1, [[.int .i64 v51]]⟩), (N0 + 96, none), (N0 + 106, some ⟨47, 5, encL rInstr l55⟩), (N0 + 116, some ⟨47, 5, encL rInstr l56⟩)] (N0 + 120)) rfl rfl fun a' ha => ?_
        refine hK150 _ _ ?_; rw [ha]
        refine AWP_ret ?_
        have e0 : N0 ≤ N0 + 4 := by omega
        have e1 : N0 ≤ N0 + 45 := by omega
        have e2 : N0 ≤ N0 + 18 := by omega
        have e3 : N0 ≤ N0 + 55 := by omega
        have e4 : N0 ≤ N0 + 96 := by omega
        have e5 : N0 ≤ N0 + 106 := by omega
        have e6 : N0 ≤ N0 + 116 := by omega
        refine ⟨[], by simp [e0, e1, e2, e3, e4, e5, e6], ?_⟩
        simp -dsimp -implicitDefEqProofs (maxDischargeDepth := 6)
        refine keepE2 (l := [7]) (x := [(7, .ptr (N0 + 4) 0 0)]) (s := hp B [(N0 + 4, some ⟨129, 2, [[.int .i64 p1, .sl (N0 + 116) 0 l56.length]]⟩), (N0 + 45, none), (N0 + 18, some ⟨3, 1, [[.int .i64 5]]⟩), (N0 + 55, some ⟨3, 1, [[.int .i64 v51]]⟩), (N0 + 96, none), (N0 + 106, some ⟨47, 5, encL rInstr l55⟩), (N0 + 116, some ⟨47, 5, encL rInstr l56⟩)] (N0 + 120)) rfl rfl fun a' ha => ?_
        refine hK3 _ _ ?_; rw [ha]
        refine AWP_seqk [6] fun K158 hK158 => ?_
        refine AWP_regl tok [] ?_
        simp -dsimp -implicitDefEqProofs (maxDischargeDepth := 6)
        refine keepE2 (l := [6]) (x := [(6, .sl (N0 + 116) 0 l56.length)]) (s := hp B [(N0 + 4, some ⟨129, 2, [[.int .i64 p1, .sl (N0 + 116) 0 l56.length]]⟩), (N0 + 45, none), (N0 + 18, some ⟨3, 1, [[.int .i64 5]]⟩), (N0 + 55, some ⟨3, 1, [[.int .i64 v51]]⟩), (N0 + 96, none), (N0 + 106, some ⟨47, 5, encL rInstr l55⟩), (N0 + 116, some ⟨47, 5, encL rInstr l56⟩)] (N0 + 125)) rfl rfl fun a' ha => ?_
        refine hK158 _ _ ?_; rw [ha]
        refine AWP_ret ?_
        replace H := Option.some.inj H; subst H
        have e0 : N0 ≤ N0 + 4 := by omega
        have e1 : N0 ≤ N0 + 45 := by omega
        have e2 : N0 ≤ N0 + 18 := by omega
        have e3 : N0 ≤ N0 + 55 := by omega
        have e4 : N0 ≤ N0 + 96 := by omega
        have e5 : N0 ≤ N0 + 106 := by omega
        have e6 : N0 ≤ N0 + 116 := by omega
        refine ⟨[.sl (N0 + 116) 0 l56.length], by simp [e0, e1, e2, e3, e4, e5, e6], ?_, ?_⟩
        ·
         simp [encL_nil, e0, e1, e2, e3, e4, e5, e6]
        ·
         intro o ho; exact lk_out (by simp; try omega)
       ·
        replace H := ifF C12 H
        refine AWP_skip ?_
        show K154 _ _
        refine keepE (l := [6]) (x := [(6, .sl (N0 + 96) 0 l54.length)]) rfl fun a' ha => ?_
        refine hK154 _ _ ?_; rw [ha]
        refine AWP_seqk [5] fun K159 hK159 => ?_
        refine AWP_regl tok [] ?_
        simp -dsimp -implicitDefEqProofs (maxDischargeDepth := 6)
        refine keepE2 (l := [5]) (x := [(5, .sl (N0 + 96) 0 l54.length)]) (s := hp B [(N0 + 4, some ⟨129, 2, [[.int .i64 p1, .sl (N0 + 45) 0 l50.length]]⟩), (N0 + 45, some ⟨47, 5, encL rInstr l50⟩), (N0 + 18, some ⟨3, 1, [[.int .i64 5]]⟩), (N0 + 55, some ⟨3, 1, [[.int .i64 v51]]⟩), (N0 + 96, some ⟨47, 5, encL rInstr l54⟩)] (N0 + 103)) rfl rfl fun a' ha => ?_
        refine hK159 _ _ ?_; rw [ha]
        refine AWP_ret ?_
        have e0 : N0 ≤ N0 + 4 := by omega
        have e1 : N0 ≤ N0 + 45 := by omega
        have e2 : N0 ≤ N0 + 18 := by omega
        have e3 : N0 ≤ N0 + 55 := by omega
        have e4 : N0 ≤ N0 + 96 := by omega
        refine ⟨[.sl (N0 + 96) 0 l54.length], by simp [e0, e1, e2, e3, e4], ?_⟩
        simp -dsimp -implicitDefEqProofs (maxDischargeDepth := 6)
        refine ACalls_fn tok Tryd.func122 (by kernel_rfl) rfl Tryd.ntmps122 Tryd.results122 rfl ?_
        simp only [argsA, Nat.reduceAdd]
        refine AWP_toThen (AWP_named fun K160 hK160 => ?_)
        obtain ⟨l57, hl57, H⟩ := bindE H
        refine AWP_regl tok [] ?_
        simp -dsimp -implicitDefEqProofs (maxDischargeDepth := 6) [app29 hl57]
        refine keepE2 (l := []) (x := []) (s := hp B [(N0 + 4, some ⟨129, 2, [[.int .i64 p1, .sl (N0 + 109) 0 l57.length]]⟩), (N0 + 45, none), (N0 + 18, some ⟨3, 1, [[.int .i64 5]]⟩), (N0 + 55, some ⟨3, 1, [[.int .i64 v51]]⟩), (N0 + 96, some ⟨47, 5, encL rInstr l54⟩), (N0 + 109, some ⟨47, 5, encL rInstr l57⟩)] (N0 + 113)) rfl rfl fun a' ha => ?_
        refine hK160 _ _ ?_; try rw [ha]
        have e0 : N0 ≤ N0 + 4 := by omega
        have e1 : N0 ≤ N0 + 45 := by omega
        have e2 : N0 ≤ N0 + 18 := by omega
        have e3 : N0 ≤ N0 + 55 := by omega
        have e4 : N0 ≤ N0 + 96 := by omega
        have e5 : N0 ≤ N0 + 109 := by omega
        refine ⟨[], by simp [e0, e1, e2, e3, e4, e5], ?_⟩
        simp -dsimp -implicitDefEqProofs (maxDischargeDepth := 6)
        refine keepE2 (l := []) (x := []) (s := hp B [(N0 + 4, some ⟨129, 2, [[.int .i64 p1, .sl (N0 + 109) 0 l57.length]]⟩), (N0 + 45, none), (N0 + 18, some ⟨3, 1, [[.int .i64 5]]⟩), (N0 + 55, some ⟨3, 1, [[.int .i64 v51]]⟩), (N0 + 96, some ⟨47, 5, encL rInstr l54⟩), (N0 + 109, some ⟨47, 5, encL rInstr l57⟩)] (N0 + 113)) rfl rfl fun a' ha => ?_
        refine hK150 _ _ ?_; rw [ha]
        refine AWP_ret ?_
        have e0 : N0 ≤ N0 + 4 := by omega
        have e1 : N0 ≤ N0 + 45 := by omega
        have e2 : N0 ≤ N0 + 18 := by omega
        have e3 : N0 ≤ N0 + 55 := by omega
        have e4 : N0 ≤ N0 + 96 := by omega
        have e5 : N0 ≤ N0 + 109 := by omega
        refine ⟨[], by simp [e0, e1, e2, e3, e4, e5], ?_⟩
        simp -dsimp -implicitDefEqProofs (maxDischargeDepth := 6)
        refine keepE2 (l := [7]) (x := [(7, .ptr (N0 + 4) 0 0)]) (s := hp B [(N0 + 4, some ⟨129, 2, [[.int .i64 p1, .sl (N0 + 109) 0 l57.length]]⟩), (N0 + 45, none), (N0 + 18, some ⟨3, 1, [[.int .i64 5]]⟩), (N0 + 55, some ⟨3, 1, [[.int .i64 v51]]⟩), (N0 + 96, some ⟨47, 5, encL rInstr l54⟩), (N0 + 109, some ⟨47, 5, encL rInstr l57⟩)] (N0 + 113)) rfl rfl fun a' ha => ?_
        refine hK3 _ _ ?_; rw [ha]
        refine AWP_seqk [6] fun K161 hK161 => ?_
        refine AWP_regl tok [] ?_
        simp -dsimp -implicitDefEqProofs (maxDischargeDepth := 6)
        refine keepE2 (l := [6]) (x := [(6, .sl (N0 + 109) 0 l57.length)]) (s := hp B [(N0 + 4, some ⟨129, 2, [[.int .i64 p1, .sl (N0 + 109) 0 l57.length]]⟩), (N0 + 45, none), (N0 + 18, some ⟨3, 1, [[.int .i64 5]]⟩), (N0 + 55, some ⟨3, 1, [[.int .i64 v51]]⟩), (N0 + 96, some ⟨47, 5, encL rInstr l54⟩), (N0 + 109, some ⟨47, 5, encL rInstr l57⟩)] (N0 + 118)) rfl rfl fun a' ha => ?_
        refine hK161 _ _ ?_; rw [ha]
        refine AWP_ret ?_
        replace H := Option.some.inj H; subst H
        have e0 : N0 ≤ N0 + 4 := by omega
        have e1 : N0 ≤ N0 + 45 := by omega
        have e2 : N0 ≤ N0 + 18 := by omega
        have e3 : N0 ≤ N0 + 55 := by omega
        have e4 : N0 ≤ N0 + 96 := by omega
        have e5 : N0 ≤ N0 + 109 := by omega
        refine ⟨[.sl (N0 + 109) 0 l57.length], by simp [e0, e1, e2, e3, e4, e5], ?_, ?_⟩
        ·
         simp [encL_nil, e0, e1, e2, e3, e4, e5]
        ·
         intro o ho; exact lk_out (by simp; try omega)
      ·
       replace H := ifF C14 H
       refine AWP_skip ?_
       show K148 _ _
       refine keepE (l := [0, 1, 2]) (x := [(0, .ptr (N0 + 4) 0 0), (1, .int .i64 p0.Dst), (2, .clo 120 [] [.fptr [.int .i64 p0.Op, .int .i64 p0.Dst, .int .i64 p0.A, .int .i64 p0.B, .int .i64 p0.N] 0, .ptr (N0 + 18) 0 0, .ptr (N0 + 55) 0 0])]) rfl fun a' ha => ?_
       refine hK148 _ _ ?_; rw [ha]
       refine AWP_seqk [0, 1] fun K162 hK162 => ?_
       refine AWP_regl tok [] ?_
       simp -dsimp -implicitDefEqProofs (maxDischargeDepth := 6)
       refine ACalls_fn tok Tryd.func120 (by kernel_rfl) rfl Tryd.ntmps120 Tryd.results120 rfl ?_
       simp only [argsA, Nat.reduceAdd]
       refine AWP_seqk [0, 1, 2, 3] fun K164 hK164 => ?_
       refine AWP_regl tok [] ?_
       simp -dsimp -implicitDefEqProofs (maxDischargeDepth := 6)
       refine keepE2 (l := [0, 1, 2, 3]) (x := [(0, .int .i64 7), (1, .fptr [.int .i64 p0.Op, .int .i64 p0.Dst, .int .i64 p0.A, .int .i64 p0.B, .int .i64 p0.N] 0), (2, .ptr (N0 + 18) 0 0), (3, .ptr (N0 + 55) 0 0)]) (s := hp B [(N0 + 4, some ⟨129, 2, [[.int .i64 p1, .sl (N0 + 45) 0 l50.length]]⟩), (N0 + 45, some ⟨47, 5, encL rInstr l50⟩), (N0 + 18, some ⟨3, 1, [[.int .i64 5]]⟩), (N0 + 55, some ⟨3, 1, [[.int .i64 v51]]⟩)] (N0 + 84)) rfl rfl fun a' ha => ?_
       refine hK164 _ _ ?_; rw [ha]
       refine AWP_seqk [0, 1, 6] fun K165 hK165 => ?_
       obtain ⟨v58, hv58, H⟩ := bindE H
       obtain ⟨l59, hl59, H⟩ := bindE H
       have q24 : ∀ σ i, buildSliceA T 29 false i 1 [(0, .agg [.int .i64 v58, .int .i64 7, .int .i64 5, .int .i64 v51, .int .i64 0])] σ = some (.sl i 0 (List.length l59), σ.put i ⟨47, 5, encL rInstr l59⟩) := by rw [← Option.some.inj hl59]; intro _ _; rfl
       refine AWP_drawl tok tokM [] [6, 7, 8, 9, 10] [0, 1, 2, 3, 4, 5, 6, 7, 8, 9, 10] (by decide) ?_
       simp only [pickL, nthO_succ, nthO_zero]
       simp -dsimp -implicitDefEqProofs (maxDischargeDepth := 6) [gx134 hv58, gl_get hv58, q24]
       refine keepE2 (l := [0, 1, 6]) (x := [(0, .int .i64 7), (1, .fptr [.int .i64 p0.Op, .int .i64 p0.Dst, .int .i64 p0.A, .int .i64 p0.B, .int .i64 p0.N] 0), (6, .sl (N0 + 93) 0 l59.length)]) (s := hp B [(N0 + 4, some ⟨129, 2, [[.int .i64 p1, .sl (N0 + 45) 0 l50.length]]⟩), (N0 + 45, some ⟨47, 5, encL rInstr l50⟩), (N0 + 18, some ⟨3, 1, [[.int .i64 5]]⟩), (N0 + 55, some ⟨3, 1, [[.int .i64 v51]]⟩), (N0 + 93, some ⟨47, 5, encL rInstr l59⟩)] (N0 + 95)) rfl rfl fun a' ha => ?_
       refine hK165 _ _ ?_; rw [ha]
       refine AWP_seqk [6] fun K166 hK166 => ?_
       refine AWP_seqk [0, 6, 19] fun K167 hK167 => ?_
       refine AWP_regl tok [] ?_
       simp -dsimp -implicitDefEqProofs (maxDischargeDepth := 6)
       refine keepE2 (l := [0, 6, 19]) (x := [(0, .int .i64 7), (6, .sl (N0 + 93) 0 l59.length), (19, .bool (ieq p0.N 4))]) (s := hp B [(N0 + 4, some ⟨129, 2, [[.int .i64 p1, .sl (N0 + 45) 0 l50.length]]⟩), (N0 + 45, some ⟨47, 5, encL rInstr l50⟩), (N0 + 18, some ⟨3, 1, [[.int .i64 5]]⟩), (N0 + 55, some ⟨3, 1, [[.int .i64 v51]]⟩), (N0 + 93, some ⟨47, 5, encL rInstr l59⟩)] (N0 + 98)) rfl rfl fun a' ha => ?_
       refine hK167 _ _ ?_; rw [ha]
       refine AWP_cond (ieq p0.N 4) rfl (fun C13 => ?_) (fun C13 => ?_)
       ·
        replace H := ifT C13 H
        obtain ⟨l60, hl60, H⟩ := bindE H
        have q25 : ∀ σ i, buildSliceA T 29 true i 1 [(0, .agg [.int .i64 13, .int .i64 7, .int .i64 7, .int .i64 0, .int .i64 1])] σ = some (.fsl (encL rInstr ([(⟨13, 7, 7, 0, 1⟩ : gInstr)] : List gInstr)), σ) := fun _ _ => rfl
        refine AWP_regl tok [4] ?_
        simp -dsimp -implicitDefEqProofs (maxDischargeDepth := 6) [q25, app29 hl60]
        refine keepE2 (l := [6]) (x := [(6, .sl (N0 + 103) 0 l60.length)]) (s := hp B [(N0 + 4, some ⟨129, 2, [[.int .i64 p1, .sl (N0 + 45) 0 l50.length]]⟩), (N0 + 45, some ⟨47, 5, encL rInstr l50⟩), (N0 + 18, some ⟨3, 1, [[.int .i64 5]]⟩), (N0 + 55, some ⟨3, 1, [[.int .i64 v51]]⟩), (N0 + 93, none), (N0 + 103, some ⟨47, 5, encL rInstr l60⟩)] (N0 + 105)) rfl rfl fun a' ha => ?_
        refine hK166 _ _ ?_; rw [ha]
        refine AWP_seqk [5] fun K168 hK168 => ?_
        refine AWP_regl tok [] ?_
        simp -dsimp -implicitDefEqProofs (maxDischargeDepth := 6)
        refine keepE2 (l := [5]) (x := [(5, .sl (N0 + 103) 0 l60.length)]) (s := hp B [(N0 + 4, some ⟨129, 2, [[.int .i64 p1, .sl (N0 + 45) 0 l50.length]]⟩), (N0 + 45, some ⟨47, 5, encL rInstr l50⟩), (N0 + 18, some ⟨3, 1, [[.int .i64 5]]⟩), (N0 + 55, some ⟨3, 1, [[.int .i64 v51]]⟩), (N0 + 93, none), (N0 + 103, some ⟨47, 5, encL rInstr l60⟩)] (N0 + 107)) rfl rfl fun a' ha => ?_
        refine hK168 _ _ ?_; rw [ha]
        refine AWP_ret ?_
        have e0 : N0 ≤ N0 + 4 := by omega
        have e1 : N0 ≤ N0 + 45 := by omega
        have e2 : N0 ≤ N0 + 18 := by omega
        have e3 : N0 ≤ N0 + 55 := by omega
        have e4 : N0 ≤ N0 + 93 := by omega
        have e5 : N0 ≤ N0 + 103 := by omega
        refine ⟨[.sl (N0 + 103) 0 l60.length], by simp [e0, e1, e2, e3, e4, e5], ?_⟩
        simp -dsimp -implicitDefEqProofs (maxDischargeDepth := 6)
        refine ACalls_fn tok Tryd.func122 (by kernel_rfl) rfl Tryd.ntmps122 Tryd.results122 rfl ?_
        simp only [argsA, Nat.reduceAdd]
        refine AWP_toThen (AWP_named fun K169 hK169 => ?_)
        obtain ⟨l61, hl61, H⟩ := bindE H
        refine AWP_regl tok [] ?_
        simp -dsimp -implicitDefEqProofs (maxDischargeDepth := 6) [app29 hl61]
        refine keepE2 (l := []) (x := []) (s := hp B [(N0 + 4, some ⟨129, 2, [[.int .i64 p1, .sl (N0 + 113) 0 l61.length]]⟩), (N0 + 45, none), (N0 + 18, some ⟨3, 1, [[.int .i64 5]]⟩), (N0 + 55, some ⟨3, 1, [[.int .i64 v51]]⟩), (N0 + 93, none), (N0 + 103, some ⟨47, 5, encL rInstr l60⟩), (N0 + 113, some ⟨47, 5, encL rInstr l61⟩)] (N0 + 117)) rfl rfl fun a' ha => ?_
        refine hK169 _ _ ?_; try rw [ha]
        have e0 : N0 ≤ N0 + 4 := by omega
        have e1 : N0 ≤ N0 + 45 := by omega
        have e2 : N0 ≤ N0 + 18 := by omega
        have e3 : N0 ≤ N0 + 55 := by omega
        have e4 : N0 ≤ N0 + 93 := by omega
        have e5 : N0 ≤ N0 + 103 := by omega
        have e6 : N0 ≤ N0 + 113 := by omega
        refine ⟨[], by simp [e0, e1, e2, e3, e4, e5, e6], ?_⟩
        simp -dsimp -implicitDefEqProofs (maxDischargeDepth := 6)
        refine keepE2 (l := [0, 1]) (x := [(0, .ptr (N0 + 4) 0 0), (1, .int .i64 p0.Dst)]) (s := hp B [(N0 + 4, some ⟨129, 2, [[.int .i64 p1, .sl (N0 + 113) 0 l61.length]]⟩), (N0 + 45, none), (N0 + 18, some ⟨3, 1, [[.int .i64 5]]⟩), (N0 + 55, some ⟨3, 1, [[.int .i64 v51]]⟩), (N0 + 93, none), (N0 + 103, some ⟨47, 5, encL rInstr l60⟩), (N0 + 113, some ⟨47, 5, encL rInstr l61⟩)] (N0 + 117)) rfl rfl fun a' ha => ?_
        refine hK162 _ _ ?_; rw [ha]
        have q26 : ∀ σ i, buildSliceA T 29 true i 1 [(0, .agg [.int .i64 16, .int .i64 0, .int .i64 2, .int .i64 7, .int .i64 (imul .i64 4 (isub .i64 p0.Dst p1))])] σ = some (.fsl (encL rInstr ([(⟨16, 0, 2, 7, imul .i64 4 (isub .i64 p0.Dst p1)⟩ : gInstr)] : List gInstr)), σ) := fun _ _ => rfl
        refine AWP_regl tok [9] ?_
        simp -dsimp -implicitDefEqProofs (maxDischargeDepth := 6) [q26]
        refine ACalls_fn tok Tryd.func122 (by kernel_rfl) rfl Tryd.ntmps122 Tryd.results122 rfl ?_
        simp only [argsA, Nat.reduceAdd]
        refine AWP_toThen (AWP_named fun K170 hK170 => ?_)
        obtain ⟨l62, hl62, H⟩ := bindE H
        refine AWP_regl tok [] ?_
        simp -dsimp -implicitDefEqProofs (maxDischargeDepth := 6) [app29 hl62]
        refine keepE2 (l := []) (x := []) (s := hp B [(N0 + 4, some ⟨129, 2, [[.int .i64 p1, .sl (N0 + 134) 0 l62.length]]⟩), (N0 + 45, none), (N0 + 18, some ⟨3, 1, [[.int .i64 5]]⟩), (N0 + 55, some ⟨3, 1, [[.int .i64 v51]]⟩), (N0 + 93, none), (N0 + 103, some ⟨47, 5, encL rInstr l60⟩), (N0 + 113, none), (N0 + 134, some ⟨47, 5, encL rInstr l62⟩)] (N0 + 138)) rfl rfl fun a' ha => ?_
        refine hK170 _ _ ?_; try rw [ha]
        have e0 : N0 ≤ N0 + 4 := by omega
        have e1 : N0 ≤ N0 + 45 := by omega
        have e2 : N0 ≤ N0 + 18 := by omega
        have e3 : N0 ≤ N0 + 55 := by omega
        have e4 : N0 ≤ N0 + 93 := by omega
        have e5 : N0 ≤ N0 + 103 := by omega
        have e6 : N0 ≤ N0 + 113 := by omega
        have e7 : N0 ≤ N0 + 134 := by omega
        refine ⟨[], by simp [e0, e1, e2, e3, e4, e5, e6, e7], ?_⟩
        simp -dsimp -implicitDefEqProofs (maxDischargeDepth := 6)
        refine keepE2 (l := []) (x := []) (s := hp B [(N0 + 4, some ⟨129, 2, [[.int .i64 p1, .sl (N0 + 134) 0 l62.length]]⟩), (N0 + 45, none), (N0 + 18, some ⟨3, 1, [[.int .i64 5]]⟩), (N0 + 55, some ⟨3, 1, [[.int .i64 v51]]⟩), (N0 + 93, none), (N0 + 103, some ⟨47, 5, encL rInstr l60⟩), (N0 + 113, none), (N0 + 134, some ⟨47, 5, encL rInstr l62⟩)] (N0 + 138)) rfl rfl fun a' ha => ?_
        refine hK147 _ _ ?_; try rw [ha]
        have e0 : N0 ≤ N0 + 4 := by omega
        have e1 : N0 ≤ N0 + 45 := by omega
        have e2 : N0 ≤ N0 + 18 := by omega
        have e3 : N0 ≤ N0 + 55 := by omega
        have e4 : N0 ≤ N0 + 93 := by omega
        have e5 : N0 ≤ N0 + 103 := by omega
        have e6 : N0 ≤ N0 + 113 := by omega
        have e7 : N0 ≤ N0 + 134 := by omega
        refine ⟨[], by simp [e0, e1, e2, e3, e4, e5, e6, e7], ?_⟩
        simp -dsimp -implicitDefEqProofs (maxDischargeDepth := 6)
        refine keepE2 (l := [7]) (x := [(7, .ptr (N0 + 4) 0 0)]) (s := hp B [(N0 + 4, some ⟨129, 2, [[.int .i64 p1, .sl (N0 + 134) 0 l62.length]]⟩), (N0 + 45, none), (N0 + 18, some ⟨3, 1, [[.int .i64 5]]⟩), (N0 + 55, some ⟨3, 1, [[.int .i64 v51]]⟩), (N0 + 93, none), (N0 + 103, some ⟨47, 5, encL rInstr l60⟩), (N0 + 113, none), (N0 + 134, some ⟨47, 5, encL rInstr l62⟩)] (N0 + 138)) rfl rfl fun a' ha => ?_
        refine hK3 _ _ ?_; rw [ha]
        refine AWP_seqk [6] fun K171 hK171 => ?_
        refine AWP_regl tok [] ?_
        simp -dsimp -implicitDefEqProofs (maxDischargeDepth := 6)
        refine keepE2 (l := [6]) (x := [(6, .sl (N0 + 134) 0 l62.length)]) (s := hp B [(N0 + 4, some ⟨129, 2, [[.int .i64 p1, .sl (N0 + 134) 0 l62.length]]⟩), (N0 + 45, none), (N0 + 18, some ⟨3, 1, [[.int .i64 5]]⟩), (N0 + 55, some ⟨3, 1, [[.int .i64 v51]]⟩), (N0 + 93, none), (N0 + 103, some ⟨47, 5, encL rInstr l60⟩), (N0 + 113, none), (N0 + 134, some ⟨47, 5, encL rInstr l62⟩)] (N0 + 143)) rfl rfl fun a' ha => ?_
        refine hK171 _ _ ?_; rw [ha]
        refine AWP_ret ?_
        replace H := Option.some.inj H; subst H
        have e0 : N0 ≤ N0 + 4 := by omega
        have e1 : N0 ≤ N0 + 45 := by omega
        have e2 : N0 ≤ N0 + 18 := by omega
        have e3 : N0 ≤ N0 + 55 := by omega
        have e4 : N0 ≤ N0 + 93 := by omega
        have e5 : N0 ≤ N0 + 103 := by omega
        have e6 : N0 ≤ N0 + 113 := by omega
        have e7 : N0 ≤ N0 + 134 := by omega
        refine ⟨[.sl (N0 + 134) 0 l62.length], by simp [e0, e1, e2, e3, e4, e5, e6, e7], ?_, ?_⟩
        ·
         simp [encL_nil, e0, e1, e2, e3, e4, e5, e6, e7]
        ·
         intro o ho; exact lk_out (by simp; try omega)
       ·
        replace H := ifF C13 H
        refine AWP_skip ?_
        show K166 _ _
        refine keepE (l := [6]) (x := [(6, .sl (N0 + 93) 0 l59.length)]) rfl fun a' ha => ?_
        refine hK166 _ _ ?_; rw [ha]
        refine AWP_seqk [5] fun K172 hK172 => ?_
        refine AWP_regl tok [] ?_
        simp -dsimp -implicitDefEqProofs (maxDischargeDepth := 6)
        refine keepE2 (l := [5]) (x := [(5, .sl (N0 + 93) 0 l59.length)]) (s := hp B [(N0 + 4, some ⟨129, 2, [[.int .i64 p1, .sl (N0 + 45) 0 l50.length]]⟩), (N0 + 45, some ⟨47, 5, encL rInstr l50⟩), (N0 + 18, some ⟨3, 1, [[.int .i64 5]]⟩), (N0 + 55, some ⟨3, 1, [[.int .i64 v51]]⟩), (N0 + 93, some ⟨47, 5, encL rInstr l59⟩)] (N0 + 100)) rfl rfl fun a' ha => ?_
        refine hK172 _ _ ?_; rw [ha]
        refine AWP_ret ?_
        have e0 : N0 ≤ N0 + 4 := by omega
        have e1 : N0 ≤ N0 + 45 := by omega
        have e2 : N0 ≤ N0 + 18 := by omega
        have e3 : N0 ≤ N0 + 55 := by omega
        have e4 : N0 ≤ N0 + 93 := by omega
        refine ⟨[.sl (N0 + 93) 0 l59.length], by simp [e0, e1, e2, e3, e4], ?_⟩
        simp -dsimp -implicitDefEqProofs (maxDischargeDepth := 6)
        refine ACalls_fn tok Tryd.func122 (by kernel_rfl) rfl Tryd.ntmps122 Tryd.results122 rfl ?_
        simp only [argsA, Nat.reduceAdd]
        refine AWP_toThen (AWP_named fun K173 hK173 => ?_)
        obtain ⟨l63, hl63, H⟩ := bindE H
        refine AWP_regl tok [] ?_
        simp -dsimp -implicitDefEqProofs (maxDischargeDepth := 6) [app29 hl63]
        refine keepE2 (l := []) (x := []) (s := hp B [(N0 + 4, some ⟨129, 2, [[.int .i64 p1, .sl (N0 + 106) 0 l63.length]]⟩), (N0 + 45, none), (N0 + 18, some ⟨3, 1, [[.int .i64 5]]⟩), (N0 + 55, some ⟨3, 1, [[.int .i64 v51]]⟩), (N0 + 93, some ⟨47, 5, encL rInstr l59⟩), (N0 + 106, some ⟨47, 5, encL rInstr l63⟩)] (N0 + 110)) rfl rfl fun a' ha => ?_
        refine hK173 _ _ ?_; try rw [ha]
        have e0 : N0 ≤ N0 + 4 := by omega
        have e1 : N0 ≤ N0 + 45 := by omega
        have e2 : N0 ≤ N0 + 18 := by omega
        have e3 : N0 ≤ N0 + 55 := by omega
        have e4 : N0 ≤ N0 + 93 := by omega
        have e5 : N0 ≤ N0 + 106 := by omega
        refine ⟨[], by simp [e0, e1, e2, e3, e4, e5], ?_⟩
        simp -dsimp -implicitDefEqProofs (maxDischargeDepth := 6)
        refine keepE2 (l := [0, 1]) (x := [(0, .ptr (N0 + 4) 0 0), (1, .int .i64 p0.Dst)]) (s := hp B [(N0 + 4, some ⟨129, 2, [[.int .i64 p1, .sl (N0 + 106) 0 l63.length]]⟩), (N0 + 45, none), (N0 + 18, some ⟨3, 1, [[.int .i64 5]]⟩), (N0 + 55, some ⟨3, 1, [[.int .i64 v51]]⟩), (N0 + 93, some ⟨47, 5, encL rInstr l59⟩), (N0 + 106, some ⟨47, 5, encL rInstr l63⟩)] (N0 + 110)) rfl rfl fun a' ha => ?_
        refine hK162 _ _ ?_; rw [ha]
        have q27 : ∀ σ i, buildSliceA T 29 true i 1 [(0, .agg [.int .i64 16, .int .i64 0, .int .i64 2, .int .i64 7, .int .i64 (imul .i64 4 (isub .i64 p0.Dst p1))])] σ = some (.fsl (encL rInstr ([(⟨16, 0, 2, 7, imul .i64 4 (isub .i64 p0.Dst p1)⟩ : gInstr)] : List gInstr)), σ) := fun _ _ => rfl
        refine AWP_regl tok [9] ?_
        simp -dsimp -implicitDefEqProofs (maxDischargeDepth := 6) [q27]
        refine ACalls_fn tok Tryd.func122 (by kernel_rfl) rfl Tryd.ntmps122 Tryd.results122 rfl ?_
        simp only [argsA, Nat.reduceAdd]
        refine AWP_toThen (AWP_named fun K174 hK174 => ?_)
        obtain ⟨l64, hl64, H⟩ := bindE H
        refine AWP_regl tok [] ?_
        simp -dsimp -implicitDefEqProofs (maxDischargeDepth := 6) [app29 hl64]
        refine keepE2 (l := []) (x := []) (s := hp B [(N0 + 4, some ⟨129, 2, [[.int .i64 p1, .sl (N0 + 127) 0 l64.length]]⟩), (N0 + 45, none), (N0 + 18, some ⟨3, 1, [[.int .i64 5]]⟩), (N0 + 55, some ⟨3, 1, [[.int .i64 v51]]⟩), (N0 + 93, some ⟨47, 5, encL rInstr l59⟩), (N0 + 106, none), (N0 + 127, some ⟨47, 5, encL rInstr l64⟩)] (N0 + 131)) rfl rfl fun a' ha => ?_
        refine hK174 _ _ ?_; try rw [ha]
        have e0 : N0 ≤ N0 + 4 := by omega
        have e1 : N0 ≤ N0 + 45 := by omega
        have e2 : N0 ≤ N0 + 18 := by omega
        have e3 : N0 ≤ N0 + 55 := by omega
        have e4 : N0 ≤ N0 + 93 := by omega
        have e5 : N0 ≤ N0 + 106 := by omega
        have e6 : N0 ≤ N0 + 127 := by omega
        refine ⟨[], by simp [e0, e1, e2, e3, e4, e5, e6], ?_⟩
        simp -dsimp -implicitDefEqProofs (maxDischargeDepth := 6)
        refine keepE2 (l := []) (x := []) (s := hp B [(N0 + 4, some ⟨129, 2, [[.int .i64 p1, .sl (N0 + 127) 0 l64.length]]⟩), (N0 + 45, none), (N0 + 18, some ⟨3, 1, [[.int .i64 5]]⟩), (N0 + 55, some ⟨3, 1, [[.int .i64 v51]]⟩), (N0 + 93, some ⟨47, 5, encL rInstr l59⟩), (N0 + 106, none), (N0 + 127, some ⟨47, 5, encL rInstr l64⟩)] (N0 + 131)) rfl rfl fun a' ha => ?_
        refine hK147 _ _ ?_; try rw [ha]
        have e0 : N0 ≤ N0 + 4 := by omega
        have e1 : N0 ≤ N0 + 45 := by omega
        have e2 : N0 ≤ N0 + 18 := by omega
        have e3 : N0 ≤ N0 + 55 := by omega
        have e4 : N0 ≤ N0 + 93 := by omega
        have e5 : N0 ≤ N0 + 106 := by omega
        have e6 : N0 ≤ N0 + 127 := by omega
        refine ⟨[], by simp [e0, e1, e2, e3, e4, e5, e6], ?_⟩
        simp -dsimp -implicitDefEqProofs (maxDischargeDepth := 6)
        refine keepE2 (l := [7]) (x := [(7, .ptr (N0 + 4) 0 0)]) (s := hp B [(N0 + 4, some ⟨129, 2, [[.int .i64 p1, .sl (N0 + 127) 0 l64.length]]⟩), (N0 + 45, none), (N0 + 18, some ⟨3, 1, [[.int .i64 5]]⟩), (N0 + 55, some ⟨3, 1, [[.int .i64 v51]]⟩), (N0 + 93, some ⟨47, 5, encL rInstr l59⟩), (N0 + 106, none), (N0 + 127, some ⟨47, 5, encL rInstr l64⟩)] (N0 + 131)) rfl rfl fun a' ha => ?_
        refine hK3 _ _ ?_; rw [ha]
        refine AWP_seqk [6] fun K175 hK175 => ?_
        refine AWP_regl tok [] ?_
        simp -dsimp -implicitDefEqProofs (maxDischargeDepth := 6)
        refine keepE2 (l := [6]) (x := [(6, .sl (N0 + 127) 0 l64.length)]) (s := hp B [(N0 + 4, some ⟨129, 2, [[.int .i64 p1, .sl (N0 + 127) 0 l64.length]]⟩), (N0 + 45, none), (N0 + 18, some ⟨3, 1, [[.int .i64 5]]⟩), (N0 + 55, some ⟨3, 1, [[.int .i64 v51]]⟩), (N0 + 93, some ⟨47, 5, encL rInstr l59⟩), (N0 + 106, none), (N0 + 127, some ⟨47, 5, encL rInstr l64⟩)] (N0 + 136)) rfl rfl fun a' ha => ?_
        refine hK175 _ _ ?_; rw [ha]
        refine AWP_ret ?_
        replace H := Option.some.inj H; subst H
        have e0 : N0 ≤ N0 + 4 := by omega
        have e1 : N0 ≤ N0 + 45 := by omega
        have e2 : N0 ≤ N0 + 18 := by omega
        have e3 : N0 ≤ N0 + 55 := by omega
        have e4 : N0 ≤ N0 + 93 := by omega
        have e5 : N0 ≤ N0 + 106 := by omega
        have e6 : N0 ≤ N0 + 127 := by omega
        refine ⟨[.sl (N0 + 127) 0 l64.length], by simp [e0, e1, e2, e3, e4, e5, e6], ?_, ?_⟩
        ·
         simp [encL_nil, e0, e1, e2, e3, e4, e5, e6]
        ·
         intro o ho; exact lk_out (by simp; try omega)
     ·
      replace H := ifF C18 H
      refine AWP_skip ?_
      show K144 _ _
      refine keepE (l := [0, 1, 2]) (x := [(0, .ptr (N0 + 4) 0 0), (1, .int .i64 p0.B), (2, .int .i64 6)]) rfl fun a' ha => ?_
      refine hK144 _ _ ?_; rw [ha]
      refine AWP_seqk [2] fun K176 hK176 => ?_
      have q28 : ∀ σ i, buildSliceA T 29 true i 1 [(0, .agg [.int .i64 14, .int .i64 6, .int .i64 2, .int .i64 0, .int .i64 (imul .i64 4 (isub .i64 p0.B p1))])] σ = some (.fsl (encL rInstr ([(⟨14, 6, 2, 0, imul .i64 4 (isub .i64 p0.B p1)⟩ : gInstr)] : List gInstr)), σ) := fun _ _ => rfl
      refine AWP_regl tok [10] ?_
      simp -dsimp -implicitDefEqProofs (maxDischargeDepth := 6) [q28]
      refine ACalls_fn tok Tryd.func122 (by kernel_rfl) rfl Tryd.ntmps122 Tryd.results122 rfl ?_
      simp only [argsA, Nat.reduceAdd]
      refine AWP_toThen (AWP_named fun K177 hK177 => ?_)
      obtain ⟨l65, hl65, H⟩ := bindE H
      refine AWP_regl tok [] ?_
      simp -dsimp -implicitDefEqProofs (maxDischargeDepth := 6) [app29 hl65]
      refine keepE2 (l := []) (x := []) (s := hp B [(N0 + 4, some ⟨129, 2, [[.int .i64 p1, .sl (N0 + 82) 0 l65.length]]⟩), (N0 + 45, none), (N0 + 18, some ⟨3, 1, [[.int .i64 5]]⟩), (N0 + 82, some ⟨47, 5, encL rInstr l65⟩)] (N0 + 86)) rfl rfl fun a' ha => ?_
      refine hK177 _ _ ?_; try rw [ha]
      have e0 : N0 ≤ N0 + 4 := by omega
      have e1 : N0 ≤ N0 + 45 := by omega
      have e2 : N0 ≤ N0 + 18 := by omega
      have e3 : N0 ≤ N0 + 82 := by omega
      refine ⟨[], by simp [e0, e1, e2, e3], ?_⟩
      simp -dsimp -implicitDefEqProofs (maxDischargeDepth := 6)
      refine keepE2 (l := [2]) (x := [(2, .int .i64 6)]) (s := hp B [(N0 + 4, some ⟨129, 2, [[.int .i64 p1, .sl (N0 + 82) 0 l65.length]]⟩), (N0 + 45, none), (N0 + 18, some ⟨3, 1, [[.int .i64 5]]⟩), (N0 + 82, some ⟨47, 5, encL rInstr l65⟩)] (N0 + 86)) rfl rfl fun a' ha => ?_
      refine hK176 _ _ ?_; rw [ha]
      refine AWP_seqk [6] fun K178 hK178 => ?_
      refine AWP_regl tok [] ?_
      simp -dsimp -implicitDefEqProofs (maxDischargeDepth := 6)
      refine keepE2 (l := [6]) (x := [(6, .int .i64 6)]) (s := hp B [(N0 + 4, some ⟨129, 2, [[.int .i64 p1, .sl (N0 + 82) 0 l65.length]]⟩), (N0 + 45, none), (N0 + 18, some ⟨3, 1, [[.int .i64 5]]⟩), (N0 + 82, some ⟨47, 5, encL rInstr l65⟩)] (N0 + 88)) rfl rfl fun a' ha => ?_
      refine hK178 _ _ ?_; rw [ha]
      refine AWP_ret ?_
      have e0 : N0 ≤ N0 + 4 := by omega
      have e1 : N0 ≤ N0 + 45 := by omega
      have e2 : N0 ≤ N0 + 18 := by omega
      have e3 : N0 ≤ N0 + 82 := by omega
      refine ⟨[.int .i64 6], by simp [e0, e1, e2, e3], ?_⟩
      simp -dsimp -implicitDefEqProofs (maxDischargeDepth := 6)
      refine keepE2 (l := [3, 7, 9, 10]) (x := [(3, .fptr [.int .i64 p0.Op, .int .i64 p0.Dst, .int .i64 p0.A, .int .i64 p0.B, .int .i64 p0.N] 0), (7, .ptr (N0 + 4) 0 0), (9, .ptr (N0 + 18) 0 0), (10, .ptr (N0 + 55) 0 0)]) (s := hp B [(N0 + 4, some ⟨129, 2, [[.int .i64 p1, .sl (N0 + 82) 0 l65.length]]⟩), (N0 + 45, none), (N0 + 18, some ⟨3, 1, [[.int .i64 5]]⟩), (N0 + 82, some ⟨47, 5, encL rInstr l65⟩), (N0 + 55, some ⟨3, 1, [[.int .i64 6]]⟩)] (N0 + 88)) rfl rfl fun a' ha => ?_
      refine hK141 _ _ ?_; rw [ha]
      refine AWP_toThen ?_
      refine AWP_regl tok [] ?_
      simp -dsimp -implicitDefEqProofs (maxDischargeDepth := 6)
      refine ACalls_fn tok Tryd.func115 (by kernel_rfl) rfl Tryd.ntmps115 Tryd.results115 rfl ?_
      simp only [argsA, Nat.reduceAdd]
      refine AWP_toThen (AWP_named fun K179 hK179 => ?_)
      refine AWP_seqk [0, 1, 2] fun K180 hK180 => ?_
      refine AWP_seqk [0, 1, 2, 11] fun K181 hK181 => ?_
      refine AWP_regl tok [] ?_
      simp -dsimp -implicitDefEqProofs (maxDischargeDepth := 6)
      refine keepE2 (l := [0, 1, 2, 11]) (x := [(0, .ptr (N0 + 4) 0 0), (1, .int .i64 p0.Dst), (2, .clo 120 [] [.fptr [.int .i64 p0.Op, .int .i64 p0.Dst, .int .i64 p0.A, .int .i64 p0.B, .int .i64 p0.N] 0, .ptr (N0 + 18) 0 0, .ptr (N0 + 55) 0 0]), (11, .bool (ilt p0.Dst p1))]) (s := hp B [(N0 + 4, some ⟨129, 2, [[.int .i64 p1, .sl (N0 + 82) 0 l65.length]]⟩), (N0 + 45, none), (N0 + 18, some ⟨3, 1, [[.int .i64 5]]⟩), (N0 + 82, some ⟨47, 5, encL rInstr l65⟩), (N0 + 55, some ⟨3, 1, [[.int .i64 6]]⟩)] (N0 + 99)) rfl rfl fun a' ha => ?_
      refine hK181 _ _ ?_; rw [ha]
      refine AWP_cond (ilt p0.Dst p1) rfl (fun C17 => ?_) (fun C17 => ?_)
      ·
       replace H := ifT C17 H
       refine AWP_seqk [] fun K182 hK182 => ?_
       obtain ⟨v66, hv66, H⟩ := bindE H
       refine AWP_regl tok [] ?_
       simp -dsimp -implicitDefEqProofs (maxDischargeDepth := 6) [gx157 hv66, gl_get hv66]
       refine ACalls_fn tok Tryd.func120 (by kernel_rfl) rfl Tryd.ntmps120 Tryd.results120 rfl ?_
       simp only [argsA, Nat.reduceAdd]
       refine AWP_seqk [0, 1, 2, 3] fun K184 hK184 => ?_
       refine AWP_regl tok [] ?_
       simp -dsimp -implicitDefEqProofs (maxDischargeDepth := 6)
       refine keepE2 (l := [0, 1, 2, 3]) (x := [(0, .int .i64 v66), (1, .fptr [.int .i64 p0.Op, .int .i64 p0.Dst, .int .i64 p0.A, .int .i64 p0.B, .int .i64 p0.N] 0), (2, .ptr (N0 + 18) 0 0), (3, .ptr (N0 + 55) 0 0)]) (s := hp B [(N0 + 4, some ⟨129, 2, [[.int .i64 p1, .sl (N0 + 82) 0 l65.length]]⟩), (N0 + 45, none), (N0 + 18, some ⟨3, 1, [[.int .i64 5]]⟩), (N0 + 82, some ⟨47, 5, encL rInstr l65⟩), (N0 + 55, some ⟨3, 1, [[.int .i64 6]]⟩)] (N0 + 107)) rfl rfl fun a' ha => ?_
       refine hK184 _ _ ?_; rw [ha]
       refine AWP_seqk [0, 1, 6] fun K185 hK185 => ?_
       obtain ⟨v67, hv67, H⟩ := bindE H
       obtain ⟨l68, hl68, H⟩ := bindE H
       have q29 : ∀ σ i, buildSliceA T 29 false i 1 [(0, .agg [.int .i64 v67, .int .i64 v66, .int .i64 5, .int .i64 6, .int .i64 0])] σ = some (.sl i 0 (List.length l68), σ.put i ⟨47, 5, encL rInstr l68⟩) := by rw [← Option.some.inj hl68]; intro _ _; rfl
       refine AWP_drawl tok tokM [] [6, 7, 8, 9, 10] [0, 1, 2, 3, 4, 5, 6, 7, 8, 9, 10] (by decide) ?_
       simp only [pickL, nthO_succ, nthO_zero]
       simp -dsimp -implicitDefEqProofs (maxDischargeDepth := 6) [gx134 hv67, gl_get hv67, q29]
       refine keepE2 (l := [0, 1, 6]) (x := [(0, .int .i64 v66), (1, .fptr [.int .i64 p0.Op, .int .i64 p0.Dst, .int .i64 p0.A, .int .i64 p0.B, .int .i64 p0.N] 0), (6, .sl (N0 + 116) 0 l68.length)]) (s := hp B [(N0 + 4, some ⟨129, 2, [[.int .i64 p1, .sl (N0 + 82) 0 l65.length]]⟩), (N0 + 45, none), (N0 + 18, some ⟨3, 1, [[.int .i64 5]]⟩), (N0 + 82, some ⟨47, 5, encL rInstr l65⟩), (N0 + 55, some ⟨3, 1, [[.int .i64 6]]⟩), (N0 + 116, some ⟨47, 5, encL rInstr l68⟩)] (N0 + 118)) rfl rfl fun a' ha => ?_
       refine hK185 _ _ ?_; rw [ha]
       refine AWP_seqk [6] fun K186 hK186 => ?_
       refine AWP_seqk [0, 6, 19] fun K187 hK187 => ?_
       refine AWP_regl tok [] ?_
       simp -dsimp -implicitDefEqProofs (maxDischargeDepth := 6)
       refine keepE2 (l := [0, 6, 19]) (x := [(0, .int .i64 v66), (6, .sl (N0 + 116) 0 l68.length), (19, .bool (ieq p0.N 4))]) (s := hp B [(N0 + 4, some ⟨129, 2, [[.int .i64 p1, .sl (N0 + 82) 0 l65.length]]⟩), (N0 + 45, none), (N0 + 18, some ⟨3, 1, [[.int .i64 5]]⟩), (N0 + 82, some ⟨47, 5, encL rInstr l65⟩), (N0 + 55, some ⟨3, 1, [[.int .i64 6]]⟩), (N0 + 116, some ⟨47, 5, encL rInstr l68⟩)] (N0 + 121)) rfl rfl fun a' ha => ?_
       refine hK187 _ _ ?_; rw [ha]
       refine AWP_cond (ieq p0.N 4) rfl (fun C15 => ?_) (fun C15 => ?_)
       ·
        replace H := ifT C15 H
        obtain ⟨l69, hl69, H⟩ := bindE H
        have q30 : ∀ σ i, buildSliceA T 29 true i 1 [(0, .agg [.int .i64 13, .int .i64 v66, .int .i64 v66, .int .i64 0, .int .i64 1])] σ = some (.fsl (encL rInstr ([(⟨13, v66, v66, 0, 1⟩ : gInstr)] : List gInstr)), σ) := fun _ _ => rfl
        refine AWP_regl tok [4] ?_
        simp -dsimp -implicitDefEqProofs (maxDischargeDepth := 6) [q30, app29 hl69]
        refine keepE2 (l := [6]) (x := [(6, .sl (N0 + 126) 0 l69.length)]) (s := hp B [(N0 + 4, some ⟨129, 2, [[.int .i64 p1, .sl (N0 + 82) 0 l65.length]]⟩), (N0 + 45, none), (N0 + 18, some ⟨3, 1, [[.int .i64 5]]⟩), (N0 + 82, some ⟨47, 5, encL rInstr l65⟩), (N0 + 55, some ⟨3, 1, [[.int .i64 6]]⟩), (N0 + 116, none), (N0 + 126, some ⟨47, 5, encL rInstr l69⟩)] (N0 + 128)) rfl rfl fun a' ha => ?_
        refine hK186 _ _ ?_; rw [ha]
        refine AWP_seqk [5] fun K188 hK188 => ?_
        refine AWP_regl tok [] ?_
        simp -dsimp -implicitDefEqProofs (maxDischargeDepth := 6)
        refine keepE2 (l := [5]) (x := [(5, .sl (N0 + 126) 0 l69.length)]) (s := hp B [(N0 + 4, some ⟨129, 2, [[.int .i64 p1, .sl (N0 + 82) 0 l65.length]]⟩), (N0 + 45, none), (N0 + 18, some ⟨3, 1, [[.int .i64 5]]⟩), (N0 + 82, some ⟨47, 5, encL rInstr l65⟩), (N0 + 55, some ⟨3, 1, [[.int .i64 6]]⟩), (N0 + 116, none), (N0 + 126, some ⟨47, 5, encL rInstr l69⟩)] (N0 + 130)) rfl rfl fun a' ha => ?_
        refine hK188 _ _ ?_; rw [ha]
        refine AWP_ret ?_
        have e0 : N0 ≤ N0 + 4 := by omega
        have e1 : N0 ≤ N0 + 45 := by omega
        have e2 : N0 ≤ N0 + 18 := by omega
        have e3 : N0 ≤ N0 + 82 := by omega
        have e4 : N0 ≤ N0 + 55 := by omega
        have e5 : N0 ≤ N0 + 116 := by omega
        have e6 : N0 ≤ N0 + 126 := by omega
        refine ⟨[.sl (N0 + 126) 0 l69.length], by simp [e0, e1, e2, e3, e4, e5, e6], ?_⟩
        simp -dsimp -implicitDefEqProofs (maxDischargeDepth := 6)
        refine ACalls_fn tok Tryd.func122 (by kernel_rfl) rfl Tryd.ntmps122 Tryd.results122 rfl ?_
        simp only [argsA, Nat.reduceAdd]
        refine AWP_toThen (AWP_named fun K189 hK189 => ?_)
        obtain ⟨l70, hl70, H⟩ := bindE H
        refine AWP_regl tok [] ?_
        simp -dsimp -implicitDefEqProofs (maxDischargeDepth := 6) [app29 hl70]
        refine keepE2 (l := []) (x := []) (s := hp B [(N0 + 4, some ⟨129, 2, [[.int .i64 p1, .sl (N0 + 136) 0 l70.length]]⟩), (N0 + 45, none), (N0 + 18, some ⟨3, 1, [[.int .i64 5]]⟩), (N0 + 82, none), (N0 + 55, some ⟨3, 1, [[.int .i64 6]]⟩), (N0 + 116, none), (N0 + 126, some ⟨47, 5, encL rInstr l69⟩), (N0 + 136, some ⟨47, 5, encL rInstr l70⟩)] (N0 + 140)) rfl rfl fun a' ha => ?_
        refine hK189 _ _ ?_; try rw [ha]
        have e0 : N0 ≤ N0 + 4 := by omega
        have e1 : N0 ≤ N0 + 45 := by omega
        have e2 : N0 ≤ N0 + 18 := by omega
        have e3 : N0 ≤ N0 + 82 := by omega
        have e4 : N0 ≤ N0 + 55 := by omega
        have e5 : N0 ≤ N0 + 116 := by omega
        have e6 : N0 ≤ N0 + 126 := by omega
        have e7 : N0 ≤ N0 + 136 := by omega
        refine ⟨[], by simp [e0, e1, e2, e3, e4, e5, e6, e7], ?_⟩
        simp -dsimp -implicitDefEqProofs (maxDischargeDepth := 6)
        refine keepE2 (l := []) (x := []) (s := hp B [(N0 + 4, some ⟨129, 2, [[.int .i64 p1, .sl (N0 + 136) 0 l70.length]]⟩), (N0 + 45, none), (N0 + 18, some ⟨3, 1, [[.int .i64 5]]⟩), (N0 + 82, none), (N0 + 55, some ⟨3, 1, [[.int .i64 6]]⟩), (N0 + 116, none), (N0 + 126, some ⟨47, 5, encL rInstr l69⟩), (N0 + 136, some ⟨47, 5, encL rInstr l70⟩)] (N0 + 140)) rfl rfl fun a' ha => ?_
        refine hK182 _ _ ?_; rw [ha]
        refine AWP_ret ?_
        have e0 : N0 ≤ N0 + 4 := by omega
        have e1 : N0 ≤ N0 + 45 := by omega
        have e2 : N0 ≤ N0 + 18 := by omega
        have e3 : N0 ≤ N0 + 82 := by omega
        have e4 : N0 ≤ N0 + 55 := by omega
        have e5 : N0 ≤ N0 + 116 := by omega
        have e6 : N0 ≤ N0 + 126 := by omega
        have e7 : N0 ≤ N0 + 136 := by omega
        refine ⟨[], by simp [e0, e1, e2, e3, e4, e5, e6, e7], ?_⟩
        simp -dsimp -implicitDefEqProofs (maxDischargeDepth := 6)
        refine keepE2 (l := [7]) (x := [(7, .ptr (N0 + 4) 0 0)]) (s := hp B [(N0 + 4, some ⟨129, 2, [[.int .i64 p1, .sl (N0 + 136) 0 l70.length]]⟩), (N0 + 45, none), (N0 + 18, some ⟨3, 1, [[.int .i64 5]]⟩), (N0 + 82, none), (N0 + 55, some ⟨3, 1, [[.int .i64 6]]⟩), (N0 + 116, none), (N0 + 126, some ⟨47, 5, encL rInstr l69⟩), (N0 + 136, some ⟨47, 5, encL rInstr l70⟩)] (N0 + 140)) rfl rfl fun a' ha => ?_
        refine hK3 _ _ ?_; rw [ha]
        refine AWP_seqk [6] fun K190 hK190 => ?_
        refine AWP_regl tok [] ?_
        simp -dsimp -implicitDefEqProofs (maxDischargeDepth := 6)
        refine keepE2 (l := [6]) (x := [(6, .sl (N0 + 136) 0 l70.length)]) (s := hp B [(N0 + 4, some ⟨129, 2, [[.int .i64 p1, .sl (N0 + 136) 0 l70.length]]⟩), (N0 + 45, none), (N0 + 18, some ⟨3, 1, [[.int .i64 5]]⟩), (N0 + 82, none), (N0 + 55, some ⟨3, 1, [[.int .i64 6]]⟩), (N0 + 116, none), (N0 + 126, some ⟨47, 5, encL rInstr l69⟩), (N0 + 136, some ⟨47, 5, encL rInstr l70⟩)] (N0 + 145)) rfl rfl fun a' ha => ?_
        refine hK190 _ _ ?_; rw [ha]
        refine AWP_ret ?_
        replace H := Option.some.inj H; subst H
        have e0 : N0 ≤ N0 + 4 := by omega
        have e1 : N0 ≤ N0 + 45 := by omega
        have e2 : N0 ≤ N0 + 18 := by omega
        have e3 : N0 ≤ N0 + 82 := by omega
        have e4 : N0 ≤ N0 + 55 := by omega
        have e5 : N0 ≤ N0 + 116 := by omega
        have e6 : N0 ≤ N0 + 126 := by omega
        have e7 : N0 ≤ N0 + 136 := by omega
        refine ⟨[.sl (N0 + 136) 0 l70.length], by simp [e0, e1, e2, e3, e4, e5, e6, e7], ?_, ?_⟩
        ·
         simp [encL_nil, e0, e1, e2, e3, e4, e5, e6, e7]
        ·
         intro o ho; exact lk_out (by simp; try omega)
       ·
        replace H := ifF C15 H
        refine AWP_skip ?_
        show K186 _ _
        refine keepE (l := [6]) (x := [(6, .sl (N0 + 116) 0 l68.length)]) rfl fun a' ha => ?_
        refine hK186 _ _ ?_; rw [ha]
        refine AWP_seqk [5] fun K191 hK191 => ?_
        refine AWP_regl tok [] ?_
        simp -dsimp -implicitDefEqProofs (maxDischargeDepth := 6)
        refine keepE2 (l := [5]) (x := [(5, .sl (N0 + 116) 0 l68.length)]) (s := hp B [(N0 + 4, some ⟨129, 2, [[.int .i64 p1, .sl (N0 + 82) 0 l65.length]]⟩), (N0 + 45, none), (N0 + 18, some ⟨3, 1, [[.int .i64 5]]⟩), (N0 + 82, some ⟨47, 5, encL rInstr l65⟩), (N0 + 55, some ⟨3, 1, [[.int .i64 6]]⟩), (N0 + 116, some ⟨47, 5, encL rInstr l68⟩)] (N0 + 123)) rfl rfl fun a' ha => ?_
        refine hK191 _ _ ?_; rw [ha]
        refine AWP_ret ?_
        have e0 : N0 ≤ N0 + 4 := by omega
        have e1 : N0 ≤ N0 + 45 := by omega
        have e2 : N0 ≤ N0 + 18 := by omega
        have e3 : N0 ≤ N0 + 82 := by omega
        have e4 : N0 ≤ N0 + 55 := by omega
        have e5 : N0 ≤ N0 + 116 := by omega
        refine ⟨[.sl (N0 + 116) 0 l68.length], by simp [e0, e1, e2, e3, e4, e5], ?_⟩
        simp -dsimp -implicitDefEqProofs (maxDischargeDepth := 6)
        refine ACalls_fn tok Tryd.func122 (by kernel_rfl) rfl Tryd.ntmps122 Tryd.results122 rfl ?_
        simp only [argsA, Nat.reduceAdd]
        refine AWP_toThen (AWP_named fun K192 hK192 => ?_)
        obtain ⟨l71, hl71, H⟩ := bindE H
        refine AWP_regl tok [] ?_
        simp -dsimp -implicitDefEqProofs (maxDischargeDepth := 6) [app29 hl71]
        refine keepE2 (l := []) (x := []) (s := hp B [(N0 + 4, some ⟨129, 2, [[.int .i64 p1, .sl (N0 + 129) 0 l71.length]]⟩), (N0 + 45, none), (N0 + 18, some ⟨3, 1, [[.int .i64 5]]⟩), (N0 + 82, none), (N0 + 55, some ⟨3, 1, [[.int .i64 6]]⟩), (N0 + 116, some ⟨47, 5, encL rInstr l68⟩), (N0 + 129, some ⟨47, 5, encL rInstr l71⟩)] (N0 + 133)) rfl rfl fun a' ha => ?_
        refine hK192 _ _ ?_; try rw [ha]
        have e0 : N0 ≤ N0 + 4 := by omega
        have e1 : N0 ≤ N0 + 45 := by omega
        have e2 : N0 ≤ N0 + 18 := by omega
        have e3 : N0 ≤ N0 + 82 := by omega
        have e4 : N0 ≤ N0 + 55 := by omega
        have e5 : N0 ≤ N0 + 116 := by omega
        have e6 : N0 ≤ N0 + 129 := by omega
        refine ⟨[], by simp [e0, e1, e2, e3, e4, e5, e6], ?_⟩
        simp -dsimp -implicitDefEqProofs (maxDischargeDepth := 6)
        refine keepE2 (l := []) (x := []) (s := hp B [(N0 + 4, some ⟨129, 2, [[.int .i64 p1, .sl (N0 + 129) 0 l71.length]]⟩), (N0 + 45, none), (N0 + 18, some ⟨3, 1, [[.int .i64 5]]⟩), (N0 + 82, none), (N0 + 55, some ⟨3, 1, [[.int .i64 6]]⟩), (N0 + 116, some ⟨47, 5, encL rInstr l68⟩), (N0 + 129, some ⟨47, 5, encL rInstr l71⟩)] (N0 + 133)) rfl rfl fun a' ha => ?_
        refine hK182 _ _ ?_; rw [ha]
        refine AWP_ret ?_
        have e0 : N0 ≤ N0 + 4 := by omega
        have e1 : N0 ≤ N0 + 45 := by omega
        have e2 : N0 ≤ N0 + 18 := by omega
        have e3 : N0 ≤ N0 + 82 := by omega
        have e4 : N0 ≤ N0 + 55 := by omega
        have e5 : N0 ≤ N0 + 116 := by omega
        have e6 : N0 ≤ N0 + 129 := by omega
        refine ⟨[], by simp [e0, e1, e2, e3, e4, e5, e6], ?_⟩
        simp -dsimp -implicitDefEqProofs (maxDischargeDepth := 6)
        refine keepE2 (l := [7]) (x := [(7, .ptr (N0 + 4) 0 0)]) (s := hp B [(N0 + 4, some ⟨129, 2, [[.int .i64 p1, .sl (N0 + 129) 0 l71.length]]⟩), (N0 + 45, none), (N0 + 18, some ⟨3, 1, [[.int .i64 5]]⟩), (N0 + 82, none), (N0 + 55, some ⟨3, 1, [[.int .i64 6]]⟩), (N0 + 116, some ⟨47, 5, encL rInstr l68⟩), (N0 + 129, some ⟨47, 5, encL rInstr l71⟩)] (N0 + 133)) rfl rfl fun a' ha => ?_
        refine hK3 _ _ ?_; rw [ha]
        refine AWP_seqk [6] fun K193 hK193 => ?_
        refine AWP_regl tok [] ?_
        simp -dsimp -implicitDefEqProofs (maxDischargeDepth := 6)
        refine keepE2 (l := [6]) (x := [(6, .sl (N0 + 129) 0 l71.length)]) (s := hp B [(N0 + 4, some ⟨129, 2, [[.int .i64 p1, .sl (N0 + 129) 0 l71.length]]⟩), (N0 + 45, none), (N0 + 18, some ⟨3, 1, [[.int .i64 5]]⟩), (N0 + 82, none), (N0 + 55, some ⟨3, 1, [[.int .i64 6]]⟩), (N0 + 116, some ⟨47, 5, encL rInstr l68⟩), (N0 + 129, some ⟨47, 5, encL rInstr l71⟩)] (N0 + 138)) rfl rfl fun a' ha => ?_
        refine hK193 _ _ ?_; rw [ha]
        refine AWP_ret ?_
        replace H := Option.some.inj H; subst H
        have e0 : N0 ≤ N0 + 4 := by omega
        have e1 : N0 ≤ N0 + 45 := by omega
        have e2 : N0 ≤ N0 + 18 := by omega
        have e3 : N0 ≤ N0 + 82 := by omega
        have e4 : N0 ≤ N0 + 55 := by omega
        have e5 : N0 ≤ N0 + 116 := by omega
        have e6 : N0 ≤ N0 + 129 := by omega
        refine ⟨[.sl (N0 + 129) 0 l71.length], by simp [e0, e1, e2, e3, e4, e5, e6], ?_, ?_⟩
        ·
         simp [encL_nil, e0, e1, e2, e3, e4, e5, e6]
        ·
         intro o ho; exact lk_out (by simp; try omega)
      ·
       replace H := ifF C17 H
       refine AWP_skip ?_
       show K180 _ _
       refine keepE (l := [0, 1, 2]) (x := [(0, .ptr (N0 + 4) 0 0), (1, .int .i64 p0.Dst), (2, .clo 120 [] [.fptr [.int .i64 p0.Op, .int .i64 p0.Dst, .int .i64 p0.A, .int .i64 p0.B, .int .i64 p0.N] 0, .ptr (N0 + 18) 0 0, .ptr (N0 + 55) 0 0])]) rfl fun a' ha => ?_
       refine hK180 _ _ ?_; rw [ha]
       refine AWP_seqk [0, 1] fun K194 hK194 => ?_
       refine AWP_regl tok [] ?_
       simp -dsimp -implicitDefEqProofs (maxDischargeDepth := 6)
       refine ACalls_fn tok Tryd.func120 (by kernel_rfl) rfl Tryd.ntmps120 Tryd.results120 rfl ?_
       simp only [argsA, Nat.reduceAdd]
       refine AWP_seqk [0, 1, 2, 3] fun K196 hK196 => ?_
       refine AWP_regl tok [] ?_
       simp -dsimp -implicitDefEqProofs (maxDischargeDepth := 6)
       refine keepE2 (l := [0, 1, 2, 3]) (x := [(0, .int .i64 7), (1, .fptr [.int .i64 p0.Op, .int .i64 p0.Dst, .int .i64 p0.A, .int .i64 p0.B, .int .i64 p0.N] 0), (2, .ptr (N0 + 18) 0 0), (3, .ptr (N0 + 55) 0 0)]) (s := hp B [(N0 + 4, some ⟨129, 2, [[.int .i64 p1, .sl (N0 + 82) 0 l65.length]]⟩), (N0 + 45, none), (N0 + 18, some ⟨3, 1, [[.int .i64 5]]⟩), (N0 + 82, some ⟨47, 5, encL rInstr l65⟩), (N0 + 55, some ⟨3, 1, [[.int .i64 6]]⟩)] (N0 + 104)) rfl rfl fun a' ha => ?_
       refine hK196 _ _ ?_; rw [ha]
       refine AWP_seqk [0, 1, 6] fun K197 hK197 => ?_
       obtain ⟨v72, hv72, H⟩ := bindE H
       obtain ⟨l73, hl73, H⟩ := bindE H
       have q31 : ∀ σ i, buildSliceA T 29 false i 1 [(0, .agg [.int .i64 v72, .int .i64 7, .int .i64 5, .int .i64 6, .int .i64 0])] σ = some (.sl i 0 (List.length l73), σ.put i ⟨47, 5, encL rInstr l73⟩) := by rw [← Option.some.inj hl73]; intro _ _; rfl
       refine AWP_drawl tok tokM [] [6, 7, 8, 9, 10] [0, 1, 2, 3, 4, 5, 6, 7, 8, 9, 10] (by decide) ?_
       simp only [pickL, nthO_succ, nthO_zero]
       simp -dsimp -implicitDefEqProofs (maxDischargeDepth := 6) [gx134 hv72, gl_get hv72, q31]
       refine keepE2 (l := [0, 1, 6]) (x := [(0, .int .i64 7), (1, .fptr [.int .i64 p0.Op, .int .i64 p0.Dst, .int .i64 p0.A, .int .i64 p0.B, .int .i64 p0.N] 0), (6, .sl (N0 + 113) 0 l73.length)]) (s := hp B [(N0 + 4, some ⟨129, 2, [[.int .i64 p1, .sl (N0 + 82) 0 l65.length]]⟩), (N0 + 45, none), (N0 + 18, some ⟨3, 1, [[.int .i64 5]]⟩), (N0 + 82, some ⟨47, 5, encL rInstr l65⟩), (N0 + 55, some ⟨3, 1, [[.int .i64 6]]⟩), (N0 + 113, some ⟨47, 5, encL rInstr l73⟩)] (N0 + 115)) rfl rfl fun a' ha => ?_
       refine hK197 _ _ ?_; rw [ha]
       refine AWP_seqk [6] fun K198 hK198 => ?_
       refine AWP_seqk [0, 6, 19] fun K199 hK199 => ?_
       refine AWP_regl tok [] ?_
       simp -dsimp -implicitDefEqProofs (maxDischargeDepth := 6)
       refine keepE2 (l := [0, 6, 19]) (x := [(0, .int .i64 7), (6, .sl (N0 + 113) 0 l73.length), (19, .bool (ieq p0.N 4))]) (s := hp B [(N0 + 4, some ⟨129, 2, [[.int .i64 p1, .sl (N0 + 82) 0 l65.length]]⟩), (N0 + 45, none), (N0 + 18, some ⟨3, 1, [[.int .i64 5]]⟩), (N0 + 82, some ⟨47, 5, encL rInstr l65⟩), (N0 + 55, some ⟨3, 1, [[.int .i64 6]]⟩), (N0 + 113, some ⟨47, 5, encL rInstr l73⟩)] (N0 + 118)) rfl rfl fun a' ha => ?_
       refine hK199 _ _ ?_; rw [ha]
       refine AWP_cond (ieq p0.N 4) rfl (fun C16 => ?_) (fun C16 => ?_)
       ·
        replace H := ifT C16 H
        obtain ⟨l74, hl74, H⟩ := bindE H
        have q32 : ∀ σ i, buildSliceA T 29 true i 1 [(0, .agg [.int .i64 13, .int .i64 7, .int .i64 7, .int .i64 0, .int .i64 1])] σ = some (.fsl (encL rInstr ([(⟨13, 7, 7, 0, 1⟩ : gInstr)] : List gInstr)), σ) := fun _ _ => rfl
        refine AWP_regl tok [4] ?_
        simp -dsimp -implicitDefEqProofs (maxDischargeDepth := 6) [q32, app29 hl74]
        refine keepE2 (l := [6]) (x := [(6, .sl (N0 + 123) 0 l74.length)]) (s := hp B [(N0 + 4, some ⟨129, 2, [[.int .i64 p1, .sl (N0 + 82) 0 l65.length]]⟩), (N0 + 45, none), (N0 + 18, some ⟨3, 1, [[.int .i64 5]]⟩), (N0 + 82, some ⟨47, 5, encL rInstr l65⟩), (N0 + 55, some ⟨3, 1, [[.int .i64 6]]⟩), (N0 + 113, none), (N0 + 123, some ⟨47, 5, encL rInstr l74⟩)] (N0 + 125)) rfl rfl fun a' ha => ?_
        refine hK198 _ _ ?_; rw [ha]
        refine AWP_seqk [5] fun K200 hK200 => ?_
        refine AWP_regl tok [] ?_
        simp -dsimp -implicitDefEqProofs (maxDischargeDepth := 6)
        refine keepE2 (l := [5]) (x := [(5, .sl (N0 + 123) 0 l74.length)]) (s := hp B [(N0 + 4, some ⟨129, 2, [[.int .i64 p1, .sl (N0 + 82) 0 l65.length]]⟩), (N0 + 45, none), (N0 + 18, some ⟨3, 1, [[.int .i64 5]]⟩), (N0 + 82, some ⟨47, 5, encL rInstr l65⟩), (N0 + 55, some ⟨3, 1, [[.int .i64 6]]⟩), (N0 + 113, none), (N0 + 123, some ⟨47, 5, encL rInstr l74⟩)] (N0 + 127)) rfl rfl fun a' ha => ?_
        refine hK200 _ _ ?_; rw [ha]
        refine AWP_ret ?_
        have e0 : N0 ≤ N0 + 4 := by omega
        have e1 : N0 ≤ N0 + 45 := by omega
        have e2 : N0 ≤ N0 + 18 := by omega
        have e3 : N0 ≤ N0 + 82 := by omega
        have e4 : N0 ≤ N0 + 55 := by omega
        have e5 : N0 ≤ N0 + 113 := by omega
        have e6 : N0 ≤ N0 + 123 := by omega
        refine ⟨[.sl (N0 + 123) 0 l74.length], by simp [e0, e1, e2, e3, e4, e5, e6], ?_⟩
        simp -dsimp -implicitDefEqProofs (maxDischargeDepth := 6)
        refine ACalls_fn tok Tryd.func122 (by kernel_rfl) rfl Tryd.ntmps122 Tryd.results122 rfl ?_
        simp only [argsA, Nat.reduceAdd]
        refine AWP_toThen (AWP_named fun K201 hK201 => ?_)
        obtain ⟨l75, hl75, H⟩ := bindE H
        refine AWP_regl tok [] ?_
        simp -dsimp -implicitDefEqProofs (maxDischargeDepth := 6) [app29 hl75]
        refine keepE2 (l := []) (x := []) (s := hp B [(N0 + 4, some ⟨129, 2, [[.int .i64 p1, .sl (N0 + 133) 0 l75.length]]⟩), (N0 + 45, none), (N0 + 18, some ⟨3, 1, [[.int .i64 5]]⟩), (N0 + 82, none), (N0 + 55, some ⟨3, 1, [[.int .i64 6]]⟩), (N0 + 113, none), (N0 + 123, some ⟨47, 5, encL rInstr l74⟩), (N0 + 133, some ⟨47, 5, encL rInstr l75⟩)] (N0 + 137)) rfl rfl fun a' ha => ?_
        refine hK201 _ _ ?_; try rw [ha]
        have e0 : N0 ≤ N0 + 4 := by omega
        have e1 : N0 ≤ N0 + 45 := by omega
        have e2 : N0 ≤ N0 + 18 := by omega
        have e3 : N0 ≤ N0 + 82 := by omega
        have e4 : N0 ≤ N0 + 55 := by omega
        have e5 : N0 ≤ N0 + 113 := by omega
        have e6 : N0 ≤ N0 + 123 := by omega
        have e7 : N0 ≤ N0 + 133 := by omega
        refine ⟨[], by simp [e0, e1, e2, e3, e4, e5, e6, e7], ?_⟩
        simp -dsimp -implicitDefEqProofs (maxDischargeDepth := 6)
        refine keepE2 (l := [0, 1]) (x := [(0, .ptr (N0 + 4) 0 0), (1, .int .i64 p0.Dst)]) (s := hp B [(N0 + 4, some ⟨129, 2, [[.int .i64 p1, .sl (N0 + 133) 0 l75.length]]⟩), (N0 + 45, none), (N0 + 18, some ⟨3, 1, [[.int .i64 5]]⟩), (N0 + 82, none), (N0 + 55, some ⟨3, 1, [[.int .i64 6]]⟩), (N0 + 113, none), (N0 + 123, some ⟨47, 5, encL rInstr l74⟩), (N0 + 133, some ⟨47, 5, encL rInstr l75⟩)] (N0 + 137)) rfl rfl fun a' ha => ?_
        refine hK194 _ _ ?_; rw [ha]
        have q33 : ∀ σ i, buildSliceA T 29 true i 1 [(0, .agg [.int .i64 16, .int .i64 0, .int .i64 2, .int .i64 7, .int .i64 (imul .i64 4 (isub .i64 p0.Dst p1))])] σ = some (.fsl (encL rInstr ([(⟨16, 0, 2, 7, imul .i64 4 (isub .i64 p0.Dst p1)⟩ : gInstr)] : List gInstr)), σ) := fun _ _ => rfl
        refine AWP_regl tok [9] ?_
        simp -dsimp -implicitDefEqProofs (maxDischargeDepth := 6) [q33]
        refine ACalls_fn tok Tryd.func122 (by kernel_rfl) rfl Tryd.ntmps122 Tryd.results122 rfl ?_
        simp only [argsA, Nat.reduceAdd]
        refine AWP_toThen (AWP_named fun K202 hK202 => ?_)
        obtain ⟨l76, hl76, H⟩ := bindE H
        refine AWP_regl tok [] ?_
        simp -dsimp -implicitDefEqProofs (maxDischargeDepth := 6) [app29 hl76]
        refine keepE2 (l := []) (x := []) (s := hp B [(N0 + 4, some ⟨129, 2, [[.int .i64 p1, .sl (N0 + 154) 0 l76.length]]⟩), (N0 + 45, none), (N0 + 18, some ⟨3, 1, [[.int .i64 5]]⟩), (N0 + 82, none), (N0 + 55, some ⟨3, 1, [[.int .i64 6]]⟩), (N0 + 113, none), (N0 + 123, some ⟨47, 5, encL rInstr l74⟩), (N0 + 133, none), (N0 + 154, some ⟨47, 5, encL rInstr l76⟩)] (N0 + 158)) rfl rfl fun a' ha => ?_
        refine hK202 _ _ ?_; try rw [ha]
        have e0 : N0 ≤ N0 + 4 := by omega
        have e1 : N0 ≤ N0 + 45 := by omega
        have e2 : N0 ≤ N0 + 18 := by omega
        have e3 : N0 ≤ N0 + 82 := by omega
        have e4 : N0 ≤ N0 + 55 := by omega
        have e5 : N0 ≤ N0 + 113 := by omega
        have e6 : N0 ≤ N0 + 123 := by omega
        have e7 : N0 ≤ N0 + 133 := by omega
        have e8 : N0 ≤ N0 + 154 := by omega
        refine ⟨[], by simp [e0, e1, e2, e3, e4, e5, e6, e7, e8], ?_⟩
        simp -dsimp -implicitDefEqProofs (maxDischargeDepth := 6)
        refine keepE2 (l := []) (x := []) (s := hp B [(N0 + 4, some ⟨129, 2, [[.int .i64 p1, .sl (N0 + 154) 0 l76.length]]⟩), (N0 + 45, none), (N0 + 18, some ⟨3, 1, [[.int .i64 5]]⟩), (N0 + 82, none), (N0 + 55, some ⟨3, 1, [[.int .i64 6]]⟩), (N0 + 113, none), (N0 + 123, some ⟨47, 5, encL rInstr l74⟩), (N0 + 133, none), (N0 + 154, some ⟨47, 5, encL rInstr l76⟩)] (N0 + 158)) rfl rfl fun a' ha => ?_
        refine hK179 _ _ ?_; try rw [ha]
        have e0 : N0 ≤ N0 + 4 := by omega
        have e1 : N0 ≤ N0 + 45 := by omega
        have e2 : N0 ≤ N0 + 18 := by omega
        have e3 : N0 ≤ N0 + 82 := by omega
        have e4 : N0 ≤ N0 + 55 := by omega
        have e5 : N0 ≤ N0 + 113 := by omega
        have e6 : N0 ≤ N0 + 123 := by omega
        have e7 : N0 ≤ N0 + 133 := by omega
        have e8 : N0 ≤ N0 + 154 := by omega
        refine ⟨[], by simp [e0, e1, e2, e3, e4, e5, e6, e7, e8], ?_⟩
        simp -dsimp -implicitDefEqProofs (maxDischargeDepth := 6)
        refine keepE2 (l := [7]) (x := [(7, .ptr (N0 + 4) 0 0)]) (s := hp B [(N0 + 4, some ⟨129, 2, [[.int .i64 p1, .sl (N0 + 154) 0 l76.length]]⟩), (N0 + 45, none), (N0 + 18, some ⟨3, 1, [[.int .i64 5]]⟩), (N0 + 82, none), (N0 + 55, some ⟨3, 1, [[.int .i64 6]]⟩), (N0 + 113, none), (N0 + 123, some ⟨47, 5, encL rInstr l74⟩), (N0 + 133, none), (N0 + 154, some ⟨47, 5, encL rInstr l76⟩)] (N0 + 158)) rfl rfl fun a' ha => ?_
        refine hK3 _ _ ?_; rw [ha]
        refine AWP_seqk [6] fun K203 hK203 => ?_
        refine AWP_regl tok [] ?_
        simp -dsimp -implicitDefEqProofs (maxDischargeDepth := 6)
        refine keepE2 (l := [6]) (x := [(6, .sl (N0 + 154) 0 l76.length)]) (s := hp B [(N0 + 4, some ⟨129, 2, [[.int .i64 p1, .sl (N0 + 154) 0 l76.length]]⟩), (N0 + 45, none), (N0 + 18, some ⟨3, 1, [[.int .i64 5]]⟩), (N0 + 82, none), (N0 + 55, some ⟨3, 1, [[.int .i64 6]]⟩), (N0 + 113, none), (N0 + 123, some ⟨47, 5, encL rInstr l74⟩), (N0 + 133, none), (N0 + 154, some ⟨47, 5, encL rInstr l76⟩)] (N0 + 163)) rfl rfl fun a' ha => ?_
        refine hK203 _ _ ?_; rw [ha]
        refine AWP_ret ?_
        replace H := Option.some.inj H; subst H
        have e0 : N0 ≤ N0 + 4 := by omega
        have e1 : N0 ≤ N0 + 45 := by omega
        have e2 : N0 ≤ N0 + 18 := by omega
        have e3 : N0 ≤ N0 + 82 := by omega
        have e4 : N0 ≤ N0 + 55 := by omega
        have e5 : N0 ≤ N0 + 113 := by omega
        have e6 : N0 ≤ N0 + 123 := by omega
        have e7 : N0 ≤ N0 + 133 := by omega
        have e8 : N0 ≤ N0 + 154 := by omega
        refine ⟨[.sl (N0 + 154) 0 l76.length], by simp [e0, e1, e2, e3, e4, e5, e6, e7, e8], ?_, ?_⟩
        ·
         simp [encL_nil, e0, e1, e2, e3, e4, e5, e6, e7, e8]
        ·
         intro o ho; exact lk_out (by simp; try omega)
       ·
        replace H := ifF C16 H
        refine AWP_skip ?_
        show K198 _ _
        refine keepE (l := [6]) (x := [(6, .sl (N0 + 113) 0 l73.length)]) rfl fun a' ha => ?_
        refine hK198 _ _ ?_; rw [ha]
        refine AWP_seqk [5] fun K204 hK204 => ?_
        refine AWP_regl tok [] ?_
        simp -dsimp -implicitDefEqProofs (maxDischargeDepth := 6)
        refine keepE2 (l := [5]) (x := [(5, .sl (N0 + 113) 0 l73.length)]) (s := hp B [(N0 + 4, some ⟨129, 2, [[.int .i64 p1, .sl (N0 + 82) 0 l65.length]]⟩), (N0 + 45, none), (N0 + 18, some ⟨3, 1, [[.int .i64 5]]⟩), (N0 + 82, some ⟨47, 5, encL rInstr l65⟩), (N0 + 55, some ⟨3, 1, [[.int .i64 6]]⟩), (N0 + 113, some ⟨47, 5, encL rInstr l73⟩)] (N0 + 120)) rfl rfl fun a' ha => ?_
        refine hK204 _ _ ?_; rw [ha]
        refine AWP_ret ?_
        have e0 : N0 ≤ N0 + 4 := by omega
        have e1 : N0 ≤ N0 + 45 := by omega
        have e2 : N0 ≤ N0 + 18 := by omega
        have e3 : N0 ≤ N0 + 82 := by omega
        have e4 : N0 ≤ N0 + 55 := by omega
        have e5 : N0 ≤ N0 + 113 := by omega
        refine ⟨[.sl (N0 + 113) 0 l73.length], by simp [e0, e1, e2, e3, e4, e5], ?_⟩
        simp -dsimp -implicitDefEqProofs (maxDischargeDepth := 6)
        refine ACalls_fn tok Tryd.func122 (by kernel_rfl) rfl Tryd.ntmps122 Tryd.results122 rfl ?_
        simp only [argsA, Nat.reduceAdd]
        refine AWP_toThen (AWP_named fun K205 hK205 => ?_)
        obtain ⟨l77, hl77, H⟩ := bindE H
        refine AWP_regl tok [] ?_
        simp -dsimp -implicitDefEqProofs (maxDischargeDepth := 6) [app29 hl77]
        refine keepE2 (l := []) (x := []) (s := hp B [(N0 + 4, some ⟨129, 2, [[.int .i64 p1, .sl (N0 + 126) 0 l77.length]]⟩), (N0 + 45, none), (N0 + 18, some ⟨3, 1, [[.int .i64 5]]⟩), (N0 + 82, none), (N0 + 55, some ⟨3, 1, [[.int .i64 6]]⟩), (N0 + 113, some ⟨47, 5, encL rInstr l73⟩), (N0 + 126, some ⟨47, 5, encL rInstr l77⟩)] (N0 + 130)) rfl rfl fun a' ha => ?_
        refine hK205 _ _ ?_; try rw [ha]
        have e0 : N0 ≤ N0 + 4 := by omega
        have e1 : N0 ≤ N0 + 45 := by omega
        have e2 : N0 ≤ N0 + 18 := by omega
        have e3 : N0 ≤ N0 + 82 := by omega
        have e4 : N0 ≤ N0 + 55 := by omega
        have e5 : N0 ≤ N0 + 113 := by omega
        have e6 : N0 ≤ N0 + 126 := by omega
        refine ⟨[], by simp [e0, e1, e2, e3, e4, e5, e6], ?_⟩
        simp -dsimp -implicitDefEqProofs (maxDischargeDepth := 6)
        refine keepE2 (l := [0, 1]) (x := [(0, .ptr (N0 + 4) 0 0), (1, .int .i64 p0.Dst)]) (s := hp B [(N0 + 4, some ⟨129, 2, [[.int .i64 p1, .sl (N0 + 126) 0 l77.length]]⟩), (N0 + 45, none), (N0 + 18, some ⟨3, 1, [[.int .i64 5]]⟩), (N0 + 82, none), (N0 + 55, some ⟨3, 1, [[.int .i64 6]]⟩), (N0 + 113, some ⟨47, 5, encL rInstr l73⟩), (N0 + 126, some ⟨47, 5, encL rInstr l77⟩)] (N0 + 130)) rfl rfl fun a' ha => ?_
        refine hK194 _ _ ?_; rw [ha]
        have q34 : ∀ σ i, buildSliceA T 29 true i 1 [(0, .agg [.int .i64 16, .int .i64 0, .int .i64 2, .int .i64 7, .int .i64 (imul .i64 4 (isub .i64 p0.Dst p1))])] σ = some (.fsl (encL rInstr ([(⟨16, 0, 2, 7, imul .i64 4 (isub .i64 p0.Dst p1)⟩ : gInstr)] : List gInstr)), σ) := fun _ _ => rfl
        refine AWP_regl tok [9] ?_
        simp -dsimp -implicitDefEqProofs (maxDischargeDepth := 6) [q34]
        refine ACalls_fn tok Tryd.func122 (by kernel_rfl) rfl Tryd.ntmps122 Tryd.results122 rfl ?_
        simp only [argsA, Nat.reduceAdd]
        refine AWP_toThen (AWP_named fun K206 hK206 => ?_)
        obtain ⟨l78, hl78, H⟩ := bindE H
        refine AWP_regl tok [] ?_
        simp -dsimp -implicitDefEqProofs (maxDischargeDepth := 6) [app29 hl78]
        refine keepE2 (l := []) (x := []) (s := hp B [(N0 + 4, some ⟨129, 2, [[.int .i64 p1, .sl (N0 + 147) 0 l78.length]]⟩), (N0 + 45, none), (N0 + 18, some ⟨3, 1, [[.int .i64 5]]⟩), (N0 + 82, none), (N0 + 55, some ⟨3, 1, [[.int .i64 6]]⟩), (N0 + 113, some ⟨47, 5, encL rInstr l73⟩), (N0 + 126, none), (N0 + 147, some ⟨47, 5, encL rInstr l78⟩)] (N0 + 151)) rfl rfl fun a' ha => ?_
        refine hK206 _ _ ?_; try rw [ha]
        have e0 : N0 ≤ N0 + 4 := by omega
        have e1 : N0 ≤ N0 + 45 := by omega
        have e2 : N0 ≤ N0 + 18 := by omega
        have e3 : N0 ≤ N0 + 82 := by omega
        have e4 : N0 ≤ N0 + 55 := by omega
        have e5 : N0 ≤ N0 + 113 := by omega
        have e6 : N0 ≤ N0 + 126 := by omega
        have e7 : N0 ≤ N0 + 147 := by omega
        refine ⟨[], by simp [e0, e1, e2, e3, e4, e5, e6, e7], ?_⟩
        simp -dsimp -implicitDefEqProofs (maxDischargeDepth := 6)
        refine keepE2 (l := []) (x := []) (s := hp B [(N0 + 4, some ⟨129, 2, [[.int .i64 p1, .sl (N0 + 147) 0 l78.length]]⟩), (N0 + 45, none), (N0 + 18, some ⟨3, 1, [[.int .i64 5]]⟩), (N0 + 82, none), (N0 + 55, some ⟨3, 1, [[.int .i64 6]]⟩), (N0 + 113, some ⟨47, 5, encL rInstr l73⟩), (N0 + 126, none), (N0 + 147, some ⟨47, 5, encL rInstr l78⟩)] (N0 + 151)) rfl rfl fun a' ha => ?_
        refine hK179 _ _ ?_; try rw [ha]
        have e0 : N0 ≤ N0 + 4 := by omega
        have e1 : N0 ≤ N0 + 45 := by omega
        have e2 : N0 ≤ N0 + 18 := by omega
        have e3 : N0 ≤ N0 + 82 := by omega
        have e4 : N0 ≤ N0 + 55 := by omega
        have e5 : N0 ≤ N0 + 113 := by omega
        have e6 : N0 ≤ N0 + 126 := by omega
        have e7 : N0 ≤ N0 + 147 := by omega
        refine ⟨[], by simp [e0, e1, e2, e3, e4, e5, e6, e7], ?_⟩
        simp -dsimp -implicitDefEqProofs (maxDischargeDepth := 6)
        refine keepE2 (l := [7]) (x := [(7, .ptr (N0 + 4) 0 0)]) (s := hp B [(N0 + 4, some ⟨129, 2, [[.int .i64 p1, .sl (N0 + 147) 0 l78.length]]⟩), (N0 + 45, none), (N0 + 18, some ⟨3, 1, [[.int .i64 5]]⟩), (N0 + 82, none), (N0 + 55, some ⟨3, 1, [[.int .i64 6]]⟩), (N0 + 113, some ⟨47, 5, encL rInstr l73⟩), (N0 + 126, none), (N0 + 147, some ⟨47, 5, encL rInstr l78⟩)] (N0 + 151)) rfl rfl fun a' ha => ?_
        refine hK3 _ _ ?_; rw [ha]
        refine AWP_seqk [6] fun K207 hK207 => ?_
        refine AWP_regl tok [] ?_
        simp -dsimp -implicitDefEqProofs (maxDischargeDepth := 6)
        refine keepE2 (l := [6]) (x := [(6, .sl (N0 + 147) 0 l78.length)]) (s := hp B [(N0 + 4, some ⟨129, 2, [[.int .i64 p1, .sl (N0 + 147) 0 l78.length]]⟩), (N0 + 45, none), (N0 + 18, some ⟨3, 1, [[.int .i64 5]]⟩), (N0 + 82, none), (N0 + 55, some ⟨3, 1, [[.int .i64 6]]⟩), (N0 + 113, some ⟨47, 5, encL rInstr l73⟩), (N0 + 126, none), (N0 + 147, some ⟨47, 5, encL rInstr l78⟩)] (N0 + 156)) rfl rfl fun a' ha => ?_
        refine hK207 _ _ ?_; rw [ha]
        refine AWP_ret ?_
        replace H := Option.some.inj H; subst H
        have e0 : N0 ≤ N0 + 4 := by omega
        have e1 : N0 ≤ N0 + 45 := by omega
        have e2 : N0 ≤ N0 + 18 := by omega
        have e3 : N0 ≤ N0 + 82 := by omega
        have e4 : N0 ≤ N0 + 55 := by omega
        have e5 : N0 ≤ N0 + 113 := by omega
        have e6 : N0 ≤ N0 + 126 := by omega
        have e7 : N0 ≤ N0 + 147 := by omega
        refine ⟨[.sl (N0 + 147) 0 l78.length], by simp [e0, e1, e2, e3, e4, e5, e6, e7], ?_, ?_⟩
        ·
         simp [encL_nil, e0, e1, e2, e3, e4, e5, e6, e7]
        ·
         intro o ho; exact lk_out (by simp; try omega)
   ·
    replace H := ifF C31 H
    refine AWP_seqk [2, 3, 7, 15, 49] fun K208 hK208 => ?_
    refine AWP_regl tok [] ?_
    simp -dsimp -implicitDefEqProofs (maxDischargeDepth := 6)
    refine keepE2 (l := [2, 3, 7, 15, 49]) (x := [(2, .int .i64 p2), (3, .fptr [.int .i64 p0.Op, .int .i64 p0.Dst, .int .i64 p0.A, .int .i64 p0.B, .int .i64 p0.N] 0), (7, .ptr (N0 + 4) 0 0), (15, .int .i64 p0.Op), (49, .bool (ieq p0.Op 4))]) (s := hp B [(N0 + 4, some ⟨129, 2, [[.int .i64 p1, .nilsl]]⟩)] (N0 + 16)) rfl rfl fun a' ha => ?_
    refine hK208 _ _ ?_; rw [ha]
    refine AWP_cond (ieq p0.Op 4) rfl (fun C30 => ?_) (fun C30 => ?_)
    ·
     replace H := ifT C30 H
     refine AWP_toThen ?_
     refine AWP_regl tok [] ?_
     simp -dsimp -implicitDefEqProofs (maxDischargeDepth := 6)
     refine ACalls_fn tok Tryd.func121 (by kernel_rfl) rfl Tryd.ntmps121 Tryd.results121 rfl ?_
     simp only [argsA, Nat.reduceAdd]
     refine AWP_toThen (AWP_named fun K209 hK209 => ?_)
     have q35 : ∀ σ i, buildSliceA T 29 true i 1 [(0, .agg [.int .i64 20, .int .i64 0, .int .i64 0, .int .i64 0, .int .i64 (isub .i64 p2 (imul .i64 4 0))])] σ = some (.fsl (encL rInstr ([(⟨20, 0, 0, 0, isub .i64 p2 (imul .i64 4 0)⟩ : gInstr)] : List gInstr)), σ) := fun _ _ => rfl
     refine AWP_regl tok [10] ?_
     simp -dsimp -implicitDefEqProofs (maxDischargeDepth := 6) [q35]
     refine ACalls_fn tok Tryd.func122 (by kernel_rfl) rfl Tryd.ntmps122 Tryd.results122 rfl ?_
     simp only [argsA, Nat.reduceAdd]
     refine AWP_toThen (AWP_named fun K210 hK210 => ?_)
     obtain ⟨l79, hl79, H⟩ := bindE H
     refine AWP_regl tok [] ?_
     simp -dsimp -implicitDefEqProofs (maxDischargeDepth := 6) [appn29 hl79]
     refine keepE2 (l := []) (x := []) (s := hp B [(N0 + 4, some ⟨129, 2, [[.int .i64 p1, .sl (N0 + 37) 0 l79.length]]⟩), (N0 + 37, some ⟨47, 5, encL rInstr l79⟩)] (N0 + 41)) rfl rfl fun a' ha => ?_
     refine hK210 _ _ ?_; try rw [ha]
     have e0 : N0 ≤ N0 + 4 := by omega
     have e1 : N0 ≤ N0 + 37 := by omega
     refine ⟨[], by simp [e0, e1], ?_⟩
     simp -dsimp -implicitDefEqProofs (maxDischargeDepth := 6)
     refine keepE2 (l := []) (x := []) (s := hp B [(N0 + 4, some ⟨129, 2, [[.int .i64 p1, .sl (N0 + 37) 0 l79.length]]⟩), (N0 + 37, some ⟨47, 5, encL rInstr l79⟩)] (N0 + 41)) rfl rfl fun a' ha => ?_
     refine hK209 _ _ ?_; try rw [ha]
     have e0 : N0 ≤ N0 + 4 := by omega
     have e1 : N0 ≤ N0 + 37 := by omega
     refine ⟨[], by simp [e0, e1], ?_⟩
     simp -dsimp -implicitDefEqProofs (maxDischargeDepth := 6)
     refine keepE2 (l := [7]) (x := [(7, .ptr (N0 + 4) 0 0)]) (s := hp B [(N0 + 4, some ⟨129, 2, [[.int .i64 p1, .sl (N0 + 37) 0 l79.length]]⟩), (N0 + 37, some ⟨47, 5, encL rInstr l79⟩)] (N0 + 41)) rfl rfl fun a' ha => ?_
     refine hK3 _ _ ?_; rw [ha]
     refine AWP_seqk [6] fun K211 hK211 => ?_
     refine AWP_regl tok [] ?_
     simp -dsimp -implicitDefEqProofs (maxDischargeDepth := 6)
     refine keepE2 (l := [6]) (x := [(6, .sl (N0 + 37) 0 l79.length)]) (s := hp B [(N0 + 4, some ⟨129, 2, [[.int .i64 p1, .sl (N0 + 37) 0 l79.length]]⟩), (N0 + 37, some ⟨47, 5, encL rInstr l79⟩)] (N0 + 46)) rfl rfl fun a' ha => ?_
     refine hK211 _ _ ?_; rw [ha]
     refine AWP_ret ?_
     replace H := Option.some.inj H; subst H
     have e0 : N0 ≤ N0 + 4 := by omega
     have e1 : N0 ≤ N0 + 37 := by omega
     refine ⟨[.sl (N0 + 37) 0 l79.length], by simp [e0, e1], ?_, ?_⟩
     ·
      simp [encL_nil, e0, e1]
     ·
      intro o ho; exact lk_out (by simp; try omega)
    ·
     replace H := ifF C30 H
     refine AWP_seqk [2, 3, 7, 15, 54] fun K212 hK212 => ?_
     refine AWP_regl tok [] ?_
     simp -dsimp -implicitDefEqProofs (maxDischargeDepth := 6)
     refine keepE2 (l := [2, 3, 7, 15, 54]) (x := [(2, .int .i64 p2), (3, .fptr [.int .i64 p0.Op, .int .i64 p0.Dst, .int .i64 p0.A, .int .i64 p0.B, .int .i64 p0.N] 0), (7, .ptr (N0 + 4) 0 0), (15, .int .i64 p0.Op), (54, .bool (ieq p0.Op 5))]) (s := hp B [(N0 + 4, some ⟨129, 2, [[.int .i64 p1, .nilsl]]⟩)] (N0 + 18)) rfl rfl fun a' ha => ?_
     refine hK212 _ _ ?_; rw [ha]
     refine AWP_cond (ieq p0.Op 5) rfl (fun C29 => ?_) (fun C29 => ?_)
     ·
      replace H := ifT C29 H
      refine AWP_seqk [2, 7] fun K213 hK213 => ?_
      refine AWP_regl tok [6] ?_
      simp -dsimp -implicitDefEqProofs (maxDischargeDepth := 6)
      refine ACalls_fn tok Tryd.func117 (by kernel_rfl) rfl Tryd.ntmps117 Tryd.results117 rfl ?_
      simp only [argsA, Nat.reduceAdd]
      refine AWP_seqk [0, 1, 2] fun K215 hK215 => ?_
      refine AWP_regl tok [] ?_
      simp -dsimp -implicitDefEqProofs (maxDischargeDepth := 6)
      refine keepE2 (l := [0, 1, 2]) (x := [(0, .ptr (N0 + 4) 0 0), (1, .int .i64 p0.A), (2, .int .i64 5)]) (s := hp B [(N0 + 4, some ⟨129, 2, [[.int .i64 p1, .nilsl]]⟩)] (N0 + 27)) rfl rfl fun a' ha => ?_
      refine hK215 _ _ ?_; rw [ha]
      refine AWP_seqk [0, 1, 2] fun K216 hK216 => ?_
      refine AWP_seqk [0, 1, 2, 12] fun K217 hK217 => ?_
      refine AWP_regl tok [] ?_
      simp -dsimp -implicitDefEqProofs (maxDischargeDepth := 6)
      refine keepE2 (l := [0, 1, 2, 12]) (x := [(0, .ptr (N0 + 4) 0 0), (1, .int .i64 p0.A), (2, .int .i64 5), (12, .bool (ilt p0.A p1))]) (s := hp B [(N0 + 4, some ⟨129, 2, [[.int .i64 p1, .nilsl]]⟩)] (N0 + 33)) rfl rfl fun a' ha => ?_
      refine hK217 _ _ ?_; rw [ha]
      refine AWP_cond (ilt p0.A p1) rfl (fun C20 => ?_) (fun C20 => ?_)
      ·
       replace H := ifT C20 H
       refine AWP_seqk [6] fun K218 hK218 => ?_
       obtain ⟨v80, hv80, H⟩ := bindE H
       refine AWP_regl tok [] ?_
       simp -dsimp -implicitDefEqProofs (maxDischargeDepth := 6) [gx157 hv80, gl_get hv80]
       refine keepE2 (l := [6]) (x := [(6, .int .i64 v80)]) (s := hp B [(N0 + 4, some ⟨129, 2, [[.int .i64 p1, .nilsl]]⟩)] (N0 + 37)) rfl rfl fun a' ha => ?_
       refine hK218 _ _ ?_; rw [ha]
       refine AWP_ret ?_
       have e0 : N0 ≤ N0 + 4 := by omega
       refine ⟨[.int .i64 v80], by simp [e0], ?_⟩
       have q36 : ∀ σ i, buildSliceA T 29 true i 1 [(0, .agg [.int .i64 18, .int .i64 0, .int .i64 v80, .int .i64 0, .int .i64 8])] σ = some (.fsl (encL rInstr ([(⟨18, 0, v80, 0, 8⟩ : gInstr)] : List gInstr)), σ) := fun _ _ => rfl
       simp -dsimp -implicitDefEqProofs (maxDischargeDepth := 6) [q36]
       refine ACalls_fn tok Tryd.func122 (by kernel_rfl) rfl Tryd.ntmps122 Tryd.results122 rfl ?_
       simp only [argsA, Nat.reduceAdd]
       refine AWP_toThen (AWP_named fun K219 hK219 => ?_)
       obtain ⟨l81, hl81, H⟩ := bindE H
       refine AWP_regl tok [] ?_
       simp -dsimp -implicitDefEqProofs (maxDischargeDepth := 6) [appn29 hl81]
       refine keepE2 (l := []) (x := []) (s := hp B [(N0 + 4, some ⟨129, 2, [[.int .i64 p1, .sl (N0 + 43) 0 l81.length]]⟩), (N0 + 43, some ⟨47, 5, encL rInstr l81⟩)] (N0 + 47)) rfl rfl fun a' ha => ?_
       refine hK219 _ _ ?_; try rw [ha]
       have e0 : N0 ≤ N0 + 4 := by omega
       have e1 : N0 ≤ N0 + 43 := by omega
       refine ⟨[], by simp [e0, e1], ?_⟩
       simp -dsimp -implicitDefEqProofs (maxDischargeDepth := 6)
       refine keepE2 (l := [2, 7]) (x := [(2, .int .i64 p2), (7, .ptr (N0 + 4) 0 0)]) (s := hp B [(N0 + 4, some ⟨129, 2, [[.int .i64 p1, .sl (N0 + 43) 0 l81.length]]⟩), (N0 + 43, some ⟨47, 5, encL rInstr l81⟩)] (N0 + 47)) rfl rfl fun a' ha => ?_
       refine hK213 _ _ ?_; rw [ha]
       refine AWP_toThen ?_
       refine AWP_regl tok [] ?_
       simp -dsimp -implicitDefEqProofs (maxDischargeDepth := 6)
       refine ACalls_fn tok Tryd.func121 (by kernel_rfl) rfl Tryd.ntmps121 Tryd.results121 rfl ?_
       simp only [argsA, Nat.reduceAdd]
       refine AWP_toThen (AWP_named fun K220 hK220 => ?_)
       have q37 : ∀ σ i, buildSliceA T 29 true i 1 [(0, .agg [.int .i64 20, .int .i64 0, .int .i64 0, .int .i64 0, .int .i64 (isub .i64 p2 (imul .i64 4 (ilen l81)))])] σ = some (.fsl (encL rInstr ([(⟨20, 0, 0, 0, isub .i64 p2 (imul .i64 4 (ilen l81))⟩ : gInstr)] : List gInstr)), σ) := fun _ _ => rfl
       refine AWP_regl tok [10] ?_
       simp -dsimp -implicitDefEqProofs (maxDischargeDepth := 6) [q37]
       refine ACalls_fn tok Tryd.func122 (by kernel_rfl) rfl Tryd.ntmps122 Tryd.results122 rfl ?_
       simp only [argsA, Nat.reduceAdd]
       refine AWP_toThen (AWP_named fun K221 hK221 => ?_)
       obtain ⟨l82, hl82, H⟩ := bindE H
       refine AWP_regl tok [] ?_
       simp -dsimp -implicitDefEqProofs (maxDischargeDepth := 6) [app29 hl82]
       refine keepE2 (l := []) (x := []) (s := hp B [(N0 + 4, some ⟨129, 2, [[.int .i64 p1, .sl (N0 + 68) 0 l82.length]]⟩), (N0 + 43, none), (N0 + 68, some ⟨47, 5, encL rInstr l82⟩)] (N0 + 72)) rfl rfl fun a' ha => ?_
       refine hK221 _ _ ?_; try rw [ha]
       have e0 : N0 ≤ N0 + 4 := by omega
       have e1 : N0 ≤ N0 + 43 := by omega
       have e2 : N0 ≤ N0 + 68 := by omega
       refine ⟨[], by simp [e0, e1, e2], ?_⟩
       simp -dsimp -implicitDefEqProofs (maxDischargeDepth := 6)
       refine keepE2 (l := []) (x := []) (s := hp B [(N0 + 4, some ⟨129, 2, [[.int .i64 p1, .sl (N0 + 68) 0 l82.length]]⟩), (N0 + 43, none), (N0 + 68, some ⟨47, 5, encL rInstr l82⟩)] (N0 + 72)) rfl rfl fun a' ha => ?_
       refine hK220 _ _ ?_; try rw [ha]
       have e0 : N0 ≤ N0 + 4 := by omega
       have e1 : N0 ≤ N0 + 43 := by omega
       have e2 : N0 ≤ N0 + 68 := by omega
       refine ⟨[], by simp [e0, e1, e2], ?_⟩
       simp -dsimp -implicitDefEqProofs (maxDischargeDepth := 6)
       refine keepE2 (l := [7]) (x := [(7, .ptr (N0 + 4) 0 0)]) (s := hp B [(N0 + 4, some ⟨129, 2, [[.int .i64 p1, .sl (N0 + 68) 0 l82.length]]⟩), (N0 + 43, none), (N0 + 68, some ⟨47, 5, encL rInstr l82⟩)] (N0 + 72)) rfl rfl fun a' ha => ?_
       refine hK3 _ _ ?_; rw [ha]
       refine AWP_seqk [6] fun K222 hK222 => ?_
       refine AWP_regl tok [] ?_
       simp -dsimp -implicitDefEqProofs (maxDischargeDepth := 6)
       refine keepE2 (l := [6]) (x := [(6, .sl (N0 + 68) 0 l82.length)]) (s := hp B [(N0 + 4, some ⟨129, 2, [[.int .i64 p1, .sl (N0 + 68) 0 l82.length]]⟩), (N0 + 43, none), (N0 + 68, some ⟨47, 5, encL rInstr l82⟩)] (N0 + 77)) rfl rfl fun a' ha => ?_
       refine hK222 _ _ ?_; rw [ha]
       refine AWP_ret ?_
       replace H := Option.some.inj H; subst H
       have e0 : N0 ≤ N0 + 4 := by omega
       have e1 : N0 ≤ N0 + 43 := by omega
       have e2 : N0 ≤ N0 + 68 := by omega
       refine ⟨[.sl (N0 + 68) 0 l82.length], by simp [e0, e1, e2], ?_, ?_⟩
       ·
        simp [encL_nil, e0, e1, e2]
       ·
        intro o ho; exact lk_out (by simp; try omega)
      ·
       replace H := ifF C20 H
       refine AWP_skip ?_
       show K216 _ _
       refine keepE (l := [0, 1, 2]) (x := [(0, .ptr (N0 + 4) 0 0), (1, .int .i64 p0.A), (2, .int .i64 5)]) rfl fun a' ha => ?_
       refine hK216 _ _ ?_; rw [ha]
       refine AWP_seqk [2] fun K223 hK223 => ?_
       have q38 : ∀ σ i, buildSliceA T 29 true i 1 [(0, .agg [.int .i64 14, .int .i64 5, .int .i64 2, .int .i64 0, .int .i64 (imul .i64 4 (isub .i64 p0.A p1))])] σ = some (.fsl (encL rInstr ([(⟨14, 5, 2, 0, imul .i64 4 (isub .i64 p0.A p1)⟩ : gInstr)] : List gInstr)), σ) := fun _ _ => rfl
       refine AWP_regl tok [10] ?_
       simp -dsimp -implicitDefEqProofs (maxDischargeDepth := 6) [q38]
       refine ACalls_fn tok Tryd.func122 (by kernel_rfl) rfl Tryd.ntmps122 Tryd.results122 rfl ?_
       simp only [argsA, Nat.reduceAdd]
       refine AWP_toThen (AWP_named fun K224 hK224 => ?_)
       obtain ⟨l83, hl83, H⟩ := bindE H
       refine AWP_regl tok [] ?_
       simp -dsimp -implicitDefEqProofs (maxDischargeDepth := 6) [appn29 hl83]
       refine keepE2 (l := []) (x := []) (s := hp B [(N0 + 4, some ⟨129, 2, [[.int .i64 p1, .sl (N0 + 51) 0 l83.length]]⟩), (N0 + 51, some ⟨47, 5, encL rInstr l83⟩)] (N0 + 55)) rfl rfl fun a' ha => ?_
       refine hK224 _ _ ?_; try rw [ha]
       have e0 : N0 ≤ N0 + 4 := by omega
       have e1 : N0 ≤ N0 + 51 := by omega
       refine ⟨[], by simp [e0, e1], ?_⟩
       simp -dsimp -implicitDefEqProofs (maxDischargeDepth := 6)
       refine keepE2 (l := [2]) (x := [(2, .int .i64 5)]) (s := hp B [(N0 + 4, some ⟨129, 2, [[.int .i64 p1, .sl (N0 + 51) 0 l83.length]]⟩), (N0 + 51, some ⟨47, 5, encL rInstr l83⟩)] (N0 + 55)) rfl rfl fun a' ha => ?_
       refine hK223 _ _ ?_; rw [ha]
       refine AWP_seqk [6] fun K225 hK225 => ?_
       refine AWP_regl tok [] ?_
       simp -dsimp -implicitDefEqProofs (maxDischargeDepth := 6)
       refine keepE2 (l := [6]) (x := [(6, .int .i64 5)]) (s := hp B [(N0 + 4, some ⟨129, 2, [[.int .i64 p1, .sl (N0 + 51) 0 l83.length]]⟩), (N0 + 51, some ⟨47, 5, encL rInstr l83⟩)] (N0 + 57)) rfl rfl fun a' ha => ?_
       refine hK225 _ _ ?_; rw [ha]
       refine AWP_ret ?_
       have e0 : N0 ≤ N0 + 4 := by omega
       have e1 : N0 ≤ N0 + 51 := by omega
       refine ⟨[.int .i64 5], by simp [e0, e1], ?_⟩
       have q39 : ∀ σ i, buildSliceA T 29 true i 1 [(0, .agg [.int .i64 18, .int .i64 0, .int .i64 5, .int .i64 0, .int .i64 8])] σ = some (.fsl (encL rInstr ([(⟨18, 0, 5, 0, 8⟩ : gInstr)] : List gInstr)), σ) := fun _ _ => rfl
       simp -dsimp -implicitDefEqProofs (maxDischargeDepth := 6) [q39]
       refine ACalls_fn tok Tryd.func122 (by kernel_rfl) rfl Tryd.ntmps122 Tryd.results122 rfl ?_
       simp only [argsA, Nat.reduceAdd]
       refine AWP_toThen (AWP_named fun K226 hK226 => ?_)
       obtain ⟨l84, hl84, H⟩ := bindE H
       refine AWP_regl tok [] ?_
       simp -dsimp -implicitDefEqProofs (maxDischargeDepth := 6) [app29 hl84]
       refine keepE2 (l := []) (x := []) (s := hp B [(N0 + 4, some ⟨129, 2, [[.int .i64 p1, .sl (N0 + 63) 0 l84.length]]⟩), (N0 + 51, none), (N0 + 63, some ⟨47, 5, encL rInstr l84⟩)] (N0 + 67)) rfl rfl fun a' ha => ?_
       refine hK226 _ _ ?_; try rw [ha]
       have e0 : N0 ≤ N0 + 4 := by omega
       have e1 : N0 ≤ N0 + 51 := by omega
       have e2 : N0 ≤ N0 + 63 := by omega
       refine ⟨[], by simp [e0, e1, e2], ?_⟩
       simp -dsimp -implicitDefEqProofs (maxDischargeDepth := 6)
       refine keepE2 (l := [2, 7]) (x := [(2, .int .i64 p2), (7, .ptr (N0 + 4) 0 0)]) (s := hp B [(N0 + 4, some ⟨129, 2, [[.int .i64 p1, .sl (N0 + 63) 0 l84.length]]⟩), (N0 + 51, none), (N0 + 63, some ⟨47, 5, encL rInstr l84⟩)] (N0 + 67)) rfl rfl fun a' ha => ?_
       refine hK213 _ _ ?_; rw [ha]
       refine AWP_toThen ?_
       refine AWP_regl tok [] ?_
       simp -dsimp -implicitDefEqProofs (maxDischargeDepth := 6)
       refine ACalls_fn tok Tryd.func121 (by kernel_rfl) rfl Tryd.ntmps121 Tryd.results121 rfl ?_
       simp only [argsA, Nat.reduceAdd]
       refine AWP_toThen (AWP_named fun K227 hK227 => ?_)
       have q40 : ∀ σ i, buildSliceA T 29 true i 1 [(0, .agg [.int .i64 20, .int .i64 0, .int .i64 0, .int .i64 0, .int .i64 (isub .i64 p2 (imul .i64 4 (ilen l84)))])] σ = some (.fsl (encL rInstr ([(⟨20, 0, 0, 0, isub .i64 p2 (imul .i64 4 (ilen l84))⟩ : gInstr)] : List gInstr)), σ) := fun _ _ => rfl
       refine AWP_regl tok [10] ?_
       simp -dsimp -implicitDefEqProofs (maxDischargeDepth := 6) [q40]
       refine ACalls_fn tok Tryd.func122 (by kernel_rfl) rfl Tryd.ntmps122 Tryd.results122 rfl ?_
       simp only [argsA, Nat.reduceAdd]
       refine AWP_toThen (AWP_named fun K228 hK228 => ?_)
       obtain ⟨l85, hl85, H⟩ := bindE H
       refine AWP_regl tok [] ?_
       simp -dsimp -implicitDefEqProofs (maxDischargeDepth := 6) [app29 hl85]
       refine keepE2 (l := []) (x := []) (s := hp B [(N0 + 4, some ⟨129, 2, [[.int .i64 p1, .sl (N0 + 88) 0 l85.length]]⟩), (N0 + 51, none), (N0 + 63, none), (N0 + 88, some ⟨47, 5, encL rInstr l85⟩)] (N0 + 92)) rfl rfl fun a' ha => ?_
       refine hK228 _ _ ?_; try rw [ha]
       have e0 : N0 ≤ N0 + 4 := by omega
       have e1 : N0 ≤ N0 + 51 := by omega
       have e2 : N0 ≤ N0 + 63 := by omega
       have e3 : N0 ≤ N0 + 88 := by omega
       refine ⟨[], by simp [e0, e1, e2, e3], ?_⟩
       simp -dsimp -implicitDefEqProofs (maxDischargeDepth := 6)
       refine keepE2 (l := []) (x := []) (s := hp B [(N0 + 4, some ⟨129, 2, [[.int .i64 p1, .sl (N0 + 88) 0 l85.length]]⟩), (N0 + 51, none), (N0 + 63, none), (N0 + 88, some ⟨47, 5, encL rInstr l85⟩)] (N0 + 92)) rfl rfl fun a' ha => ?_
       refine hK227 _ _ ?_; try rw [ha]
       have e0 : N0 ≤ N0 + 4 := by omega
       have e1 : N0 ≤ N0 + 51 := by omega
       have e2 : N0 ≤ N0 + 63 := by omega
       have e3 : N0 ≤ N0 + 88 := by omega
       refine ⟨[], by simp [e0, e1, e2, e3], ?_⟩
       simp -dsimp -implicitDefEqProofs (maxDischargeDepth := 6)
       refine keepE2 (l := [7]) (x := [(7, .ptr (N0 + 4) 0 0)]) (s := hp B [(N0 + 4, some ⟨129, 2, [[.int .i64 p1, .sl (N0 + 88) 0 l85.length]]⟩), (N0 + 51, none), (N0 + 63, none), (N0 + 88, some ⟨47, 5, encL rInstr l85⟩)] (N0 + 92)) rfl rfl fun a' ha => ?_
       refine hK3 _ _ ?_; rw [ha]
       refine AWP_seqk [6] fun K229 hK229 => ?_
       refine AWP_regl tok [] ?_
       simp -dsimp -implicitDefEqProofs (maxDischargeDepth := 6)
       refine keepE2 (l := [6]) (x := [(6, .sl (N0 + 88) 0 l85.length)]) (s := hp B [(N0 + 4, some ⟨129, 2, [[.int .i64 p1, .sl (N0 + 88) 0 l85.length]]⟩), (N0 + 51, none), (N0 + 63, none), (N0 + 88, some ⟨47, 5, encL rInstr l85⟩)] (N0 + 97)) rfl rfl fun a' ha => ?_
       refine hK229 _ _ ?_; rw [ha]
       refine AWP_ret ?_
       replace H := Option.some.inj H; subst H
       have e0 : N0 ≤ N0 + 4 := by omega
       have e1 : N0 ≤ N0 + 51 := by omega
       have e2 : N0 ≤ N0 + 63 := by omega
       have e3 : N0 ≤ N0 + 88 := by omega
       refine ⟨[.sl (N0 + 88) 0 l85.length], by simp [e0, e1, e2, e3], ?_, ?_⟩
       ·
        simp [encL_nil, e0, e1, e2, e3]
       ·
        intro o ho; exact lk_out (by simp; try omega)
     ·
      replace H := ifF C29 H
      refine AWP_seqk [3, 7, 15, 67] fun K230 hK230 => ?_
      refine AWP_regl tok [] ?_
      simp -dsimp -implicitDefEqProofs (maxDischargeDepth := 6)
      refine keepE2 (l := [3, 7, 15, 67]) (x := [(3, .fptr [.int .i64 p0.Op, .int .i64 p0.Dst, .int .i64 p0.A, .int .i64 p0.B, .int .i64 p0.N] 0), (7, .ptr (N0 + 4) 0 0), (15, .int .i64 p0.Op), (67, .bool (ieq p0.Op 6))]) (s := hp B [(N0 + 4, some ⟨129, 2, [[.int .i64 p1, .nilsl]]⟩)] (N0 + 20)) rfl rfl fun a' ha => ?_
      refine hK230 _ _ ?_; rw [ha]
      refine AWP_cond (ieq p0.Op 6) rfl (fun C28 => ?_) (fun C28 => ?_)
      ·
       replace H := ifT C28 H
       refine AWP_seqk [7] fun K231 hK231 => ?_
       refine AWP_drawl tok tokM [9] [4, 10] [0, 1, 2, 3, 6, 7, 4, 5, 8, 9, 10] (by decide) ?_
       simp only [pickL, nthO_succ, nthO_zero]
       simp -dsimp -implicitDefEqProofs (maxDischargeDepth := 6)
       refine ACalls_fn tok Tryd.func117 (by kernel_rfl) rfl Tryd.ntmps117 Tryd.results117 rfl ?_
       simp only [argsA, Nat.reduceAdd]
       refine AWP_seqk [0, 1, 2] fun K233 hK233 => ?_
       refine AWP_regl tok [] ?_
       simp -dsimp -implicitDefEqProofs (maxDischargeDepth := 6)
       refine keepE2 (l := [0, 1, 2]) (x := [(0, .ptr (N0 + 4) 0 0), (1, .int .i64 p0.A), (2, .int .i64 5)]) (s := hp B [(N0 + 4, some ⟨129, 2, [[.int .i64 p1, .nilsl]]⟩)] (N0 + 32)) rfl rfl fun a' ha => ?_
       refine hK233 _ _ ?_; rw [ha]
       refine AWP_seqk [0, 1, 2] fun K234 hK234 => ?_
       refine AWP_seqk [0, 1, 2, 12] fun K235 hK235 => ?_
       refine AWP_regl tok [] ?_
       simp -dsimp -implicitDefEqProofs (maxDischargeDepth := 6)
       refine keepE2 (l := [0, 1, 2, 12]) (x := [(0, .ptr (N0 + 4) 0 0), (1, .int .i64 p0.A), (2, .int .i64 5), (12, .bool (ilt p0.A p1))]) (s := hp B [(N0 + 4, some ⟨129, 2, [[.int .i64 p1, .nilsl]]⟩)] (N0 + 38)) rfl rfl fun a' ha => ?_
       refine hK235 _ _ ?_; rw [ha]
       refine AWP_cond (ilt p0.A p1) rfl (fun C21 => ?_) (fun C21 => ?_)
       ·
        replace H := ifT C21 H
        refine AWP_seqk [6] fun K236 hK236 => ?_
        obtain ⟨v86, hv86, H⟩ := bindE H
        refine AWP_regl tok [] ?_
        simp -dsimp -implicitDefEqProofs (maxDischargeDepth := 6) [gx157 hv86, gl_get hv86]
        refine keepE2 (l := [6]) (x := [(6, .int .i64 v86)]) (s := hp B [(N0 + 4, some ⟨129, 2, [[.int .i64 p1, .nilsl]]⟩)] (N0 + 42)) rfl rfl fun a' ha => ?_
        refine hK236 _ _ ?_; rw [ha]
        refine AWP_ret ?_
        have e0 : N0 ≤ N0 + 4 := by omega
        refine ⟨[.int .i64 v86], by simp [e0], ?_⟩
        obtain ⟨r87, hr87, H⟩ := bindE H
        obtain ⟨r88, hr88, H⟩ := bindE H
        have q41 : ∀ σ i, buildSliceA T 29 true i 2 [(0, .agg [.int .i64 r87.Op, .int .i64 r87.Rd, .int .i64 r87.Rs, .int .i64 r87.Rt, .int .i64 r87.Imm]), (1, .agg [.int .i64 r88.Op, .int .i64 r88.Rd, .int .i64 r88.Rs, .int .i64 r88.Rt, .int .i64 r88.Imm])] σ = some (.fsl (encL rInstr ([r87, r88] : List gInstr)), σ) := fun _ _ => rfl
        simp -dsimp -implicitDefEqProofs (maxDischargeDepth := 6) [q41]
        refine Pc.mk (c119 hr87) ?_; try simp -dsimp -implicitDefEqProofs (maxDischargeDepth := 6) [q41]
        refine Pc.mk (c119 hr88) ?_; try simp -dsimp -implicitDefEqProofs (maxDischargeDepth := 6) [q41]
        refine ACalls_fn tok Tryd.func122 (by kernel_rfl) rfl Tryd.ntmps122 Tryd.results122 rfl ?_
        simp only [argsA, Nat.reduceAdd]
        refine AWP_toThen (AWP_named fun K237 hK237 => ?_)
        obtain ⟨l89, hl89, H⟩ := bindE H
        refine AWP_regl tok [] ?_
        simp -dsimp -implicitDefEqProofs (maxDischargeDepth := 6) [appn29 hl89]
        refine keepE2 (l := []) (x := []) (s := hp B [(N0 + 4, some ⟨129, 2, [[.int .i64 p1, .sl (N0 + 48) 0 l89.length]]⟩), (N0 + 48, some ⟨47, 5, encL rInstr l89⟩)] (N0 + 52)) rfl rfl fun a' ha => ?_
        refine hK237 _ _ ?_; try rw [ha]
        have e0 : N0 ≤ N0 + 4 := by omega
        have e1 : N0 ≤ N0 + 48 := by omega
        refine ⟨[], by simp [e0, e1], ?_⟩
        simp -dsimp -implicitDefEqProofs (maxDischargeDepth := 6)
        refine keepE2 (l := [7]) (x := [(7, .ptr (N0 + 4) 0 0)]) (s := hp B [(N0 + 4, some ⟨129, 2, [[.int .i64 p1, .sl (N0 + 48) 0 l89.length]]⟩), (N0 + 48, some ⟨47, 5, encL rInstr l89⟩)] (N0 + 52)) rfl rfl fun a' ha => ?_
        refine hK231 _ _ ?_; rw [ha]
        refine AWP_toThen ?_
        refine AWP_regl tok [] ?_
        simp -dsimp -implicitDefEqProofs (maxDischargeDepth := 6)
        refine ACalls_fn tok Tryd.func123 (by kernel_rfl) rfl Tryd.ntmps123 Tryd.results123 rfl ?_
        simp only [argsA, Nat.reduceAdd]
        refine AWP_toThen (AWP_named fun K238 hK238 => ?_)
        obtain ⟨r90, hr90, H⟩ := bindE H
        have q42 : ∀ σ i, buildSliceA T 29 true i 2 [(0, .agg [.int .i64 r90.Op, .int .i64 r90.Rd, .int .i64 r90.Rs, .int .i64 r90.Rt, .int .i64 r90.Imm]), (1, .agg [.int .i64 15, .int .i64 1, .int .i64 0, .int .i64 0, .int .i64 0])] σ = some (.fsl (encL rInstr ([r90, (⟨15, 1, 0, 0, 0⟩ : gInstr)] : List gInstr)), σ) := fun _ _ => rfl
        refine AWP_regl tok [4] ?_
        simp -dsimp -implicitDefEqProofs (maxDischargeDepth := 6) [q42]
        refine (c119 hr90).app ?_; try simp -dsimp -implicitDefEqProofs (maxDischargeDepth := 6) [q42]
        refine ACalls_fn tok Tryd.func122 (by kernel_rfl) rfl Tryd.ntmps122 Tryd.results122 rfl ?_
        simp only [argsA, Nat.reduceAdd]
        refine AWP_toThen (AWP_named fun K239 hK239 => ?_)
        obtain ⟨l91, hl91, H⟩ := bindE H
        refine AWP_regl tok [] ?_
        simp -dsimp -implicitDefEqProofs (maxDischargeDepth := 6) [app29 hl91]
        refine keepE2 (l := []) (x := []) (s := hp B [(N0 + 4, some ⟨129, 2, [[.int .i64 p1, .sl (N0 + 66) 0 l91.length]]⟩), (N0 + 48, none), (N0 + 66, some ⟨47, 5, encL rInstr l91⟩)] (N0 + 70)) rfl rfl fun a' ha => ?_
        refine hK239 _ _ ?_; try rw [ha]
        have e0 : N0 ≤ N0 + 4 := by omega
        have e1 : N0 ≤ N0 + 48 := by omega
        have e2 : N0 ≤ N0 + 66 := by omega
        refine ⟨[], by simp [e0, e1, e2], ?_⟩
        simp -dsimp -implicitDefEqProofs (maxDischargeDepth := 6)
        refine keepE2 (l := []) (x := []) (s := hp B [(N0 + 4, some ⟨129, 2, [[.int .i64 p1, .sl (N0 + 66) 0 l91.length]]⟩), (N0 + 48, none), (N0 + 66, some ⟨47, 5, encL rInstr l91⟩)] (N0 + 70)) rfl rfl fun a' ha => ?_
        refine hK238 _ _ ?_; try rw [ha]
        have e0 : N0 ≤ N0 + 4 := by omega
        have e1 : N0 ≤ N0 + 48 := by omega
        have e2 : N0 ≤ N0 + 66 := by omega
        refine ⟨[], by simp [e0, e1, e2], ?_⟩
        simp -dsimp -implicitDefEqProofs (maxDischargeDepth := 6)
        refine keepE2 (l := [7]) (x := [(7, .ptr (N0 + 4) 0 0)]) (s := hp B [(N0 + 4, some ⟨129, 2, [[.int .i64 p1, .sl (N0 + 66) 0 l91.length]]⟩), (N0 + 48, none), (N0 + 66, some ⟨47, 5, encL rInstr l91⟩)] (N0 + 70)) rfl rfl fun a' ha => ?_
        refine hK3 _ _ ?_; rw [ha]
        refine AWP_seqk [6] fun K240 hK240 => ?_
        refine AWP_regl tok [] ?_
        simp -dsimp -implicitDefEqProofs (maxDischargeDepth := 6)
        refine keepE2 (l := [6]) (x := [(6, .sl (N0 + 66) 0 l91.length)]) (s := hp B [(N0 + 4, some ⟨129, 2, [[.int .i64 p1, .sl (N0 + 66) 0 l91.length]]⟩), (N0 + 48, none), (N0 + 66, some ⟨47, 5, encL rInstr l91⟩)] (N0 + 75)) rfl rfl fun a' ha => ?_
        refine hK240 _ _ ?_; rw [ha]
        refine AWP_ret ?_
        replace H := Option.some.inj H; subst H
        have e0 : N0 ≤ N0 + 4 := by omega
        have e1 : N0 ≤ N0 + 48 := by omega
        have e2 : N0 ≤ N0 + 66 := by omega
        refine ⟨[.sl (N0 + 66) 0 l91.length], by simp [e0, e1, e2], ?_, ?_⟩
        ·
         simp [encL_nil, e0, e1, e2]
        ·
         intro o ho; exact lk_out (by simp; try omega)
       ·
        replace H := ifF C21 H
        refine AWP_skip ?_
        show K234 _ _
        refine keepE (l := [0, 1, 2]) (x := [(0, .ptr (N0 + 4) 0 0), (1, .int .i64 p0.A), (2, .int .i64 5)]) rfl fun a' ha => ?_
        refine hK234 _ _ ?_; rw [ha]
        refine AWP_seqk [2] fun K241 hK241 => ?_
        have q43 : ∀ σ i, buildSliceA T 29 true i 1 [(0, .agg [.int .i64 14, .int .i64 5, .int .i64 2, .int .i64 0, .int .i64 (imul .i64 4 (isub .i64 p0.A p1))])] σ = some (.fsl (encL rInstr ([(⟨14, 5, 2, 0, imul .i64 4 (isub .i64 p0.A p1)⟩ : gInstr)] : List gInstr)), σ) := fun _ _ => rfl
        refine AWP_regl tok [10] ?_
        simp -dsimp -implicitDefEqProofs (maxDischargeDepth := 6) [q43]
        refine ACalls_fn tok Tryd.func122 (by kernel_rfl) rfl Tryd.ntmps122 Tryd.results122 rfl ?_
        simp only [argsA, Nat.reduceAdd]
        refine AWP_toThen (AWP_named fun K242 hK242 => ?_)
        obtain ⟨l92, hl92, H⟩ := bindE H
        refine AWP_regl tok [] ?_
        simp -dsimp -implicitDefEqProofs (maxDischargeDepth := 6) [appn29 hl92]
        refine keepE2 (l := []) (x := []) (s := hp B [(N0 + 4, some ⟨129, 2, [[.int .i64 p1, .sl (N0 + 56) 0 l92.length]]⟩), (N0 + 56, some ⟨47, 5, encL rInstr l92⟩)] (N0 + 60)) rfl rfl fun a' ha => ?_
        refine hK242 _ _ ?_; try rw [ha]
        have e0 : N0 ≤ N0 + 4 := by omega
        have e1 : N0 ≤ N0 + 56 := by omega
        refine ⟨[], by simp [e0, e1], ?_⟩
        simp -dsimp -implicitDefEqProofs (maxDischargeDepth := 6)
        refine keepE2 (l := [2]) (x := [(2, .int .i64 5)]) (s := hp B [(N0 + 4, some ⟨129, 2, [[.int .i64 p1, .sl (N0 + 56) 0 l92.length]]⟩), (N0 + 56, some ⟨47, 5, encL rInstr l92⟩)] (N0 + 60)) rfl rfl fun a' ha => ?_
        refine hK241 _ _ ?_; rw [ha]
        refine AWP_seqk [6] fun K243 hK243 => ?_
        refine AWP_regl tok [] ?_
        simp -dsimp -implicitDefEqProofs (maxDischargeDepth := 6)
        refine keepE2 (l := [6]) (x := [(6, .int .i64 5)]) (s := hp B [(N0 + 4, some ⟨129, 2, [[.int .i64 p1, .sl (N0 + 56) 0 l92.length]]⟩), (N0 + 56, some ⟨47, 5, encL rInstr l92⟩)] (N0 + 62)) rfl rfl fun a' ha => ?_
        refine hK243 _ _ ?_; rw [ha]
        refine AWP_ret ?_
        have e0 : N0 ≤ N0 + 4 := by omega
        have e1 : N0 ≤ N0 + 56 := by omega
        refine ⟨[.int .i64 5], by simp [e0, e1], ?_⟩
        obtain ⟨r93, hr93, H⟩ := bindE H
        obtain ⟨r94, hr94, H⟩ := bindE H
        have q44 : ∀ σ i, buildSliceA T 29 true i 2 [(0, .agg [.int .i64 r93.Op, .int .i64 r93.Rd, .int .i64 r93.Rs, .int .i64 r93.Rt, .int .i64 r93.Imm]), (1, .agg [.int .i64 r94.Op, .int .i64 r94.Rd, .int .i64 r94.Rs, .int .i64 r94.Rt, .int .i64 r94.Imm])] σ = some (.fsl (encL rInstr ([r93, r94] : List gInstr)), σ) := fun _ _ => rfl
        simp -dsimp -implicitDefEqProofs (maxDischargeDepth := 6) [q44]
        refine Pc.mk (c119 hr93) ?_; try simp -dsimp -implicitDefEqProofs (maxDischargeDepth := 6) [q44]
        refine Pc.mk (c119 hr94) ?_; try simp -dsimp -implicitDefEqProofs (maxDischargeDepth := 6) [q44]
        refine ACalls_fn tok Tryd.func122 (by kernel_rfl) rfl Tryd.ntmps122 Tryd.results122 rfl ?_
        simp only [argsA, Nat.reduceAdd]
        refine AWP_toThen (AWP_named fun K244 hK244 => ?_)
        obtain ⟨l95, hl95, H⟩ := bindE H
        refine AWP_regl tok [] ?_
        simp -dsimp -implicitDefEqProofs (maxDischargeDepth := 6) [app29 hl95]
        refine keepE2 (l := []) (x := []) (s := hp B [(N0 + 4, some ⟨129, 2, [[.int .i64 p1, .sl (N0 + 68) 0 l95.length]]⟩), (N0 + 56, none), (N0 + 68, some ⟨47, 5, encL rInstr l95⟩)] (N0 + 72)) rfl rfl fun a' ha => ?_
        refine hK244 _ _ ?_; try rw [ha]
        have e0 : N0 ≤ N0 + 4 := by omega
        have e1 : N0 ≤ N0 + 56 := by omega
        have e2 : N0 ≤ N0 + 68 := by omega
        refine ⟨[], by simp [e0, e1, e2], ?_⟩
        simp -dsimp -implicitDefEqProofs (maxDischargeDepth := 6)
        refine keepE2 (l := [7]) (x := [(7, .ptr (N0 + 4) 0 0)]) (s := hp B [(N0 + 4, some ⟨129, 2, [[.int .i64 p1, .sl (N0 + 68) 0 l95.length]]⟩), (N0 + 56, none), (N0 + 68, some ⟨47, 5, encL rInstr l95⟩)] (N0 + 72)) rfl rfl fun a' ha => ?_
        refine hK231 _ _ ?_; rw [ha]
        refine AWP_toThen ?_
        refine AWP_regl tok [] ?_
        simp -dsimp -implicitDefEqProofs (maxDischargeDepth := 6)
        refine ACalls_fn tok Tryd.func123 (by kernel_rfl) rfl Tryd.ntmps123 Tryd.results123 rfl ?_
        simp only [argsA, Nat.reduceAdd]
        refine AWP_toThen (AWP_named fun K245 hK245 => ?_)
        obtain ⟨r96, hr96, H⟩ := bindE H
        have q45 : ∀ σ i, buildSliceA T 29 true i 2 [(0, .agg [.int .i64 r96.Op, .int .i64 r96.Rd, .int .i64 r96.Rs, .int .i64 r96.Rt, .int .i64 r96.Imm]), (1, .agg [.int .i64 15, .int .i64 1, .int .i64 0, .int .i64 0, .int .i64 0])] σ = some (.fsl (encL rInstr ([r96, (⟨15, 1, 0, 0, 0⟩ : gInstr)] : List gInstr)), σ) := fun _ _ => rfl
        refine AWP_regl tok [4] ?_
        simp -dsimp -implicitDefEqProofs (maxDischargeDepth := 6) [q45]
        refine (c119 hr96).app ?_; try simp -dsimp -implicitDefEqProofs (maxDischargeDepth := 6) [q45]
        refine ACalls_fn tok Tryd.func122 (by kernel_rfl) rfl Tryd.ntmps122 Tryd.results122 rfl ?_
        simp only [argsA, Nat.reduceAdd]
        refine AWP_toThen (AWP_named fun K246 hK246 => ?_)
        obtain ⟨l97, hl97, H⟩ := bindE H
        refine AWP_regl tok [] ?_
        simp -dsimp -implicitDefEqProofs (maxDischargeDepth := 6) [app29 hl97]
        refine keepE2 (l := []) (x := []) (s := hp B [(N0 + 4, some ⟨129, 2, [[.int .i64 p1, .sl (N0 + 86) 0 l97.length]]⟩), (N0 + 56, none), (N0 + 68, none), (N0 + 86, some ⟨47, 5, encL rInstr l97⟩)] (N0 + 90)) rfl rfl fun a' ha => ?_
        refine hK246 _ _ ?_; try rw [ha]
        have e0 : N0 ≤ N0 + 4 := by omega
        have e1 : N0 ≤ N0 + 56 := by omega
        have e2 : N0 ≤ N0 + 68 := by omega
        have e3 : N0 ≤ N0 + 86 := by omega
        refine ⟨[], by simp [e0, e1, e2, e3], ?_⟩
        simp -dsimp -implicitDefEqProofs (maxDischargeDepth := 6)
        refine keepE2 (l := []) (x := []) (s := hp B [(N0 + 4, some ⟨129, 2, [[.int .i64 p1, .sl (N0 + 86) 0 l97.length]]⟩), (N0 + 56, none), (N0 + 68, none), (N0 + 86, some ⟨47, 5, encL rInstr l97⟩)] (N0 + 90)) rfl rfl fun a' ha => ?_
        refine hK245 _ _ ?_; try rw [ha]
        have e0 : N0 ≤ N0 + 4 := by omega
        have e1 : N0 ≤ N0 + 56 := by omega
        have e2 : N0 ≤ N0 + 68 := by omega
        have e3 : N0 ≤ N0 + 86 := by omega
        refine ⟨[], by simp [e0, e1, e2, e3], ?_⟩
        simp -dsimp -implicitDefEqProofs (maxDischargeDepth := 6)
        refine keepE2 (l := [7]) (x := [(7, .ptr (N0 + 4) 0 0)]) (s := hp B [(N0 + 4, some ⟨129, 2, [[.int .i64 p1, .sl (N0 + 86) 0 l97.length]]⟩), (N0 + 56, none), (N0 + 68, none), (N0 + 86, some ⟨47, 5, encL rInstr l97⟩)] (N0 + 90)) rfl rfl fun a' ha => ?_
        refine hK3 _ _ ?_; rw [ha]
        refine AWP_seqk [6] fun K247 hK247 => ?_
        refine AWP_regl tok [] ?_
        simp -dsimp -implicitDefEqProofs (maxDischargeDepth := 6)
        refine keepE2 (l := [6]) (x := [(6, .sl (N0 + 86) 0 l97.length)]) (s := hp B [(N0 + 4, some ⟨129, 2, [[.int .i64 p1, .sl (N0 + 86) 0 l97.length]]⟩), (N0 + 56, none), (N0 + 68, none), (N0 + 86, some ⟨47, 5, encL rInstr l97⟩)] (N0 + 95)) rfl rfl fun a' ha => ?_
        refine hK247 _ _ ?_; rw [ha]
        refine AWP_ret ?_
        replace H := Option.some.inj H; subst H
        have e0 : N0 ≤ N0 + 4 := by omega
        have e1 : N0 ≤ N0 + 56 := by omega
        have e2 : N0 ≤ N0 + 68 := by omega
        have e3 : N0 ≤ N0 + 86 := by omega
        refine ⟨[.sl (N0 + 86) 0 l97.length], by simp [e0, e1, e2, e3], ?_, ?_⟩
        ·
         simp [encL_nil, e0, e1, e2, e3]
        ·
         intro o ho; exact lk_out (by simp; try omega)
      ·
       replace H := ifF C28 H
       refine AWP_seqk [3, 7, 15, 82] fun K248 hK248 => ?_
       refine AWP_regl tok [] ?_
       simp -dsimp -implicitDefEqProofs (maxDischargeDepth := 6)
       refine keepE2 (l := [3, 7, 15, 82]) (x := [(3, .fptr [.int .i64 p0.Op, .int .i64 p0.Dst, .int .i64 p0.A, .int .i64 p0.B, .int .i64 p0.N] 0), (7, .ptr (N0 + 4) 0 0), (15, .int .i64 p0.Op), (82, .bool (ieq p0.Op 7))]) (s := hp B [(N0 + 4, some ⟨129, 2, [[.int .i64 p1, .nilsl]]⟩)] (N0 + 22)) rfl rfl fun a' ha => ?_
       refine hK248 _ _ ?_; rw [ha]
       refine AWP_cond (ieq p0.Op 7) rfl (fun C27 => ?_) (fun C27 => ?_)
       ·
        replace H := ifT C27 H
        refine AWP_seqk [3, 7] fun K249 hK249 => ?_
        obtain ⟨r98, hr98, H⟩ := bindE H
        have q46 : ∀ σ i, buildSliceA T 29 true i 1 [(0, .agg [.int .i64 r98.Op, .int .i64 r98.Rd, .int .i64 r98.Rs, .int .i64 r98.Rt, .int .i64 r98.Imm])] σ = some (.fsl (encL rInstr ([r98] : List gInstr)), σ) := fun _ _ => rfl
        refine AWP_regl tok [4] ?_
        simp -dsimp -implicitDefEqProofs (maxDischargeDepth := 6) [q46]
        refine (c119 hr98).app ?_; try simp -dsimp -implicitDefEqProofs (maxDischargeDepth := 6) [q46]
        refine ACalls_fn tok Tryd.func122 (by kernel_rfl) rfl Tryd.ntmps122 Tryd.results122 rfl ?_
        simp only [argsA, Nat.reduceAdd]
        refine AWP_toThen (AWP_named fun K250 hK250 => ?_)
        obtain ⟨l99, hl99, H⟩ := bindE H
        refine AWP_regl tok [] ?_
        simp -dsimp -implicitDefEqProofs (maxDischargeDepth := 6) [appn29 hl99]
        refine keepE2 (l := []) (x := []) (s := hp B [(N0 + 4, some ⟨129, 2, [[.int .i64 p1, .sl (N0 + 34) 0 l99.length]]⟩), (N0 + 34, some ⟨47, 5, encL rInstr l99⟩)] (N0 + 38)) rfl rfl fun a' ha => ?_
        refine hK250 _ _ ?_; try rw [ha]
        have e0 : N0 ≤ N0 + 4 := by omega
        have e1 : N0 ≤ N0 + 34 := by omega
        refine ⟨[], by simp [e0, e1], ?_⟩
        simp -dsimp -implicitDefEqProofs (maxDischargeDepth := 6)
        refine keepE2 (l := [3, 7]) (x := [(3, .fptr [.int .i64 p0.Op, .int .i64 p0.Dst, .int .i64 p0.A, .int .i64 p0.B, .int .i64 p0.N] 0), (7, .ptr (N0 + 4) 0 0)]) (s := hp B [(N0 + 4, some ⟨129, 2, [[.int .i64 p1, .sl (N0 + 34) 0 l99.length]]⟩), (N0 + 34, some ⟨47, 5, encL rInstr l99⟩)] (N0 + 38)) rfl rfl fun a' ha => ?_
        refine hK249 _ _ ?_; rw [ha]
        refine AWP_seqk [3, 7] fun K251 hK251 => ?_
        refine AWP_regl tok [] ?_
        simp -dsimp -implicitDefEqProofs (maxDischargeDepth := 6)
        refine ACalls_fn tok Tryd.func123 (by kernel_rfl) rfl Tryd.ntmps123 Tryd.results123 rfl ?_
        simp only [argsA, Nat.reduceAdd]
        refine AWP_toThen (AWP_named fun K252 hK252 => ?_)
        obtain ⟨r100, hr100, H⟩ := bindE H
        have q47 : ∀ σ i, buildSliceA T 29 true i 2 [(0, .agg [.int .i64 r100.Op, .int .i64 r100.Rd, .int .i64 r100.Rs, .int .i64 r100.Rt, .int .i64 r100.Imm]), (1, .agg [.int .i64 15, .int .i64 1, .int .i64 0, .int .i64 0, .int .i64 0])] σ = some (.fsl (encL rInstr ([r100, (⟨15, 1, 0, 0, 0⟩ : gInstr)] : List gInstr)), σ) := fun _ _ => rfl
        refine AWP_regl tok [4] ?_
        simp -dsimp -implicitDefEqProofs (maxDischargeDepth := 6) [q47]
        refine (c119 hr100).app ?_; try simp -dsimp -implicitDefEqProofs (maxDischargeDepth := 6) [q47]
        refine ACalls_fn tok Tryd.func122 (by kernel_rfl) rfl Tryd.ntmps122 Tryd.results122 rfl ?_
        simp only [argsA, Nat.reduceAdd]
        refine AWP_toThen (AWP_named fun K253 hK253 => ?_)
        obtain ⟨l101, hl101, H⟩ := bindE H
        refine AWP_regl tok [] ?_
        simp -dsimp -implicitDefEqProofs (maxDischargeDepth := 6) [app29 hl101]
        refine keepE2 (l := []) (x := []) (s := hp B [(N0 + 4, some ⟨129, 2, [[.int .i64 p1, .sl (N0 + 52) 0 l101.length]]⟩), (N0 + 34, none), (N0 + 52, some ⟨47, 5, encL rInstr l101⟩)] (N0 + 56)) rfl rfl fun a' ha => ?_
        refine hK253 _ _ ?_; try rw [ha]
        have e0 : N0 ≤ N0 + 4 := by omega
        have e1 : N0 ≤ N0 + 34 := by omega
        have e2 : N0 ≤ N0 + 52 := by omega
        refine ⟨[], by simp [e0, e1, e2], ?_⟩
        simp -dsimp -implicitDefEqProofs (maxDischargeDepth := 6)
        refine keepE2 (l := []) (x := []) (s := hp B [(N0 + 4, some ⟨129, 2, [[.int .i64 p1, .sl (N0 + 52) 0 l101.length]]⟩), (N0 + 34, none), (N0 + 52, some ⟨47, 5, encL rInstr l101⟩)] (N0 + 56)) rfl rfl fun a' ha => ?_
        refine hK252 _ _ ?_; try rw [ha]
        have e0 : N0 ≤ N0 + 4 := by omega
        have e1 : N0 ≤ N0 + 34 := by omega
        have e2 : N0 ≤ N0 + 52 := by omega
        refine ⟨[], by simp [e0, e1, e2], ?_⟩
        simp -dsimp -implicitDefEqProofs (maxDischargeDepth := 6)
        refine keepE2 (l := [3, 7]) (x := [(3, .fptr [.int .i64 p0.Op, .int .i64 p0.Dst, .int .i64 p0.A, .int .i64 p0.B, .int .i64 p0.N] 0), (7, .ptr (N0 + 4) 0 0)]) (s := hp B [(N0 + 4, some ⟨129, 2, [[.int .i64 p1, .sl (N0 + 52) 0 l101.length]]⟩), (N0 + 34, none), (N0 + 52, some ⟨47, 5, encL rInstr l101⟩)] (N0 + 56)) rfl rfl fun a' ha => ?_
        refine hK251 _ _ ?_; rw [ha]
        refine AWP_toThen ?_
        refine AWP_regl tok [] ?_
        simp -dsimp -implicitDefEqProofs (maxDischargeDepth := 6)
        refine ACalls_fn tok Tryd.func115 (by kernel_rfl) rfl Tryd.ntmps115 Tryd.results115 rfl ?_
        simp only [argsA, Nat.reduceAdd]
        refine AWP_toThen (AWP_named fun K254 hK254 => ?_)
        refine AWP_seqk [0, 1, 2] fun K255 hK255 => ?_
        refine AWP_seqk [0, 1, 2, 11] fun K256 hK256 => ?_
        refine AWP_regl tok [] ?_
        simp -dsimp -implicitDefEqProofs (maxDischargeDepth := 6)
        refine keepE2 (l := [0, 1, 2, 11]) (x := [(0, .ptr (N0 + 4) 0 0), (1, .int .i64 p0.Dst), (2, .clo 124 [] []), (11, .bool (ilt p0.Dst p1))]) (s := hp B [(N0 + 4, some ⟨129, 2, [[.int .i64 p1, .sl (N0 + 52) 0 l101.length]]⟩), (N0 + 34, none), (N0 + 52, some ⟨47, 5, encL rInstr l101⟩)] (N0 + 66)) rfl rfl fun a' ha => ?_
        refine hK256 _ _ ?_; rw [ha]
        refine AWP_cond (ilt p0.Dst p1) rfl (fun C22 => ?_) (fun C22 => ?_)
        ·
         replace H := ifT C22 H
         refine AWP_seqk [] fun K257 hK257 => ?_
         obtain ⟨v102, hv102, H⟩ := bindE H
         refine AWP_regl tok [] ?_
         simp -dsimp -implicitDefEqProofs (maxDischargeDepth := 6) [gx157 hv102, gl_get hv102]
         refine ACalls_fn tok Tryd.func124 (by kernel_rfl) rfl Tryd.ntmps124 Tryd.results124 rfl ?_
         simp only [argsA, Nat.reduceAdd]
         refine AWP_seqk [0] fun K259 hK259 => ?_
         refine AWP_regl tok [] ?_
         simp -dsimp -implicitDefEqProofs (maxDischargeDepth := 6)
         refine keepE2 (l := [0]) (x := [(0, .int .i64 v102)]) (s := hp B [(N0 + 4, some ⟨129, 2, [[.int .i64 p1, .sl (N0 + 52) 0 l101.length]]⟩), (N0 + 34, none), (N0 + 52, some ⟨47, 5, encL rInstr l101⟩)] (N0 + 74)) rfl rfl fun a' ha => ?_
         refine hK259 _ _ ?_; rw [ha]
         refine AWP_seqk [2] fun K260 hK260 => ?_
         obtain ⟨r103, hr103, H⟩ := bindE H
         have q48 : ∀ σ i, buildSliceA T 29 true i 1 [(0, .agg [.int .i64 r103.Op, .int .i64 r103.Rd, .int .i64 r103.Rs, .int .i64 r103.Rt, .int .i64 r103.Imm])] σ = some (.fsl (encL rInstr ([r103] : List gInstr)), σ) := fun _ _ => rfl
         refine AWP_regl tok [2] ?_
         simp -dsimp -implicitDefEqProofs (maxDischargeDepth := 6) [q48]
         refine (c119 hr103).app ?_; try simp -dsimp -implicitDefEqProofs (maxDischargeDepth := 6) [q48]
         refine keepE2 (l := [2]) (x := [(2, .fsl (encL rInstr ([r103] : List gInstr)))]) (s := hp B [(N0 + 4, some ⟨129, 2, [[.int .i64 p1, .sl (N0 + 52) 0 l101.length]]⟩), (N0 + 34, none), (N0 + 52, some ⟨47, 5, encL rInstr l101⟩)] (N0 + 78)) rfl rfl fun a' ha => ?_
         refine hK260 _ _ ?_; rw [ha]
         refine AWP_ret ?_
         have e0 : N0 ≤ N0 + 4 := by omega
         have e1 : N0 ≤ N0 + 34 := by omega
         have e2 : N0 ≤ N0 + 52 := by omega
         refine ⟨[.fsl (encL rInstr ([r103] : List gInstr))], by simp [e0, e1, e2], ?_⟩
         simp -dsimp -implicitDefEqProofs (maxDischargeDepth := 6)
         refine ACalls_fn tok Tryd.func122 (by kernel_rfl) rfl Tryd.ntmps122 Tryd.results122 rfl ?_
         simp only [argsA, Nat.reduceAdd]
         refine AWP_toThen (AWP_named fun K261 hK261 => ?_)
         obtain ⟨l104, hl104, H⟩ := bindE H
         refine AWP_regl tok [] ?_
         simp -dsimp -implicitDefEqProofs (maxDischargeDepth := 6) [app29 hl104]
         refine keepE2 (l := []) (x := []) (s := hp B [(N0 + 4, some ⟨129, 2, [[.int .i64 p1, .sl (N0 + 84) 0 l104.length]]⟩), (N0 + 34, none), (N0 + 52, none), (N0 + 84, some ⟨47, 5, encL rInstr l104⟩)] (N0 + 88)) rfl rfl fun a' ha => ?_
         refine hK261 _ _ ?_; try rw [ha]
         have e0 : N0 ≤ N0 + 4 := by omega
         have e1 : N0 ≤ N0 + 34 := by omega
         have e2 : N0 ≤ N0 + 52 := by omega
         have e3 : N0 ≤ N0 + 84 := by omega
         refine ⟨[], by simp [e0, e1, e2, e3], ?_⟩
         simp -dsimp -implicitDefEqProofs (maxDischargeDepth := 6)
         refine keepE2 (l := []) (x := []) (s := hp B [(N0 + 4, some ⟨129, 2, [[.int .i64 p1, .sl (N0 + 84) 0 l104.length]]⟩), (N0 + 34, none), (N0 + 52, none), (N0 + 84, some ⟨47, 5, encL rInstr l104⟩)] (N0 + 88)) rfl rfl fun a' ha => ?_
         refine hK257 _ _ ?_; rw [ha]
         refine AWP_ret ?_
         have e0 : N0 ≤ N0 + 4 := by omega
         have e1 : N0 ≤ N0 + 34 := by omega
         have e2 : N0 ≤ N0 + 52 := by omega
         have e3 : N0 ≤ N0 + 84 := by omega
         refine ⟨[], by simp [e0, e1, e2, e3], ?_⟩
         simp -dsimp -implicitDefEqProofs (maxDischargeDepth := 6)
         refine keepE2 (l := [7]) (x := [(7, .ptr (N0 + 4) 0 0)]) (s := hp B [(N0 + 4, some ⟨129, 2, [[.int .i64 p1, .sl (N0 + 84) 0 l104.length]]⟩), (N0 + 34, none), (N0 + 52, none), (N0 + 84, some ⟨47, 5, encL rInstr l104⟩)] (N0 + 88)) rfl rfl fun a' ha => ?_
         refine hK3 _ _ ?_; rw [ha]
         refine AWP_seqk [6] fun K262 hK262 => ?_
         refine AWP_regl tok [] ?_
         simp -dsimp -implicitDefEqProofs (maxDischargeDepth := 6)
         refine keepE2 (l := [6]) (x := [(6, .sl (N0 + 84) 0 l104.length)]) (s := hp B [(N0 + 4, some ⟨129, 2, [[.int .i64 p1, .sl (N0 + 84) 0 l104.length]]⟩), (N0 + 34, none), (N0 + 52, none), (N0 + 84, some ⟨47, 5, encL rInstr l104⟩)] (N0 + 93)) rfl rfl fun a' ha => ?_
         refine hK262 _ _ ?_; rw [ha]
         refine AWP_ret ?_
         replace H := Option.some.inj H; subst H
         have e0 : N0 ≤ N0 + 4 := by omega
         have e1 : N0 ≤ N0 + 34 := by omega
         have e2 : N0 ≤ N0 + 52 := by omega
         have e3 : N0 ≤ N0 + 84 := by omega
         refine ⟨[.sl (N0 + 84) 0 l104.length], by simp [e0, e1, e2, e3], ?_, ?_⟩
         ·
          simp [encL_nil, e0, e1, e2, e3]
         ·
          intro o ho; exact lk_out (by simp; try omega)
        ·
         replace H := ifF C22 H
         refine AWP_skip ?_
         show K255 _ _
         refine keepE (l := [0, 1, 2]) (x := [(0, .ptr (N0 + 4) 0 0), (1, .int .i64 p0.Dst), (2, .clo 124 [] [])]) rfl fun a' ha => ?_
         refine hK255 _ _ ?_; rw [ha]
         refine AWP_seqk [0, 1] fun K263 hK263 => ?_
         refine AWP_regl tok [] ?_
         simp -dsimp -implicitDefEqProofs (maxDischargeDepth := 6)
         refine ACalls_fn tok Tryd.func124 (by kernel_rfl) rfl Tryd.ntmps124 Tryd.results124 rfl ?_
         simp only [argsA, Nat.reduceAdd]
         refine AWP_seqk [0] fun K265 hK265 => ?_
         refine AWP_regl tok [] ?_
         simp -dsimp -implicitDefEqProofs (maxDischargeDepth := 6)
         refine keepE2 (l := [0]) (x := [(0, .int .i64 7)]) (s := hp B [(N0 + 4, some ⟨129, 2, [[.int .i64 p1, .sl (N0 + 52) 0 l101.length]]⟩), (N0 + 34, none), (N0 + 52, some ⟨47, 5, encL rInstr l101⟩)] (N0 + 71)) rfl rfl fun a' ha => ?_
         refine hK265 _ _ ?_; rw [ha]
         refine AWP_seqk [2] fun K266 hK266 => ?_
         obtain ⟨r105, hr105, H⟩ := bindE H
         have q49 : ∀ σ i, buildSliceA T 29 true i 1 [(0, .agg [.int .i64 r105.Op, .int .i64 r105.Rd, .int .i64 r105.Rs, .int .i64 r105.Rt, .int .i64 r105.Imm])] σ = some (.fsl (encL rInstr ([r105] : List gInstr)), σ) := fun _ _ => rfl
         refine AWP_regl tok [2] ?_
         simp -dsimp -implicitDefEqProofs (maxDischargeDepth := 6) [q49]
         refine (c119 hr105).app ?_; try simp -dsimp -implicitDefEqProofs (maxDischargeDepth := 6) [q49]
         refine keepE2 (l := [2]) (x := [(2, .fsl (encL rInstr ([r105] : List gInstr)))]) (s := hp B [(N0 + 4, some ⟨129, 2, [[.int .i64 p1, .sl (N0 + 52) 0 l101.length]]⟩), (N0 + 34, none), (N0 + 52, some ⟨47, 5, encL rInstr l101⟩)] (N0 + 75)) rfl rfl fun a' ha => ?_
         refine hK266 _ _ ?_; rw [ha]
         refine AWP_ret ?_
         have e0 : N0 ≤ N0 + 4 := by omega
         have e1 : N0 ≤ N0 + 34 := by omega
         have e2 : N0 ≤ N0 + 52 := by omega
         refine ⟨[.fsl (encL rInstr ([r105] : List gInstr))], by simp [e0, e1, e2], ?_⟩
         simp -dsimp -implicitDefEqProofs (maxDischargeDepth := 6)
         refine ACalls_fn tok Tryd.func122 (by kernel_rfl) rfl Tryd.ntmps122 Tryd.results122 rfl ?_
         simp only [argsA, Nat.reduceAdd]
         refine AWP_toThen (AWP_named fun K267 hK267 => ?_)
         obtain ⟨l106, hl106, H⟩ := bindE H
         refine AWP_regl tok [] ?_
         simp -dsimp -implicitDefEqProofs (maxDischargeDepth := 6) [app29 hl106]
         refine keepE2 (l := []) (x := []) (s := hp B [(N0 + 4, some ⟨129, 2, [[.int .i64 p1, .sl (N0 + 81) 0 l106.length]]⟩), (N0 + 34, none), (N0 + 52, none), (N0 + 81, some ⟨47, 5, encL rInstr l106⟩)] (N0 + 85)) rfl rfl fun a' ha => ?_
         refine hK267 _ _ ?_; try rw [ha]
         have e0 : N0 ≤ N0 + 4 := by omega
         have e1 : N0 ≤ N0 + 34 := by omega
         have e2 : N0 ≤ N0 + 52 := by omega
         have e3 : N0 ≤ N0 + 81 := by omega
         refine ⟨[], by simp [e0, e1, e2, e3], ?_⟩
         simp -dsimp -implicitDefEqProofs (maxDischargeDepth := 6)
         refine keepE2 (l := [0, 1]) (x := [(0, .ptr (N0 + 4) 0 0), (1, .int .i64 p0.Dst)]) (s := hp B [(N0 + 4, some ⟨129, 2, [[.int .i64 p1, .sl (N0 + 81) 0 l106.length]]⟩), (N0 + 34, none), (N0 + 52, none), (N0 + 81, some ⟨47, 5, encL rInstr l106⟩)] (N0 + 85)) rfl rfl fun a' ha => ?_
         refine hK263 _ _ ?_; rw [ha]
         have q50 : ∀ σ i, buildSliceA T 29 true i 1 [(0, .agg [.int .i64 16, .int .i64 0, .int .i64 2, .int .i64 7, .int .i64 (imul .i64 4 (isub .i64 p0.Dst p1))])] σ = some (.fsl (encL rInstr ([(⟨16, 0, 2, 7, imul .i64 4 (isub .i64 p0.Dst p1)⟩ : gInstr)] : List gInstr)), σ) := fun _ _ => rfl
         refine AWP_regl tok [9] ?_
         simp -dsimp -implicitDefEqProofs (maxDischargeDepth := 6) [q50]
         refine ACalls_fn tok Tryd.func122 (by kernel_rfl) rfl Tryd.ntmps122 Tryd.results122 rfl ?_
         simp only [argsA, Nat.reduceAdd]
         refine AWP_toThen (AWP_named fun K268 hK268 => ?_)
         obtain ⟨l107, hl107, H⟩ := bindE H
         refine AWP_regl tok [] ?_
         simp -dsimp -implicitDefEqProofs (maxDischargeDepth := 6) [app29 hl107]
         refine keepE2 (l := []) (x := []) (s := hp B [(N0 + 4, some ⟨129, 2, [[.int .i64 p1, .sl (N0 + 102) 0 l107.length]]⟩), (N0 + 34, none), (N0 + 52, none), (N0 + 81, none), (N0 + 102, some ⟨47, 5, encL rInstr l107⟩)] (N0 + 106)) rfl rfl fun a' ha => ?_
         refine hK268 _ _ ?_; try rw [ha]
         have e0 : N0 ≤ N0 + 4 := by omega
         have e1 : N0 ≤ N0 + 34 := by omega
         have e2 : N0 ≤ N0 + 52 := by omega
         have e3 : N0 ≤ N0 + 81 := by omega
         have e4 : N0 ≤ N0 + 102 := by omega
         refine ⟨[], by simp [e0, e1, e2, e3, e4], ?_⟩
         simp -dsimp -implicitDefEqProofs (maxDischargeDepth := 6)
         refine keepE2 (l := []) (x := []) (s := hp B [(N0 + 4, some ⟨129, 2, [[.int .i64 p1, .sl (N0 + 102) 0 l107.length]]⟩), (N0 + 34, none), (N0 + 52, none), (N0 + 81, none), (N0 + 102, some ⟨47, 5, encL rInstr l107⟩)] (N0 + 106)) rfl rfl fun a' ha => ?_
         refine hK254 _ _ ?_; try rw [ha]
         have e0 : N0 ≤ N0 + 4 := by omega
         have e1 : N0 ≤ N0 + 34 := by omega
         have e2 : N0 ≤ N0 + 52 := by omega
         have e3 : N0 ≤ N0 + 81 := by omega
         have e4 : N0 ≤ N0 + 102 := by omega
         refine ⟨[], by simp [e0, e1, e2, e3, e4], ?_⟩
         simp -dsimp -implicitDefEqProofs (maxDischargeDepth := 6)
         refine keepE2 (l := [7]) (x := [(7, .ptr (N0 + 4) 0 0)]) (s := hp B [(N0 + 4, some ⟨129, 2, [[.int .i64 p1, .sl (N0 + 102) 0 l107.length]]⟩), (N0 + 34, none), (N0 + 52, none), (N0 + 81, none), (N0 + 102, some ⟨47, 5, encL rInstr l107⟩)] (N0 + 106)) rfl rfl fun a' ha => ?_
         refine hK3 _ _ ?_; rw [ha]
         refine AWP_seqk [6] fun K269 hK269 => ?_
         refine AWP_regl tok [] ?_
         simp -dsimp -implicitDefEqProofs (maxDischargeDepth := 6)
         refine keepE2 (l := [6]) (x := [(6, .sl (N0 + 102) 0 l107.length)]) (s := hp B [(N0 + 4, some ⟨129, 2, [[.int .i64 p1, .sl (N0 + 102) 0 l107.length]]⟩), (N0 + 34, none), (N0 + 52, none), (N0 + 81, none), (N0 + 102, some ⟨47, 5, encL rInstr l107⟩)] (N0 + 111)) rfl rfl fun a' ha => ?_
         refine hK269 _ _ ?_; rw [ha]
         refine AWP_ret ?_
         replace H := Option.some.inj H; subst H
         have e0 : N0 ≤ N0 + 4 := by omega
         have e1 : N0 ≤ N0 + 34 := by omega
         have e2 : N0 ≤ N0 + 52 := by omega
         have e3 : N0 ≤ N0 + 81 := by omega
         have e4 : N0 ≤ N0 + 102 := by omega
         refine ⟨[.sl (N0 + 102) 0 l107.length], by simp [e0, e1, e2, e3, e4], ?_, ?_⟩
         ·
          simp [encL_nil, e0, e1, e2, e3, e4]
         ·
          intro o ho; exact lk_out (by simp; try omega)
       ·
        replace H := ifF C27 H
        refine AWP_seqk [3, 7, 15, 96] fun K270 hK270 => ?_
        refine AWP_regl tok [] ?_
        simp -dsimp -implicitDefEqProofs (maxDischargeDepth := 6)
        refine keepE2 (l := [3, 7, 15, 96]) (x := [(3, .fptr [.int .i64 p0.Op, .int .i64 p0.Dst, .int .i64 p0.A, .int .i64 p0.B, .int .i64 p0.N] 0), (7, .ptr (N0 + 4) 0 0), (15, .int .i64 p0.Op), (96, .bool (ieq p0.Op 8))]) (s := hp B [(N0 + 4, some ⟨129, 2, [[.int .i64 p1, .nilsl]]⟩)] (N0 + 24)) rfl rfl fun a' ha => ?_
        refine hK270 _ _ ?_; rw [ha]
        refine AWP_cond (ieq p0.Op 8) rfl (fun C26 => ?_) (fun C26 => ?_)
        ·
         replace H := ifT C26 H
         refine AWP_toThen ?_
         refine AWP_regl tok [] ?_
         simp -dsimp -implicitDefEqProofs (maxDischargeDepth := 6)
         refine ACalls_fn tok Tryd.func123 (by kernel_rfl) rfl Tryd.ntmps123 Tryd.results123 rfl ?_
         simp only [argsA, Nat.reduceAdd]
         refine AWP_toThen (AWP_named fun K271 hK271 => ?_)
         obtain ⟨r108, hr108, H⟩ := bindE H
         have q51 : ∀ σ i, buildSliceA T 29 true i 2 [(0, .agg [.int .i64 r108.Op, .int .i64 r108.Rd, .int .i64 r108.Rs, .int .i64 r108.Rt, .int .i64 r108.Imm]), (1, .agg [.int .i64 15, .int .i64 1, .int .i64 0, .int .i64 0, .int .i64 0])] σ = some (.fsl (encL rInstr ([r108, (⟨15, 1, 0, 0, 0⟩ : gInstr)] : List gInstr)), σ) := fun _ _ => rfl
         refine AWP_regl tok [4] ?_
         simp -dsimp -implicitDefEqProofs (maxDischargeDepth := 6) [q51]
         refine (c119 hr108).app ?_; try simp -dsimp -implicitDefEqProofs (maxDischargeDepth := 6) [q51]
         refine ACalls_fn tok Tryd.func122 (by kernel_rfl) rfl Tryd.ntmps122 Tryd.results122 rfl ?_
         simp only [argsA, Nat.reduceAdd]
         refine AWP_toThen (AWP_named fun K272 hK272 => ?_)
         obtain ⟨l109, hl109, H⟩ := bindE H
         refine AWP_regl tok [] ?_
         simp -dsimp -implicitDefEqProofs (maxDischargeDepth := 6) [appn29 hl109]
         refine keepE2 (l := []) (x := []) (s := hp B [(N0 + 4, some ⟨129, 2, [[.int .i64 p1, .sl (N0 + 38) 0 l109.length]]⟩), (N0 + 38, some ⟨47, 5, encL rInstr l109⟩)] (N0 + 42)) rfl rfl fun a' ha => ?_
         refine hK272 _ _ ?_; try rw [ha]
         have e0 : N0 ≤ N0 + 4 := by omega
         have e1 : N0 ≤ N0 + 38 := by omega
         refine ⟨[], by simp [e0, e1], ?_⟩
         simp -dsimp -implicitDefEqProofs (maxDischargeDepth := 6)
         refine keepE2 (l := []) (x := []) (s := hp B [(N0 + 4, some ⟨129, 2, [[.int .i64 p1, .sl (N0 + 38) 0 l109.length]]⟩), (N0 + 38, some ⟨47, 5, encL rInstr l109⟩)] (N0 + 42)) rfl rfl fun a' ha => ?_
         refine hK271 _ _ ?_; try rw [ha]
         have e0 : N0 ≤ N0 + 4 := by omega
         have e1 : N0 ≤ N0 + 38 := by omega
         refine ⟨[], by simp [e0, e1], ?_⟩
         simp -dsimp -implicitDefEqProofs (maxDischargeDepth := 6)
         refine keepE2 (l := [7]) (x := [(7, .ptr (N0 + 4) 0 0)]) (s := hp B [(N0 + 4, some ⟨129, 2, [[.int .i64 p1, .sl (N0 + 38) 0 l109.length]]⟩), (N0 + 38, some ⟨47, 5, encL rInstr l109⟩)] (N0 + 42)) rfl rfl fun a' ha => ?_
         refine hK3 _ _ ?_; rw [ha]
         refine AWP_seqk [6] fun K273 hK273 => ?_
         refine AWP_regl tok [] ?_
         simp -dsimp -implicitDefEqProofs (maxDischargeDepth := 6)
         refine keepE2 (l := [6]) (x := [(6, .sl (N0 + 38) 0 l109.length)]) (s := hp B [(N0 + 4, some ⟨129, 2, [[.int .i64 p1, .sl (N0 + 38) 0 l109.length]]⟩), (N0 + 38, some ⟨47, 5, encL rInstr l109⟩)] (N0 + 47)) rfl rfl fun a' ha => ?_
         refine hK273 _ _ ?_; rw [ha]
         refine AWP_ret ?_
         replace H := Option.some.inj H; subst H
         have e0 : N0 ≤ N0 + 4 := by omega
         have e1 : N0 ≤ N0 + 38 := by omega
         refine ⟨[.sl (N0 + 38) 0 l109.length], by simp [e0, e1], ?_, ?_⟩
         ·
          simp [encL_nil, e0, e1]
         ·
          intro o ho; exact lk_out (by simp; try omega)
        ·
         replace H := ifF C26 H
         refine AWP_seqk [3, 7, 15, 100] fun K274 hK274 => ?_
         refine AWP_regl tok [] ?_
         simp -dsimp -implicitDefEqProofs (maxDischargeDepth := 6)
         refine keepE2 (l := [3, 7, 15, 100]) (x := [(3, .fptr [.int .i64 p0.Op, .int .i64 p0.Dst, .int .i64 p0.A, .int .i64 p0.B, .int .i64 p0.N] 0), (7, .ptr (N0 + 4) 0 0), (15, .int .i64 p0.Op), (100, .bool (ieq p0.Op 9))]) (s := hp B [(N0 + 4, some ⟨129, 2, [[.int .i64 p1, .nilsl]]⟩)] (N0 + 26)) rfl rfl fun a' ha => ?_
         refine hK274 _ _ ?_; rw [ha]
         refine AWP_cond (ieq p0.Op 9) rfl (fun C25 => ?_) (fun C25 => ?_)
         ·
          replace H := ifT C25 H
          refine AWP_seqk [7] fun K275 hK275 => ?_
          refine AWP_regl tok [6] ?_
          simp -dsimp -implicitDefEqProofs (maxDischargeDepth := 6)
          refine ACalls_fn tok Tryd.func117 (by kernel_rfl) rfl Tryd.ntmps117 Tryd.results117 rfl ?_
          simp only [argsA, Nat.reduceAdd]
          refine AWP_seqk [0, 1, 2] fun K277 hK277 => ?_
          refine AWP_regl tok [] ?_
          simp -dsimp -implicitDefEqProofs (maxDischargeDepth := 6)
          refine keepE2 (l := [0, 1, 2]) (x := [(0, .ptr (N0 + 4) 0 0), (1, .int .i64 p0.A), (2, .int .i64 5)]) (s := hp B [(N0 + 4, some ⟨129, 2, [[.int .i64 p1, .nilsl]]⟩)] (N0 + 35)) rfl rfl fun a' ha => ?_
          refine hK277 _ _ ?_; rw [ha]
          refine AWP_seqk [0, 1, 2] fun K278 hK278 => ?_
          refine AWP_seqk [0, 1, 2, 12] fun K279 hK279 => ?_
          refine AWP_regl tok [] ?_
          simp -dsimp -implicitDefEqProofs (maxDischargeDepth := 6)
          refine keepE2 (l := [0, 1, 2, 12]) (x := [(0, .ptr (N0 + 4) 0 0), (1, .int .i64 p0.A), (2, .int .i64 5), (12, .bool (ilt p0.A p1))]) (s := hp B [(N0 + 4, some ⟨129, 2, [[.int .i64 p1, .nilsl]]⟩)] (N0 + 41)) rfl rfl fun a' ha => ?_
          refine hK279 _ _ ?_; rw [ha]
          refine AWP_cond (ilt p0.A p1) rfl (fun C23 => ?_) (fun C23 => ?_)
          ·
           replace H := ifT C23 H
           refine AWP_seqk [6] fun K280 hK280 => ?_
           obtain ⟨v110, hv110, H⟩ := bindE H
           refine AWP_regl tok [] ?_
           simp -dsimp -implicitDefEqProofs (maxDischargeDepth := 6) [gx157 hv110, gl_get hv110]
           refine keepE2 (l := [6]) (x := [(6, .int .i64 v110)]) (s := hp B [(N0 + 4, some ⟨129, 2, [[.int .i64 p1, .nilsl]]⟩)] (N0 + 45)) rfl rfl fun a' ha => ?_
           refine hK280 _ _ ?_; rw [ha]
           refine AWP_ret ?_
           have e0 : N0 ≤ N0 + 4 := by omega
           refine ⟨[.int .i64 v110], by simp [e0], ?_⟩
           obtain ⟨r111, hr111, H⟩ := bindE H
           have q52 : ∀ σ i, buildSliceA T 29 true i 1 [(0, .agg [.int .i64 r111.Op, .int .i64 r111.Rd, .int .i64 r111.Rs, .int .i64 r111.Rt, .int .i64 r111.Imm])] σ = some (.fsl (encL rInstr ([r111] : List gInstr)), σ) := fun _ _ => rfl
           simp -dsimp -implicitDefEqProofs (maxDischargeDepth := 6) [q52]
           refine (c119 hr111).app ?_; try simp -dsimp -implicitDefEqProofs (maxDischargeDepth := 6) [q52]
           refine ACalls_fn tok Tryd.func122 (by kernel_rfl) rfl Tryd.ntmps122 Tryd.results122 rfl ?_
           simp only [argsA, Nat.reduceAdd]
           refine AWP_toThen (AWP_named fun K281 hK281 => ?_)
           obtain ⟨l112, hl112, H⟩ := bindE H
           refine AWP_regl tok [] ?_
           simp -dsimp -implicitDefEqProofs (maxDischargeDepth := 6) [appn29 hl112]
           refine keepE2 (l := []) (x := []) (s := hp B [(N0 + 4, some ⟨129, 2, [[.int .i64 p1, .sl (N0 + 51) 0 l112.length]]⟩), (N0 + 51, some ⟨47, 5, encL rInstr l112⟩)] (N0 + 55)) rfl rfl fun a' ha => ?_
           refine hK281 _ _ ?_; try rw [ha]
           have e0 : N0 ≤ N0 + 4 := by omega
           have e1 : N0 ≤ N0 + 51 := by omega
           refine ⟨[], by simp [e0, e1], ?_⟩
           simp -dsimp -implicitDefEqProofs (maxDischargeDepth := 6)
           refine keepE2 (l := [7]) (x := [(7, .ptr (N0 + 4) 0 0)]) (s := hp B [(N0 + 4, some ⟨129, 2, [[.int .i64 p1, .sl (N0 + 51) 0 l112.length]]⟩), (N0 + 51, some ⟨47, 5, encL rInstr l112⟩)] (N0 + 55)) rfl rfl fun a' ha => ?_
           refine hK275 _ _ ?_; rw [ha]
           refine AWP_toThen ?_
           refine AWP_regl tok [] ?_
           simp -dsimp -implicitDefEqProofs (maxDischargeDepth := 6)
           refine ACalls_fn tok Tryd.func123 (by kernel_rfl) rfl Tryd.ntmps123 Tryd.results123 rfl ?_
           simp only [argsA, Nat.reduceAdd]
           refine AWP_toThen (AWP_named fun K282 hK282 => ?_)
           obtain ⟨r113, hr113, H⟩ := bindE H
           have q53 : ∀ σ i, buildSliceA T 29 true i 2 [(0, .agg [.int .i64 r113.Op, .int .i64 r113.Rd, .int .i64 r113.Rs, .int .i64 r113.Rt, .int .i64 r113.Imm]), (1, .agg [.int .i64 15, .int .i64 1, .int .i64 0, .int .i64 0, .int .i64 0])] σ = some (.fsl (encL rInstr ([r113, (⟨15, 1, 0, 0, 0⟩ : gInstr)] : List gInstr)), σ) := fun _ _ => rfl
           refine AWP_regl tok [4] ?_
           simp -dsimp -implicitDefEqProofs (maxDischargeDepth := 6) [q53]
           refine (c119 hr113).app ?_; try simp -dsimp -implicitDefEqProofs (maxDischargeDepth := 6) [q53]
           refine ACalls_fn tok Tryd.func122 (by kernel_rfl) rfl Tryd.ntmps122 Tryd.results122 rfl ?_
           simp only [argsA, Nat.reduceAdd]
           refine AWP_toThen (AWP_named fun K283 hK283 => ?_)
           obtain ⟨l114, hl114, H⟩ := bindE H
           refine AWP_regl tok [] ?_
           simp -dsimp -implicitDefEqProofs (maxDischargeDepth := 6) [app29 hl114]
           refine keepE2 (l := []) (x := []) (s := hp B [(N0 + 4, some ⟨129, 2, [[.int .i64 p1, .sl (N0 + 69) 0 l114.length]]⟩), (N0 + 51, none), (N0 + 69, some ⟨47, 5, encL rInstr l114⟩)] (N0 + 73)) rfl rfl fun a' ha => ?_
           refine hK283 _ _ ?_; try rw [ha]
           have e0 : N0 ≤ N0 + 4 := by omega
           have e1 : N0 ≤ N0 + 51 := by omega
           have e2 : N0 ≤ N0 + 69 := by omega
           refine ⟨[], by simp [e0, e1, e2], ?_⟩
           simp -dsimp -implicitDefEqProofs (maxDischargeDepth := 6)
           refine keepE2 (l := []) (x := []) (s := hp B [(N0 + 4, some ⟨129, 2, [[.int .i64 p1, .sl (N0 + 69) 0 l114.length]]⟩), (N0 + 51, none), (N0 + 69, some ⟨47, 5, encL rInstr l114⟩)] (N0 + 73)) rfl rfl fun a' ha => ?_
           refine hK282 _ _ ?_; try rw [ha]
           have e0 : N0 ≤ N0 + 4 := by omega
           have e1 : N0 ≤ N0 + 51 := by omega
           have e2 : N0 ≤ N0 + 69 := by omega
           refine ⟨[], by simp [e0, e1, e2], ?_⟩
           simp -dsimp -implicitDefEqProofs (maxDischargeDepth := 6)
           refine keepE2 (l := [7]) (x := [(7, .ptr (N0 + 4) 0 0)]) (s := hp B [(N0 + 4, some ⟨129, 2, [[.int .i64 p1, .sl (N0 + 69) 0 l114.length]]⟩), (N0 + 51, none), (N0 + 69, some ⟨47, 5, encL rInstr l114⟩)] (N0 + 73)) rfl rfl fun a' ha => ?_
           refine hK3 _ _ ?_; rw [ha]
           refine AWP_seqk [6] fun K284 hK284 => ?_
           refine AWP_regl tok [] ?_
           simp -dsimp -implicitDefEqProofs (maxDischargeDepth := 6)
           refine keepE2 (l := [6]) (x := [(6, .sl (N0 + 69) 0 l114.length)]) (s := hp B [(N0 + 4, some ⟨129, 2, [[.int .i64 p1, .sl (N0 + 69) 0 l114.length]]⟩), (N0 + 51, none), (N0 + 69, some ⟨47, 5, encL rInstr l114⟩)] (N0 + 78)) rfl rfl fun a' ha => ?_
           refine hK284 _ _ ?_; rw [ha]
           refine AWP_ret ?_
           replace H := Option.some.inj H; subst H
           have e0 : N0 ≤ N0 + 4 := by omega
           have e1 : N0 ≤ N0 + 51 := by omega
           have e2 : N0 ≤ N0 + 69 := by omega
           refine ⟨[.sl (N0 + 69) 0 l114.length], by simp [e0, e1, e2], ?_, ?_⟩
           ·
            simp [encL_nil, e0, e1, e2]
           ·
            intro o ho; exact lk_out (by simp; try omega)
          ·
           replace H := ifF C23 H
           refine AWP_skip ?_
           show K278 _ _
           refine keepE (l := [0, 1, 2]) (x := [(0, .ptr (N0 + 4) 0 0), (1, .int .i64 p0.A), (2, .int .i64 5)]) rfl fun a' ha => ?_
           refine hK278 _ _ ?_; rw [ha]
           refine AWP_seqk [2] fun K285 hK285 => ?_
           have q54 : ∀ σ i, buildSliceA T 29 true i 1 [(0, .agg [.int .i64 14, .int .i64 5, .int .i64 2, .int .i64 0, .int .i64 (imul .i64 4 (isub .i64 p0.A p1))])] σ = some (.fsl (encL rInstr ([(⟨14, 5, 2, 0, imul .i64 4 (isub .i64 p0.A p1)⟩ : gInstr)] : List gInstr)), σ) := fun _ _ => rfl
           refine AWP_regl tok [10] ?_
           simp -dsimp -implicitDefEqProofs (maxDischargeDepth := 6) [q54]
           refine ACalls_fn tok Tryd.func122 (by kernel_rfl) rfl Tryd.ntmps122 Tryd.results122 rfl ?_
           simp only [argsA, Nat.reduceAdd]
           refine AWP_toThen (AWP_named fun K286 hK286 => ?_)
           obtain ⟨l115, hl115, H⟩ := bindE H
           refine AWP_regl tok [] ?_
           simp -dsimp -implicitDefEqProofs (maxDischargeDepth := 6) [appn29 hl115]
           refine keepE2 (l := []) (x := []) (s := hp B [(N0 + 4, some ⟨129, 2, [[.int .i64 p1, .sl (N0 + 59) 0 l115.length]]⟩), (N0 + 59, some ⟨47, 5, encL rInstr l115⟩)] (N0 + 63)) rfl rfl fun a' ha => ?_
           refine hK286 _ _ ?_; try rw [ha]
           have e0 : N0 ≤ N0 + 4 := by omega
           have e1 : N0 ≤ N0 + 59 := by omega
           refine ⟨[], by simp [e0, e1], ?_⟩
           simp -dsimp -implicitDefEqProofs (maxDischargeDepth := 6)
           refine keepE2 (l := [2]) (x := [(2, .int .i64 5)]) (s := hp B [(N0 + 4, some ⟨129, 2, [[.int .i64 p1, .sl (N0 + 59) 0 l115.length]]⟩), (N0 + 59, some ⟨47, 5, encL rInstr l115⟩)] (N0 + 63)) rfl rfl fun a' ha => ?_
           refine hK285 _ _ ?_; rw [ha]
           refine AWP_seqk [6] fun K287 hK287 => ?_
           refine AWP_regl tok [] ?_
           simp -dsimp -implicitDefEqProofs (maxDischargeDepth := 6)
           refine keepE2 (l := [6]) (x := [(6, .int .i64 5)]) (s := hp B [(N0 + 4, some ⟨129, 2, [[.int .i64 p1, .sl (N0 + 59) 0 l115.length]]⟩), (N0 + 59, some ⟨47, 5, encL rInstr l115⟩)] (N0 + 65)) rfl rfl fun a' ha => ?_
           refine hK287 _ _ ?_; rw [ha]
           refine AWP_ret ?_
           have e0 : N0 ≤ N0 + 4 := by omega
           have e1 : N0 ≤ N0 + 59 := by omega
           refine ⟨[.int .i64 5], by simp [e0, e1], ?_⟩
           obtain ⟨r116, hr116, H⟩ := bindE H
           have q55 : ∀ σ i, buildSliceA T 29 true i 1 [(0, .agg [.int .i64 r116.Op, .int .i64 r116.Rd, .int .i64 r116.Rs, .int .i64 r116.Rt, .int .i64 r116.Imm])] σ = some (.fsl (encL rInstr ([r116] : List gInstr)), σ) := fun _ _ => rfl
           simp -dsimp -implicitDefEqProofs (maxDischargeDepth := 6) [q55]
           refine (c119 hr116).app ?_; try simp -dsimp -implicitDefEqProofs (maxDischargeDepth := 6) [q55]
           refine ACalls_fn tok Tryd.func122 (by kernel_rfl) rfl Tryd.ntmps122 Tryd.results122 rfl ?_
           simp only [argsA, Nat.reduceAdd]
           refine AWP_toThen (AWP_named fun K288 hK288 => ?_)
           obtain ⟨l117, hl117, H⟩ := bindE H
           refine AWP_regl tok [] ?_
           simp -dsimp -implicitDefEqProofs (maxDischargeDepth := 6) [app29 hl117]
           refine keepE2 (l := []) (x := []) (s := hp B [(N0 + 4, some ⟨129, 2, [[.int .i64 p1, .sl (N0 + 71) 0 l117.length]]⟩), (N0 + 59, none), (N0 + 71, some ⟨47, 5, encL rInstr l117⟩)] (N0 + 75)) rfl rfl fun a' ha => ?_
           refine hK288 _ _ ?_; try rw [ha]
           have e0 : N0 ≤ N0 + 4 := by omega
           have e1 : N0 ≤ N0 + 59 := by omega
           have e2 : N0 ≤ N0 + 71 := by omega
           refine ⟨[], by simp [e0, e1, e2], ?_⟩
           simp -dsimp -implicitDefEqProofs (maxDischargeDepth := 6)
           refine keepE2 (l := [7]) (x := [(7, .ptr (N0 + 4) 0 0)]) (s := hp B [(N0 + 4, some ⟨129, 2, [[.int .i64 p1, .sl (N0 + 71) 0 l117.length]]⟩), (N0 + 59, none), (N0 + 71, some ⟨47, 5, encL rInstr l117⟩)] (N0 + 75)) rfl rfl fun a' ha => ?_
           refine hK275 _ _ ?_; rw [ha]
           refine AWP_toThen ?_
           refine AWP_regl tok [] ?_
           simp -dsimp -implicitDefEqProofs (maxDischargeDepth := 6)
           refine ACalls_fn tok Tryd.func123 (by kernel_rfl) rfl Tryd.ntmps123 Tryd.results123 rfl ?_
           simp only [argsA, Nat.reduceAdd]
           refine AWP_toThen (AWP_named fun K289 hK289 => ?_)
           obtain ⟨r118, hr118, H⟩ := bindE H
           have q56 : ∀ σ i, buildSliceA T 29 true i 2 [(0, .agg [.int .i64 r118.Op, .int .i64 r118.Rd, .int .i64 r118.Rs, .int .i64 r118.Rt, .int .i64 r118.Imm]), (1, .agg [.int .i64 15, .int .i64 1, .int .i64 0, .int .i64 0, .int .i64 0])] σ = some (.fsl (encL rInstr ([r118, (⟨15, 1, 0, 0, 0⟩ : gInstr)] : List gInstr)), σ) := fun _ _ => rfl
           refine AWP_regl tok [4] ?_
           simp -dsimp -implicitDefEqProofs (maxDischargeDepth := 6) [q56]
           refine (c119 hr118).app ?_; try simp -dsimp -implicitDefEqProofs (maxDischargeDepth := 6) [q56]
           refine ACalls_fn tok Tryd.func122 (by kernel_rfl) rfl Tryd.ntmps122 Tryd.results122 rfl ?_
           simp only [argsA, Nat.reduceAdd]
           refine AWP_toThen (AWP_named fun K290 hK290 => ?_)
           obtain ⟨l119, hl119, H⟩ := bindE H
           refine AWP_regl tok [] ?_
           simp -dsimp -implicitDefEqProofs (maxDischargeDepth := 6) [app29 hl119]
           refine keepE2 (l := []) (x := []) (s := hp B [(N0 + 4, some ⟨129, 2, [[.int .i64 p1, .sl (N0 + 89) 0 l119.length]]⟩), (N0 + 59, none), (N0 + 71, none), (N0 + 89, some ⟨47, 5, encL rInstr l119⟩)] (N0 + 93)) rfl rfl fun a' ha => ?_
           refine hK290 _ _ ?_; try rw [ha]
           have e0 : N0 ≤ N0 + 4 := by omega
           have e1 : N0 ≤ N0 + 59 := by omega
           have e2 : N0 ≤ N0 + 71 := by omega
           have e3 : N0 ≤ N0 + 89 := by omega
           refine ⟨[], by simp [e0, e1, e2, e3], ?_⟩
           simp -dsimp -implicitDefEqProofs (maxDischargeDepth := 6)
           refine keepE2 (l := []) (x := []) (s := hp B [(N0 + 4, some ⟨129, 2, [[.int .i64 p1, .sl (N0 + 89) 0 l119.length]]⟩), (N0 + 59, none), (N0 + 71, none), (N0 + 89, some ⟨47, 5, encL rInstr l119⟩)] (N0 + 93)) rfl rfl fun a' ha => ?_
           refine hK289 _ _ ?_; try rw [ha]
           have e0 : N0 ≤ N0 + 4 := by omega
           have e1 : N0 ≤ N0 + 59 := by omega
           have e2 : N0 ≤ N0 + 71 := by omega
           have e3 : N0 ≤ N0 + 89 := by omega
           refine ⟨[], by simp [e0, e1, e2, e3], ?_⟩
           simp -dsimp -implicitDefEqProofs (maxDischargeDepth := 6)
           refine keepE2 (l := [7]) (x := [(7, .ptr (N0 + 4) 0 0)]) (s := hp B [(N0 + 4, some ⟨129, 2, [[.int .i64 p1, .sl (N0 + 89) 0 l119.length]]⟩), (N0 + 59, none), (N0 + 71, none), (N0 + 89, some ⟨47, 5, encL rInstr l119⟩)] (N0 + 93)) rfl rfl fun a' ha => ?_
           refine hK3 _ _ ?_; rw [ha]
           refine AWP_seqk [6] fun K291 hK291 => ?_
           refine AWP_regl tok [] ?_
           simp -dsimp -implicitDefEqProofs (maxDischargeDepth := 6)
           refine keepE2 (l := [6]) (x := [(6, .sl (N0 + 89) 0 l119.length)]) (s := hp B [(N0 + 4, some ⟨129, 2, [[.int .i64 p1, .sl (N0 + 89) 0 l119.length]]⟩), (N0 + 59, none), (N0 + 71, none), (N0 + 89, some ⟨47, 5, encL rInstr l119⟩)] (N0 + 98)) rfl rfl fun a' ha => ?_
           refine hK291 _ _ ?_; rw [ha]
           refine AWP_ret ?_
           replace H := Option.some.inj H; subst H
           have e0 : N0 ≤ N0 + 4 := by omega
           have e1 : N0 ≤ N0 + 59 := by omega
           have e2 : N0 ≤ N0 + 71 := by omega
           have e3 : N0 ≤ N0 + 89 := by omega
           refine ⟨[.sl (N0 + 89) 0 l119.length], by simp [e0, e1, e2, e3], ?_, ?_⟩
           ·
            simp [encL_nil, e0, e1, e2, e3]
           ·
            intro o ho; exact lk_out (by simp; try omega)
         ·
          replace H := ifF C25 H
          refine AWP_seqk [7, 112] fun K292 hK292 => ?_
          refine AWP_regl tok [] ?_
          simp -dsimp -implicitDefEqProofs (maxDischargeDepth := 6)
          refine keepE2 (l := [7, 112]) (x := [(7, .ptr (N0 + 4) 0 0), (112, .bool (ieq p0.Op 10))]) (s := hp B [(N0 + 4, some ⟨129, 2, [[.int .i64 p1, .nilsl]]⟩)] (N0 + 28)) rfl rfl fun a' ha => ?_
          refine hK292 _ _ ?_; rw [ha]
          refine AWP_cond (ieq p0.Op 10) rfl (fun C24 => ?_) (fun C24 => ?_)
          ·
           replace H := ifT C24 H
           refine AWP_toThen ?_
           refine AWP_regl tok [] ?_
           simp -dsimp -implicitDefEqProofs (maxDischargeDepth := 6)
           refine ACalls_fn tok Tryd.func123 (by kernel_rfl) rfl Tryd.ntmps123 Tryd.results123 rfl ?_
           simp only [argsA, Nat.reduceAdd]
           refine AWP_toThen (AWP_named fun K293 hK293 => ?_)
           obtain ⟨r120, hr120, H⟩ := bindE H
           have q57 : ∀ σ i, buildSliceA T 29 true i 2 [(0, .agg [.int .i64 r120.Op, .int .i64 r120.Rd, .int .i64 r120.Rs, .int .i64 r120.Rt, .int .i64 r120.Imm]), (1, .agg [.int .i64 15, .int .i64 1, .int .i64 0, .int .i64 0, .int .i64 0])] σ = some (.fsl (encL rInstr ([r120, (⟨15, 1, 0, 0, 0⟩ : gInstr)] : List gInstr)), σ) := fun _ _ => rfl
           refine AWP_regl tok [4] ?_
           simp -dsimp -implicitDefEqProofs (maxDischargeDepth := 6) [q57]
           refine (c119 hr120).app ?_; try simp -dsimp -implicitDefEqProofs (maxDischargeDepth := 6) [q57]
           refine ACalls_fn tok Tryd.func122 (by kernel_rfl) rfl Tryd.ntmps122 Tryd.results122 rfl ?_
           simp only [argsA, Nat.reduceAdd]
           refine AWP_toThen (AWP_named fun K294 hK294 => ?_)
           obtain ⟨l121, hl121, H⟩ := bindE H
           refine AWP_regl tok [] ?_
           simp -dsimp -implicitDefEqProofs (maxDischargeDepth := 6) [appn29 hl121]
           refine keepE2 (l := []) (x := []) (s := hp B [(N0 + 4, some ⟨129, 2, [[.int .i64 p1, .sl (N0 + 42) 0 l121.length]]⟩), (N0 + 42, some ⟨47, 5, encL rInstr l121⟩)] (N0 + 46)) rfl rfl fun a' ha => ?_
           refine hK294 _ _ ?_; try rw [ha]
           have e0 : N0 ≤ N0 + 4 := by omega
           have e1 : N0 ≤ N0 + 42 := by omega
           refine ⟨[], by simp [e0, e1], ?_⟩
           simp -dsimp -implicitDefEqProofs (maxDischargeDepth := 6)
           refine keepE2 (l := []) (x := []) (s := hp B [(N0 + 4, some ⟨129, 2, [[.int .i64 p1, .sl (N0 + 42) 0 l121.length]]⟩), (N0 + 42, some ⟨47, 5, encL rInstr l121⟩)] (N0 + 46)) rfl rfl fun a' ha => ?_
           refine hK293 _ _ ?_; try rw [ha]
           have e0 : N0 ≤ N0 + 4 := by omega
           have e1 : N0 ≤ N0 + 42 := by omega
           refine ⟨[], by simp [e0, e1], ?_⟩
           simp -dsimp -implicitDefEqProofs (maxDischargeDepth := 6)
           refine keepE2 (l := [7]) (x := [(7, .ptr (N0 + 4) 0 0)]) (s := hp B [(N0 + 4, some ⟨129, 2, [[.int .i64 p1, .sl (N0 + 42) 0 l121.length]]⟩), (N0 + 42, some ⟨47, 5, encL rInstr l121⟩)] (N0 + 46)) rfl rfl fun a' ha => ?_
           refine hK3 _ _ ?_; rw [ha]
           refine AWP_seqk [6] fun K295 hK295 => ?_
           refine AWP_regl tok [] ?_
           simp -dsimp -implicitDefEqProofs (maxDischargeDepth := 6)
           refine keepE2 (l := [6]) (x := [(6, .sl (N0 + 42) 0 l121.length)]) (s := hp B [(N0 + 4, some ⟨129, 2, [[.int .i64 p1, .sl (N0 + 42) 0 l121.length]]⟩), (N0 + 42, some ⟨47, 5, encL rInstr l121⟩)] (N0 + 51)) rfl rfl fun a' ha => ?_
           refine hK295 _ _ ?_; rw [ha]
           refine AWP_ret ?_
           replace H := Option.some.inj H; subst H
           have e0 : N0 ≤ N0 + 4 := by omega
           have e1 : N0 ≤ N0 + 42 := by omega
           refine ⟨[.sl (N0 + 42) 0 l121.length], by simp [e0, e1], ?_, ?_⟩
           ·
            simp [encL_nil, e0, e1]
           ·
            intro o ho; exact lk_out (by simp; try omega)
          ·
           replace H := ifF C24 H
           refine AWP_skip ?_
           show K3 _ _
           refine keepE (l := [7]) (x := [(7, .ptr (N0 + 4) 0 0)]) rfl fun a' ha => ?_
           refine hK3 _ _ ?_; rw [ha]
           refine AWP_seqk [6] fun K296 hK296 => ?_
           refine AWP_regl tok [] ?_
           simp -dsimp -implicitDefEqProofs (maxDischargeDepth := 6)
           refine keepE2 (l := [6]) (x := [(6, .nilsl)]) (s := hp B [(N0 + 4, some ⟨129, 2, [[.int .i64 p1, .nilsl]]⟩)] (N0 + 33)) rfl rfl fun a' ha => ?_
           refine hK296 _ _ ?_; rw [ha]
           refine AWP_ret ?_
           replace H := Option.some.inj H; subst H
           have e0 : N0 ≤ N0 + 4 := by omega
           refine ⟨[.nilsl], by simp [e0], ?_, ?_⟩
           ·
            simp [encL_nil, e0]
           ·
            intro o ho; exact lk_out (by simp; try omega)
end Go.Proofs.YtoklfbdcghgmlaaDoor
