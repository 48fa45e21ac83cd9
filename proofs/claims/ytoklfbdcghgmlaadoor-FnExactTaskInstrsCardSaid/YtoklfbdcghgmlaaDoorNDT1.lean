/- The contracts of functions of the program, part 1: each computes what its mirror computes. No conditions. -/
import Derived.Test.YtoklfbdcghgmlaaDoorNDT0
set_option linter.unusedSimpArgs false
set_option linter.unusedVariables false
set_option maxRecDepth 20000
set_option maxHeartbeats 4000000
namespace Go.Proofs.YtoklfbdcghgmlaaDoor
open Go Go.Abs Go.RowKit

theorem c128 {p0 : Int} {r : Int} (H : i_Unsigned p0 = some r) : APure Tryd.prog G 128 [.int .i64 p0] (.int .i64 r) := by
 refine APure_fn (fun N0 => ?_) (by simp)
 refine ACalls_fn tok Tryd.func128 (by kernel_rfl) rfl Tryd.ntmps128 Tryd.results128 rfl ?_
 simp only [argsA, Nat.reduceAdd, hp_next]
 unfold i_Unsigned at H
 refine AWP_sr tok [] [0] (fun a σ => a = [(0, .int .i64 p0)] ∧ σ = hp E0 [] (N0 + 1)) (fun K hK => ?_) ?_
 ·
  skip
  simp -dsimp -implicitDefEqProofs (maxDischargeDepth := 6)
  exact hK _ _ ⟨rfl, rfl⟩
 rintro a σ ⟨rfl, rfl⟩
 refine AWP_sq [0] fun K1 hK1 => ?_
 obtain ⟨r1, hr1, H⟩ := bindE H
 refine AWP_sr tok [] [0, 5] (fun a σ => a = [(0, .int .i64 p0), (5, .bool (bnot r1))] ∧ σ = hp E0 [] (N0 + 4)) (fun K hK => ?_) ?_
 ·
  skip
  simp -dsimp -implicitDefEqProofs (maxDischargeDepth := 6)
  refine (c73 hr1).app ?_; try simp -dsimp -implicitDefEqProofs (maxDischargeDepth := 6)
  exact hK _ _ ⟨rfl, rfl⟩
 rintro a σ ⟨rfl, rfl⟩
 refine AWP_cond (bnot r1) rfl (fun C1 => ?_) (fun C1 => ?_)
 ·
  replace H := ifT C1 H
  refine AWP_sr tok [] [2] (fun a σ => a = [(2, .int .i64 (-1))] ∧ σ = hp E0 [] (N0 + 5)) (fun K hK => ?_) ?_
  ·
   skip
   simp -dsimp -implicitDefEqProofs (maxDischargeDepth := 6)
   exact hK _ _ ⟨rfl, rfl⟩
  rintro a σ ⟨rfl, rfl⟩
  replace H := Option.some.inj H; subst H
  refine AWP_kp [2] [(2, .int .i64 (-1))] rfl ?_
  refine AWP_ret ?_
  exact ⟨[.int .i64 (-1)], by simp, 4, by simp [encL_nil]⟩
 ·
  replace H := ifF C1 H
  refine AWP_skip ?_
  show K1 _ _
  refine keepE (l := [0]) (x := [(0, .int .i64 p0)]) rfl fun a' ha => ?_
  refine hK1 _ _ ?_; rw [ha]
  refine Rc.mk ?_
  refine AWP_sr tok [] [2] (fun a σ => a = [(2, .int .i64 (iconv .i64 (iconv .u32 p0)))] ∧ σ = hp E0 [] (N0 + 8)) (fun K hK => ?_) ?_
  ·
   skip
   simp -dsimp -implicitDefEqProofs (maxDischargeDepth := 6)
   exact hK _ _ ⟨rfl, rfl⟩
  rintro a σ ⟨rfl, rfl⟩
  replace H := Option.some.inj H; subst H
  refine AWP_kp [2] [(2, .int .i64 (iconv .i64 (iconv .u32 p0)))] rfl ?_
  refine AWP_ret ?_
  exact ⟨[.int .i64 (iconv .i64 (iconv .u32 p0))], by simp, 4, by simp [encL_nil]⟩
theorem c146 {p0 : Int} {r : Bool} (H : i_isUnsigned p0 = some r) : APure Tryd.prog G 146 [.int .i64 p0] (.bool r) := by
 refine APure_fn (fun N0 => ?_) (by simp)
 refine ACalls_fn tok Tryd.func146 (by kernel_rfl) rfl Tryd.ntmps146 Tryd.results146 rfl ?_
 simp only [argsA, Nat.reduceAdd, hp_next]
 unfold i_isUnsigned at H
 refine AWP_sr tok [] [0] (fun a σ => a = [(0, .int .i64 p0)] ∧ σ = hp E0 [] (N0 + 1)) (fun K hK => ?_) ?_
 ·
  skip
  simp -dsimp -implicitDefEqProofs (maxDischargeDepth := 6)
  exact hK _ _ ⟨rfl, rfl⟩
 rintro a σ ⟨rfl, rfl⟩
 obtain ⟨g1, hg1, H⟩ := bindE H
 refine AWP_sr tok [] [2] (fun a σ => a = [(2, .bool g1)] ∧ σ = hp E0 [] (N0 + 8)) (fun K hK => ?_) ?_
 ·
  skip
  simp -dsimp -implicitDefEqProofs (maxDischargeDepth := 6)
  cases hbg1 : ige p0 0
  ·
   replace hg1 := ifF hbg1 hg1
   replace hg1 := Option.some.inj hg1; subst hg1
   try simp -dsimp -implicitDefEqProofs (maxDischargeDepth := 6) [hbg1]
   exact hK _ _ ⟨rfl, rfl⟩
  ·
   replace hg1 := ifT hbg1 hg1
   replace hg1 := Option.some.inj hg1; subst hg1
   try simp -dsimp -implicitDefEqProofs (maxDischargeDepth := 6) [hbg1]
   exact hK _ _ ⟨rfl, rfl⟩
 rintro a σ ⟨rfl, rfl⟩
 replace H := Option.some.inj H; subst H
 refine AWP_kp [2] [(2, .bool g1)] rfl ?_
 refine AWP_ret ?_
 exact ⟨[.bool g1], by simp, 4, by simp [encL_nil]⟩
theorem c127 {p0 : Int} {p1 : Int} {p2 : Int} {r : Int} (H : i_Bits p0 p1 p2 = some r) : APure Tryd.prog G 127 [.int .i64 p0, .int .i64 p1, .int .i64 p2] (.int .i64 r) := by
 refine APure_fn (fun N0 => ?_) (by simp)
 refine ACalls_fn tok Tryd.func127 (by kernel_rfl) rfl Tryd.ntmps127 Tryd.results127 rfl ?_
 simp only [argsA, Nat.reduceAdd, hp_next]
 unfold i_Bits at H
 refine AWP_sr tok [] [0, 1, 2] (fun a σ => a = [(0, .int .i64 p0), (1, .int .i64 p1), (2, .int .i64 p2)] ∧ σ = hp E0 [] (N0 + 1)) (fun K hK => ?_) ?_
 ·
  skip
  simp -dsimp -implicitDefEqProofs (maxDischargeDepth := 6)
  exact hK _ _ ⟨rfl, rfl⟩
 rintro a σ ⟨rfl, rfl⟩
 refine AWP_sq [0, 1, 2] fun K1 hK1 => ?_
 obtain ⟨r1, hr1, H⟩ := bindE H
 obtain ⟨g2, hg2, H⟩ := bindE H
 obtain ⟨g3, hg3, H⟩ := bindE H
 obtain ⟨g4, hg4, H⟩ := bindE H
 obtain ⟨g5, hg5, H⟩ := bindE H
 refine AWP_sr tok [] [0, 1, 2, 27] (fun a σ => a = [(0, .int .i64 p0), (1, .int .i64 p1), (2, .int .i64 p2), (27, .bool g5)] ∧ σ = hp E0 [] (N0 + 22)) (fun K hK => ?_) ?_
 ·
  skip
  simp -dsimp -implicitDefEqProofs (maxDischargeDepth := 6)
  refine (c146 hr1).app ?_; try simp -dsimp -implicitDefEqProofs (maxDischargeDepth := 6)
  cases hbg2 : bnot r1
  ·
   replace hg2 := ifF hbg2 hg2
   replace hg2 := Option.some.inj hg2; subst hg2
   try simp -dsimp -implicitDefEqProofs (maxDischargeDepth := 6) [hbg2]
   cases hbg3 : (ilt p1 0)
   ·
    replace hg3 := ifF hbg3 hg3
    replace hg3 := Option.some.inj hg3; subst hg3
    try simp -dsimp -implicitDefEqProofs (maxDischargeDepth := 6) [hbg2, hbg3]
    cases hbg4 : (igt p1 31)
    ·
     replace hg4 := ifF hbg4 hg4
     replace hg4 := Option.some.inj hg4; subst hg4
     try simp -dsimp -implicitDefEqProofs (maxDischargeDepth := 6) [hbg2, hbg3, hbg4]
     cases hbg5 : (ilt p2 1)
     ·
      replace hg5 := ifF hbg5 hg5
      replace hg5 := Option.some.inj hg5; subst hg5
      try simp -dsimp -implicitDefEqProofs (maxDischargeDepth := 6) [hbg2, hbg3, hbg4, hbg5]
      exact hK _ _ ⟨rfl, rfl⟩
     ·
      replace hg5 := ifT hbg5 hg5
      replace hg5 := Option.some.inj hg5; subst hg5
      try simp -dsimp -implicitDefEqProofs (maxDischargeDepth := 6) [hbg2, hbg3, hbg4, hbg5]
      exact hK _ _ ⟨rfl, rfl⟩
    ·
     replace hg4 := ifT hbg4 hg4
     replace hg4 := Option.some.inj hg4; subst hg4
     try simp -dsimp -implicitDefEqProofs (maxDischargeDepth := 6) [hbg2, hbg3, hbg4]
     replace hg5 := ifT rfl hg5
     replace hg5 := Option.some.inj hg5; subst hg5
     try simp -dsimp -implicitDefEqProofs (maxDischargeDepth := 6) [hbg2, hbg3, hbg4]
     exact hK _ _ ⟨rfl, rfl⟩
   ·
    replace hg3 := ifT hbg3 hg3
    replace hg3 := Option.some.inj hg3; subst hg3
    try simp -dsimp -implicitDefEqProofs (maxDischargeDepth := 6) [hbg2, hbg3]
    replace hg4 := ifT rfl hg4
    replace hg4 := Option.some.inj hg4; subst hg4
    try simp -dsimp -implicitDefEqProofs (maxDischargeDepth := 6) [hbg2, hbg3]
    replace hg5 := ifT rfl hg5
    replace hg5 := Option.some.inj hg5; subst hg5
    try simp -dsimp -implicitDefEqProofs (maxDischargeDepth := 6) [hbg2, hbg3]
    exact hK _ _ ⟨rfl, rfl⟩
  ·
   replace hg2 := ifT hbg2 hg2
   replace hg2 := Option.some.inj hg2; subst hg2
   try simp -dsimp -implicitDefEqProofs (maxDischargeDepth := 6) [hbg2]
   replace hg3 := ifT rfl hg3
   replace hg3 := Option.some.inj hg3; subst hg3
   try simp -dsimp -implicitDefEqProofs (maxDischargeDepth := 6) [hbg2]
   replace hg4 := ifT rfl hg4
   replace hg4 := Option.some.inj hg4; subst hg4
   try simp -dsimp -implicitDefEqProofs (maxDischargeDepth := 6) [hbg2]
   replace hg5 := ifT rfl hg5
   replace hg5 := Option.some.inj hg5; subst hg5
   try simp -dsimp -implicitDefEqProofs (maxDischargeDepth := 6) [hbg2]
   exact hK _ _ ⟨rfl, rfl⟩
 rintro a σ ⟨rfl, rfl⟩
 refine AWP_cond g5 rfl (fun C1 => ?_) (fun C1 => ?_)
 ·
  replace H := ifT C1 H
  refine AWP_sr tok [] [6] (fun a σ => a = [(6, .int .i64 0)] ∧ σ = hp E0 [] (N0 + 23)) (fun K hK => ?_) ?_
  ·
   skip
   simp -dsimp -implicitDefEqProofs (maxDischargeDepth := 6)
   exact hK _ _ ⟨rfl, rfl⟩
  rintro a σ ⟨rfl, rfl⟩
  replace H := Option.some.inj H; subst H
  refine AWP_kp [6] [(6, .int .i64 0)] rfl ?_
  refine AWP_ret ?_
  exact ⟨[.int .i64 0], by simp, 4, by simp [encL_nil]⟩
 ·
  replace H := ifF C1 H
  refine AWP_skip ?_
  show K1 _ _
  refine keepE (l := [0, 1, 2]) (x := [(0, .int .i64 p0), (1, .int .i64 p1), (2, .int .i64 p2)]) rfl fun a' ha => ?_
  refine hK1 _ _ ?_; rw [ha]
  refine Rc.mk ?_
  obtain ⟨v6, hv6, H⟩ := bindE H
  obtain ⟨v7, hv7, H⟩ := bindE H
  refine AWP_sd tok tokM [] [] [0, 1, 2, 3, 4, 5, 6, 7] [6] (fun a σ => a = [(6, .int .i64 (iand .i64 v6 (isub .i64 v7 1)))] ∧ σ = hp E0 [] (N0 + 30)) (by decide) (fun K hK => ?_) ?_
  ·
   simp only [pickL, nthO_succ, nthO_zero]
   simp -dsimp -implicitDefEqProofs (maxDischargeDepth := 6) [hv6, hv7]
   exact hK _ _ ⟨rfl, rfl⟩
  rintro a σ ⟨rfl, rfl⟩
  replace H := Option.some.inj H; subst H
  refine AWP_kp [6] [(6, .int .i64 (iand .i64 v6 (isub .i64 v7 1)))] rfl ?_
  refine AWP_ret ?_
  exact ⟨[.int .i64 (iand .i64 v6 (isub .i64 v7 1))], by simp, 4, by simp [encL_nil]⟩
theorem c126 {p0 : Int} {p1 : Int} {r : Int} (H : i_SignExtend p0 p1 = some r) : APure Tryd.prog G 126 [.int .i64 p0, .int .i64 p1] (.int .i64 r) := by
 refine APure_fn (fun N0 => ?_) (by simp)
 refine ACalls_fn tok Tryd.func126 (by kernel_rfl) rfl Tryd.ntmps126 Tryd.results126 rfl ?_
 simp only [argsA, Nat.reduceAdd, hp_next]
 unfold i_SignExtend at H
 refine AWP_sr tok [] [0, 1] (fun a σ => a = [(0, .int .i64 p0), (1, .int .i64 p1)] ∧ σ = hp E0 [] (N0 + 1)) (fun K hK => ?_) ?_
 ·
  skip
  simp -dsimp -implicitDefEqProofs (maxDischargeDepth := 6)
  exact hK _ _ ⟨rfl, rfl⟩
 rintro a σ ⟨rfl, rfl⟩
 refine AWP_sq [0, 1] fun K1 hK1 => ?_
 obtain ⟨g1, hg1, H⟩ := bindE H
 obtain ⟨g2, hg2, H⟩ := bindE H
 obtain ⟨g4, hg4, H⟩ := bindE H
 refine AWP_sr tok [] [0, 1, 20] (fun a σ => a = [(0, .int .i64 p0), (1, .int .i64 p1), (20, .bool g4)] ∧ σ = hp E0 [] (N0 + 17)) (fun K hK => ?_) ?_
 ·
  skip
  simp -dsimp -implicitDefEqProofs (maxDischargeDepth := 6)
  cases hbg1 : ilt p1 1
  ·
   replace hg1 := ifF hbg1 hg1
   replace hg1 := Option.some.inj hg1; subst hg1
   try simp -dsimp -implicitDefEqProofs (maxDischargeDepth := 6) [hbg1]
   cases hbg2 : (igt p1 32)
   ·
    replace hg2 := ifF hbg2 hg2
    replace hg2 := Option.some.inj hg2; subst hg2
    try simp -dsimp -implicitDefEqProofs (maxDischargeDepth := 6) [hbg1, hbg2]
    cases hbg4 : (ilt p0 0)
    ·
     replace hg4 := ifF hbg4 hg4
     obtain ⟨v3, hv3, hg4⟩ := bindE hg4
     replace hg4 := Option.some.inj hg4; subst hg4
     try simp -dsimp -implicitDefEqProofs (maxDischargeDepth := 6) [hbg1, hbg2, hbg4, hv3]
     exact hK _ _ ⟨rfl, rfl⟩
    ·
     replace hg4 := ifT hbg4 hg4
     replace hg4 := Option.some.inj hg4; subst hg4
     try simp -dsimp -implicitDefEqProofs (maxDischargeDepth := 6) [hbg1, hbg2, hbg4]
     exact hK _ _ ⟨rfl, rfl⟩
   ·
    replace hg2 := ifT hbg2 hg2
    replace hg2 := Option.some.inj hg2; subst hg2
    try simp -dsimp -implicitDefEqProofs (maxDischargeDepth := 6) [hbg1, hbg2]
    replace hg4 := ifT rfl hg4
    replace hg4 := Option.some.inj hg4; subst hg4
    try simp -dsimp -implicitDefEqProofs (maxDischargeDepth := 6) [hbg1, hbg2]
    exact hK _ _ ⟨rfl, rfl⟩
  ·
   replace hg1 := ifT hbg1 hg1
   replace hg1 := Option.some.inj hg1; subst hg1
   try simp -dsimp -implicitDefEqProofs (maxDischargeDepth := 6) [hbg1]
   replace hg2 := ifT rfl hg2
   replace hg2 := Option.some.inj hg2; subst hg2
   try simp -dsimp -implicitDefEqProofs (maxDischargeDepth := 6) [hbg1]
   replace hg4 := ifT rfl hg4
   replace hg4 := Option.some.inj hg4; subst hg4
   try simp -dsimp -implicitDefEqProofs (maxDischargeDepth := 6) [hbg1]
   exact hK _ _ ⟨rfl, rfl⟩
 rintro a σ ⟨rfl, rfl⟩
 refine AWP_cond g4 rfl (fun C1 => ?_) (fun C1 => ?_)
 ·
  replace H := ifT C1 H
  refine AWP_sr tok [] [4] (fun a σ => a = [(4, .int .i64 0)] ∧ σ = hp E0 [] (N0 + 18)) (fun K hK => ?_) ?_
  ·
   skip
   simp -dsimp -implicitDefEqProofs (maxDischargeDepth := 6)
   exact hK _ _ ⟨rfl, rfl⟩
  rintro a σ ⟨rfl, rfl⟩
  replace H := Option.some.inj H; subst H
  refine AWP_kp [4] [(4, .int .i64 0)] rfl ?_
  refine AWP_ret ?_
  exact ⟨[.int .i64 0], by simp, 4, by simp [encL_nil]⟩
 ·
  replace H := ifF C1 H
  refine AWP_skip ?_
  show K1 _ _
  refine keepE (l := [0, 1]) (x := [(0, .int .i64 p0), (1, .int .i64 p1)]) rfl fun a' ha => ?_
  refine hK1 _ _ ?_; rw [ha]
  refine Rc.mk ?_
  refine AWP_sq [0] fun K2 hK2 => ?_
  obtain ⟨v5, hv5, H⟩ := bindE H
  refine AWP_sr tok [] [0, 1, 25] (fun a σ => a = [(0, .int .i64 p0), (1, .int .i64 p1), (25, .bool (ige p0 v5))] ∧ σ = hp E0 [] (N0 + 22)) (fun K hK => ?_) ?_
  ·
   skip
   simp -dsimp -implicitDefEqProofs (maxDischargeDepth := 6) [hv5]
   exact hK _ _ ⟨rfl, rfl⟩
  rintro a σ ⟨rfl, rfl⟩
  refine AWP_cond (ige p0 v5) rfl (fun C2 => ?_) (fun C2 => ?_)
  ·
   replace H := ifT C2 H
   obtain ⟨v6, hv6, H⟩ := bindE H
   refine AWP_sr tok [] [4] (fun a σ => a = [(4, .int .i64 (isub .i64 p0 v6))] ∧ σ = hp E0 [] (N0 + 27)) (fun K hK => ?_) ?_
   ·
    skip
    simp -dsimp -implicitDefEqProofs (maxDischargeDepth := 6) [hv6]
    exact hK _ _ ⟨rfl, rfl⟩
   rintro a σ ⟨rfl, rfl⟩
   replace H := Option.some.inj H; subst H
   refine AWP_kp [4] [(4, .int .i64 (isub .i64 p0 v6))] rfl ?_
   refine AWP_ret ?_
   exact ⟨[.int .i64 (isub .i64 p0 v6)], by simp, 4, by simp [encL_nil]⟩
  ·
   replace H := ifF C2 H
   refine AWP_skip ?_
   show K2 _ _
   refine keepE (l := [0]) (x := [(0, .int .i64 p0)]) rfl fun a' ha => ?_
   refine hK2 _ _ ?_; rw [ha]
   refine Rc.mk ?_
   refine AWP_sr tok [] [4] (fun a σ => a = [(4, .int .i64 p0)] ∧ σ = hp E0 [] (N0 + 24)) (fun K hK => ?_) ?_
   ·
    skip
    simp -dsimp -implicitDefEqProofs (maxDischargeDepth := 6)
    exact hK _ _ ⟨rfl, rfl⟩
   rintro a σ ⟨rfl, rfl⟩
   replace H := Option.some.inj H; subst H
   refine AWP_kp [4] [(4, .int .i64 p0)] rfl ?_
   refine AWP_ret ?_
   exact ⟨[.int .i64 p0], by simp, 4, by simp [encL_nil]⟩
theorem c58 {p0 : Int} {r : Int} (H : i_Wrap p0 = some r) : APure Tryd.prog G 58 [.int .i64 p0] (.int .i64 r) := by
 refine APure_fn (fun N0 => ?_) (by simp)
 refine ACalls_fn tok Tryd.func58 (by kernel_rfl) rfl Tryd.ntmps58 Tryd.results58 rfl ?_
 simp only [argsA, Nat.reduceAdd, hp_next]
 unfold i_Wrap at H
 refine AWP_sr tok [] [0] (fun a σ => a = [(0, .int .i64 p0)] ∧ σ = hp E0 [] (N0 + 1)) (fun K hK => ?_) ?_
 ·
  skip
  simp -dsimp -implicitDefEqProofs (maxDischargeDepth := 6)
  exact hK _ _ ⟨rfl, rfl⟩
 rintro a σ ⟨rfl, rfl⟩
 refine AWP_sr tok [] [2] (fun a σ => a = [(2, .int .i64 (iconv .i64 (iconv .i32 p0)))] ∧ σ = hp E0 [] (N0 + 5)) (fun K hK => ?_) ?_
 ·
  skip
  simp -dsimp -implicitDefEqProofs (maxDischargeDepth := 6)
  exact hK _ _ ⟨rfl, rfl⟩
 rintro a σ ⟨rfl, rfl⟩
 replace H := Option.some.inj H; subst H
 refine AWP_kp [2] [(2, .int .i64 (iconv .i64 (iconv .i32 p0)))] rfl ?_
 refine AWP_ret ?_
 exact ⟨[.int .i64 (iconv .i64 (iconv .i32 p0))], by simp, 4, by simp [encL_nil]⟩
theorem c74 {p0 : Int} {p1 : Int} {r : (List gInstr)} (H : i_constInstrs p0 p1 = some r) : APure Tryd.prog G 74 [.int .i64 p0, .int .i64 p1] (.fsl (encL rInstr r)) := by
 refine APure_fn (fun N0 => ?_) (by simp)
 refine ACalls_fn tok Tryd.func74 (by kernel_rfl) rfl Tryd.ntmps74 Tryd.results74 rfl ?_
 simp only [argsA, Nat.reduceAdd, hp_next]
 unfold i_constInstrs at H
 refine AWP_sr tok [] [0, 1] (fun a σ => a = [(0, .int .i64 p0), (1, .int .i64 p1)] ∧ σ = hp E0 [] (N0 + 1)) (fun K hK => ?_) ?_
 ·
  skip
  simp -dsimp -implicitDefEqProofs (maxDischargeDepth := 6)
  exact hK _ _ ⟨rfl, rfl⟩
 rintro a σ ⟨rfl, rfl⟩
 refine AWP_sq [0, 1] fun K1 hK1 => ?_
 obtain ⟨g1, hg1, H⟩ := bindE H
 refine AWP_sr tok [] [0, 1, 12] (fun a σ => a = [(0, .int .i64 p0), (1, .int .i64 p1), (12, .bool g1)] ∧ σ = hp E0 [] (N0 + 7)) (fun K hK => ?_) ?_
 ·
  skip
  simp -dsimp -implicitDefEqProofs (maxDischargeDepth := 6)
  cases hbg1 : ige p1 (-2048)
  ·
   replace hg1 := ifF hbg1 hg1
   replace hg1 := Option.some.inj hg1; subst hg1
   try simp -dsimp -implicitDefEqProofs (maxDischargeDepth := 6) [hbg1]
   exact hK _ _ ⟨rfl, rfl⟩
  ·
   replace hg1 := ifT hbg1 hg1
   replace hg1 := Option.some.inj hg1; subst hg1
   try simp -dsimp -implicitDefEqProofs (maxDischargeDepth := 6) [hbg1]
   exact hK _ _ ⟨rfl, rfl⟩
 rintro a σ ⟨rfl, rfl⟩
 refine AWP_cond g1 rfl (fun C1 => ?_) (fun C1 => ?_)
 ·
  replace H := ifT C1 H
  obtain ⟨r2, hr2, H⟩ := bindE H
  have q0 : ∀ σ i, buildSliceA T 29 true i 1 [(0, .agg [.int .i64 r2.Op, .int .i64 r2.Rd, .int .i64 r2.Rs, .int .i64 r2.Rt, .int .i64 r2.Imm])] σ = some (.fsl (encL rInstr ([r2] : List gInstr)), σ) := fun _ _ => rfl
  refine AWP_sr tok [3] [4] (fun a σ => a = [(4, .fsl (encL rInstr ([r2] : List gInstr)))] ∧ σ = hp E0 [] (N0 + 12)) (fun K hK => ?_) ?_
  ·
   skip
   simp -dsimp -implicitDefEqProofs (maxDischargeDepth := 6) [q0]
   refine (c119 hr2).app ?_; try simp -dsimp -implicitDefEqProofs (maxDischargeDepth := 6) [q0]
   exact hK _ _ ⟨rfl, rfl⟩
  rintro a σ ⟨rfl, rfl⟩
  replace H := Option.some.inj H; subst H
  refine AWP_kp [4] [(4, .fsl (encL rInstr ([r2] : List gInstr)))] rfl ?_
  refine AWP_ret ?_
  exact ⟨[.fsl (encL rInstr ([r2] : List gInstr))], by simp, 4, by simp [encL_nil]⟩
 ·
  replace H := ifF C1 H
  refine AWP_skip ?_
  show K1 _ _
  refine keepE (l := [0, 1]) (x := [(0, .int .i64 p0), (1, .int .i64 p1)]) rfl fun a' ha => ?_
  refine hK1 _ _ ?_; rw [ha]
  refine Rc.mk ?_
  obtain ⟨r3, hr3, H⟩ := bindE H
  obtain ⟨r4, hr4, H⟩ := bindE H
  obtain ⟨r5, hr5, H⟩ := bindE H
  refine AWP_sr tok [] [0, 1, 5] (fun a σ => a = [(0, .int .i64 p0), (1, .int .i64 p1), (5, .int .i64 r5)] ∧ σ = hp E0 [] (N0 + 12)) (fun K hK => ?_) ?_
  ·
   skip
   simp -dsimp -implicitDefEqProofs (maxDischargeDepth := 6)
   refine (c128 hr3).app ?_; try simp -dsimp -implicitDefEqProofs (maxDischargeDepth := 6)
   refine (c127 hr4).app ?_; try simp -dsimp -implicitDefEqProofs (maxDischargeDepth := 6)
   refine (c126 hr5).app ?_; try simp -dsimp -implicitDefEqProofs (maxDischargeDepth := 6)
   exact hK _ _ ⟨rfl, rfl⟩
  rintro a σ ⟨rfl, rfl⟩
  obtain ⟨r6, hr6, H⟩ := bindE H
  obtain ⟨r7, hr7, H⟩ := bindE H
  obtain ⟨r8, hr8, H⟩ := bindE H
  refine AWP_sr tok [] [0, 5, 6] (fun a σ => a = [(0, .int .i64 p0), (5, .int .i64 r5), (6, .int .i64 r8)] ∧ σ = hp E0 [] (N0 + 19)) (fun K hK => ?_) ?_
  ·
   skip
   simp -dsimp -implicitDefEqProofs (maxDischargeDepth := 6)
   refine (c58 hr6).app ?_; try simp -dsimp -implicitDefEqProofs (maxDischargeDepth := 6)
   refine (c128 hr7).app ?_; try simp -dsimp -implicitDefEqProofs (maxDischargeDepth := 6)
   refine (c127 hr8).app ?_; try simp -dsimp -implicitDefEqProofs (maxDischargeDepth := 6)
   exact hK _ _ ⟨rfl, rfl⟩
  rintro a σ ⟨rfl, rfl⟩
  obtain ⟨r9, hr9, H⟩ := bindE H
  have q1 : ∀ σ i, buildSliceA T 29 true i 2 [(0, .agg [.int .i64 19, .int .i64 p0, .int .i64 0, .int .i64 0, .int .i64 r8]), (1, .agg [.int .i64 r9.Op, .int .i64 r9.Rd, .int .i64 r9.Rs, .int .i64 r9.Rt, .int .i64 r9.Imm])] σ = some (.fsl (encL rInstr ([(⟨19, p0, 0, 0, r8⟩ : gInstr), r9] : List gInstr)), σ) := fun _ _ => rfl
  refine AWP_sr tok [7] [4] (fun a σ => a = [(4, .fsl (encL rInstr ([(⟨19, p0, 0, 0, r8⟩ : gInstr), r9] : List gInstr)))] ∧ σ = hp E0 [] (N0 + 28)) (fun K hK => ?_) ?_
  ·
   skip
   simp -dsimp -implicitDefEqProofs (maxDischargeDepth := 6) [q1]
   refine (c119 hr9).app ?_; try simp -dsimp -implicitDefEqProofs (maxDischargeDepth := 6) [q1]
   exact hK _ _ ⟨rfl, rfl⟩
  rintro a σ ⟨rfl, rfl⟩
  replace H := Option.some.inj H; subst H
  refine AWP_kp [4] [(4, .fsl (encL rInstr ([(⟨19, p0, 0, 0, r8⟩ : gInstr), r9] : List gInstr)))] rfl ?_
  refine AWP_ret ?_
  exact ⟨[.fsl (encL rInstr ([(⟨19, p0, 0, 0, r8⟩ : gInstr), r9] : List gInstr))], by simp, 4, by simp [encL_nil]⟩
theorem c116 {p0 : Int} {pf0 : gQuad} {r : (List gInstr)} (H : i_quadInstrs_1 p0 pf0 = some r) : APure Tryd.prog G 116 [.int .i64 p0, .fptr [.int .i64 pf0.Op, .int .i64 pf0.Dst, .int .i64 pf0.A, .int .i64 pf0.B, .int .i64 pf0.N] 0] (.fsl (encL rInstr r)) := by
 refine APure_fn (fun N0 => ?_) (by simp)
 refine ACalls_fn tok Tryd.func116 (by kernel_rfl) rfl Tryd.ntmps116 Tryd.results116 rfl ?_
 simp only [argsA, Nat.reduceAdd, hp_next]
 unfold i_quadInstrs_1 at H
 refine AWP_sr tok [] [0, 1] (fun a σ => a = [(0, .int .i64 p0), (1, .fptr [.int .i64 pf0.Op, .int .i64 pf0.Dst, .int .i64 pf0.A, .int .i64 pf0.B, .int .i64 pf0.N] 0)] ∧ σ = hp E0 [] (N0 + 1)) (fun K hK => ?_) ?_
 ·
  skip
  simp -dsimp -implicitDefEqProofs (maxDischargeDepth := 6)
  exact hK _ _ ⟨rfl, rfl⟩
 rintro a σ ⟨rfl, rfl⟩
 obtain ⟨r1, hr1, H⟩ := bindE H
 refine AWP_sr tok [] [3] (fun a σ => a = [(3, .fsl (encL rInstr r1))] ∧ σ = hp E0 [] (N0 + 6)) (fun K hK => ?_) ?_
 ·
  skip
  simp -dsimp -implicitDefEqProofs (maxDischargeDepth := 6)
  refine (c74 hr1).app ?_; try simp -dsimp -implicitDefEqProofs (maxDischargeDepth := 6)
  exact hK _ _ ⟨rfl, rfl⟩
 rintro a σ ⟨rfl, rfl⟩
 replace H := Option.some.inj H; subst H
 refine AWP_kp [3] [(3, .fsl (encL rInstr r1))] rfl ?_
 refine AWP_ret ?_
 exact ⟨[.fsl (encL rInstr r1)], by simp, 4, by simp [encL_nil]⟩
theorem c122 {p0 : gEmitter} {p1 : (List gInstr)} {r : gEmitter} (H : i_emitter_emit p0 p1 = some r) {σ : AHeap} {w0 : Nat} {W0 : List (List AV)} {r0_ : Nat} (q0 : σ.objs w0 = some ⟨129, 2, W0⟩) (g0 : W0[r0_]? = some [.int .i64 p0.colors, .osl 47 5 (encL rInstr p0.list)]) : ACalls Tryd.prog G 122 [.ptr w0 r0_ 0, .fsl (encL rInstr p1)] σ (fun v σ' => ∃ M : Nat, σ.next ≤ M ∧ v = .tup [] ∧ σ' = hp σ.objs [(w0, some ⟨129, 2, W0.set r0_ [.int .i64 r.colors, .osl 47 5 (encL rInstr r.list)]⟩)] M) := by
 refine ACalls_fr (L := [(w0, some ⟨129, 2, W0⟩)]) (Q1 := fun v σ' => ∃ M : Nat, σ.next ≤ M ∧ v = .tup [] ∧ σ' = hp E0 [(w0, some ⟨129, 2, W0.set r0_ [.int .i64 r.colors, .osl 47 5 (encL rInstr r.list)]⟩)] M) (by simp [q0]) (fun hlt => ?_) ?_ ⟨_, Tryd.func122, rfl, rfl⟩
 rotate_left
 ·
  rintro v σ1 ⟨M, h0, rfl, rfl⟩
  exact ⟨_, M, rfl, by simp, by simp; try omega, M, h0, rfl, rfl⟩
 generalize σ.next = N0 at hlt ⊢
 have lw0 : w0 < N0 := hlt _ (.head _) rfl
 have gs_W0 : ∀ x, (W0.set r0_ x)[r0_]? = some x := gsetW g0
 rw [show W0 = W0.set r0_ [.int .i64 p0.colors, .osl 47 5 (encL rInstr p0.list)] from (set_same g0).symm]
 refine ACalls_fn tok Tryd.func122 (by kernel_rfl) rfl Tryd.ntmps122 Tryd.results122 rfl ?_
 simp only [argsA, Nat.reduceAdd, hp_next]
 unfold i_emitter_emit at H
 refine AWP_end [] fun KE hKE => ?_
 refine gUnp AWP_ref (ty := 47) (sz := 5) (es := encL rInstr p0.list) (o := w0) (ob := ⟨129, 2, W0.set r0_ [.int .i64 p0.colors, .osl 47 5 (encL rInstr p0.list)]⟩) (row := [.int .i64 p0.colors, .osl 47 5 (encL rInstr p0.list)]) (r := r0_) (i := 1) [(w0, some ⟨129, 2, W0.set r0_ [.int .i64 p0.colors, .sl N0 0 p0.list.length]⟩), (N0, some ⟨47, 5, encL rInstr p0.list⟩)] (by simp (disch := omega)) (by simp (disch := omega) [gs_W0]) rfl (by simp (disch := omega) [List.set_set]) ?_
 obtain ⟨l1, hl1, H⟩ := bindE H
 refine AWP_rt tok [] [] (fun a σ => a = [] ∧ σ = hp E0 [(w0, some ⟨129, 2, W0.set r0_ [.int .i64 p0.colors, .sl (N0 + 7) 0 l1.length]⟩), (N0 + 7, some ⟨47, 5, encL rInstr l1⟩)] (N0 + 11)) (fun K hK => ?_) ?_
 ·
  skip
  have e0 := nq (a := w0) (b := N0) (by omega)
  have e1 := nq (a := w0) (b := N0 + 7) (by omega)
  simp -dsimp -implicitDefEqProofs (maxDischargeDepth := 6) [e0, e1, gs_W0, List.set_set, app29 hl1]
  exact hK _ _ ⟨rfl, rfl⟩
 rintro a σ ⟨ha, rfl⟩
 replace H := Option.some.inj H; subst H
 refine hKE _ _ ?_; rw [ha]
 refine Rc.kp [] [] rfl ?_
 refine gPk Rc_ref (k := l1.length) (o := w0) (ob := ⟨129, 2, W0.set r0_ [.int .i64 p0.colors, .sl (N0 + 7) 0 l1.length]⟩) (row := [.int .i64 p0.colors, .sl (N0 + 7) 0 l1.length]) (d := (N0 + 7)) (obd := ⟨47, 5, encL rInstr l1⟩) (r := r0_) (i := 1) [(w0, some ⟨129, 2, W0.set r0_ [.int .i64 p0.colors, .osl 47 5 (encL rInstr l1)]⟩)] (by simp (disch := omega)) (by simp (disch := omega) [gs_W0]) rfl (by simp (disch := omega)) (by simp (disch := omega)) (by first | omega | simp) (by simp (disch := omega) [List.set_set, app_set] <;> omega) (by simp (disch := omega) [List.set_set, app_set]) ?_
 refine Rc.mk ?_
 refine ⟨[], by simp [gs_W0], N0 + 11, by omega, ?_, ?_⟩
 ·
  simp [encL_nil]
 ·
  first | rfl | simp [List.set_set]
theorem c115_i_quadInstrs_1 {p0 : gEmitter} {p1 : Int} {p2_0 : gQuad} {r : gEmitter} (H : i_emitter_write_i_quadInstrs_1 p0 p1 p2_0 = some r) {σ : AHeap} {w0 : Nat} {W0 : List (List AV)} {r0_ : Nat} (q0 : σ.objs w0 = some ⟨129, 2, W0⟩) (g0 : W0[r0_]? = some [.int .i64 p0.colors, .osl 47 5 (encL rInstr p0.list)]) : ACalls Tryd.prog G 115 [.ptr w0 r0_ 0, .int .i64 p1, .clo 116 [] [.fptr [.int .i64 p2_0.Op, .int .i64 p2_0.Dst, .int .i64 p2_0.A, .int .i64 p2_0.B, .int .i64 p2_0.N] 0]] σ (fun v σ' => ∃ M : Nat, σ.next ≤ M ∧ v = .tup [] ∧ σ' = hp σ.objs [(w0, some ⟨129, 2, W0.set r0_ [.int .i64 r.colors, .osl 47 5 (encL rInstr r.list)]⟩)] M) := by
 refine ACalls_fr (L := [(w0, some ⟨129, 2, W0⟩)]) (Q1 := fun v σ' => ∃ M : Nat, σ.next ≤ M ∧ v = .tup [] ∧ σ' = hp E0 [(w0, some ⟨129, 2, W0.set r0_ [.int .i64 r.colors, .osl 47 5 (encL rInstr r.list)]⟩)] M) (by simp [q0]) (fun hlt => ?_) ?_ ⟨_, Tryd.func115, rfl, rfl⟩
 rotate_left
 ·
  rintro v σ1 ⟨M, h0, rfl, rfl⟩
  exact ⟨_, M, rfl, by simp, by simp; try omega, M, h0, rfl, rfl⟩
 generalize σ.next = N0 at hlt ⊢
 have lw0 : w0 < N0 := hlt _ (.head _) rfl
 have gs_W0 : ∀ x, (W0.set r0_ x)[r0_]? = some x := gsetW g0
 rw [show W0 = W0.set r0_ [.int .i64 p0.colors, .osl 47 5 (encL rInstr p0.list)] from (set_same g0).symm]
 refine ACalls_fn tok Tryd.func115 (by kernel_rfl) rfl Tryd.ntmps115 Tryd.results115 rfl ?_
 simp only [argsA, Nat.reduceAdd, hp_next]
 unfold i_emitter_write_i_quadInstrs_1 at H
 refine AWP_end [] fun KE hKE => ?_
 refine AWP_sq [0, 1, 2] fun K1 hK1 => ?_
 refine AWP_sr tok [] [0, 1, 2, 11] (fun a σ => a = [(0, .ptr w0 r0_ 0), (1, .int .i64 p1), (2, .clo 116 [] [.fptr [.int .i64 p2_0.Op, .int .i64 p2_0.Dst, .int .i64 p2_0.A, .int .i64 p2_0.B, .int .i64 p2_0.N] 0]), (11, .bool (ilt p1 p0.colors))] ∧ σ = hp E0 [(w0, some ⟨129, 2, W0.set r0_ [.int .i64 p0.colors, .osl 47 5 (encL rInstr p0.list)]⟩)] (N0 + 6)) (fun K hK => ?_) ?_
 ·
  skip
  simp -dsimp -implicitDefEqProofs (maxDischargeDepth := 6) [gs_W0, List.set_set]
  exact hK _ _ ⟨rfl, rfl⟩
 rintro a σ ⟨rfl, rfl⟩
 refine AWP_cond (ilt p1 p0.colors) rfl (fun C1 => ?_) (fun C1 => ?_)
 ·
  replace H := ifT C1 H
  obtain ⟨v1, hv1, H⟩ := bindE H
  obtain ⟨r2, hr2, H⟩ := bindE H
  obtain ⟨r3, hr3, H⟩ := bindE H
  refine AWP_sr tok [] [] (fun a σ => ∃ M1 : Nat, N0 + 13 ≤ M1 ∧ a = [] ∧ σ = hp E0 [(w0, some ⟨129, 2, W0.set r0_ [.int .i64 r3.colors, .osl 47 5 (encL rInstr r3.list)]⟩)] M1) (fun K hK => ?_) ?_
  ·
   skip
   simp -dsimp -implicitDefEqProofs (maxDischargeDepth := 6) [gs_W0, List.set_set, gx157 hv1]
   refine (c116 hr2).app ?_; try simp -dsimp -implicitDefEqProofs (maxDischargeDepth := 6) [gs_W0, List.set_set, gx157 hv1]
   refine (c122 (W0 := W0.set r0_ [.int .i64 p0.colors, .osl 47 5 (encL rInstr p0.list)]) (r0_ := r0_) (H := hr3) (by simp [gs_W0, List.set_set, gx157 hv1]) (by simp [gs_W0, List.set_set, gx157 hv1])).mono ?_; rintro _ _ ⟨M1, fM1_0, rfl, rfl⟩; simp only [hp_next] at fM1_0
   try simp -dsimp -implicitDefEqProofs (maxDischargeDepth := 6) [gs_W0, List.set_set, gx157 hv1, hp_over_some, hp_over_none]
   exact hK _ _ ⟨M1, (by omega), rfl, rfl⟩
  rintro a σ ⟨M1, fM1_0, rfl, rfl⟩
  replace H := Option.some.inj H; subst H
  refine AWP_kp [] [] rfl ?_
  refine AWP_ret ?_
  refine ⟨[], by simp [gs_W0], M1, by omega, ?_, ?_⟩
  ·
   simp [encL_nil]
  ·
   first | rfl | simp [List.set_set]
 ·
  replace H := ifF C1 H
  refine AWP_skip ?_
  show K1 _ _
  refine keepE (l := [0, 1, 2]) (x := [(0, .ptr w0 r0_ 0), (1, .int .i64 p1), (2, .clo 116 [] [.fptr [.int .i64 p2_0.Op, .int .i64 p2_0.Dst, .int .i64 p2_0.A, .int .i64 p2_0.B, .int .i64 p2_0.N] 0])]) rfl fun a' ha => ?_
  refine hK1 _ _ ?_; rw [ha]
  refine Rc.mk ?_
  obtain ⟨r4, hr4, H⟩ := bindE H
  obtain ⟨r5, hr5, H⟩ := bindE H
  refine AWP_sr tok [] [0, 1] (fun a σ => ∃ M2 : Nat, N0 + 10 ≤ M2 ∧ a = [(0, .ptr w0 r0_ 0), (1, .int .i64 p1)] ∧ σ = hp E0 [(w0, some ⟨129, 2, W0.set r0_ [.int .i64 r5.colors, .osl 47 5 (encL rInstr r5.list)]⟩)] M2) (fun K hK => ?_) ?_
  ·
   skip
   simp -dsimp -implicitDefEqProofs (maxDischargeDepth := 6) [gs_W0, List.set_set]
   refine (c116 hr4).app ?_; try simp -dsimp -implicitDefEqProofs (maxDischargeDepth := 6) [gs_W0, List.set_set]
   refine (c122 (W0 := W0.set r0_ [.int .i64 p0.colors, .osl 47 5 (encL rInstr p0.list)]) (r0_ := r0_) (H := hr5) (by simp [gs_W0, List.set_set]) (by simp [gs_W0, List.set_set])).mono ?_; rintro _ _ ⟨M2, fM2_0, rfl, rfl⟩; simp only [hp_next] at fM2_0
   try simp -dsimp -implicitDefEqProofs (maxDischargeDepth := 6) [gs_W0, List.set_set, hp_over_some, hp_over_none]
   exact hK _ _ ⟨M2, (by omega), rfl, rfl⟩
  rintro a σ ⟨M2, fM2_0, rfl, rfl⟩
  obtain ⟨r6, hr6, H⟩ := bindE H
  have q0 : ∀ σ i, buildSliceA T 29 true i 1 [(0, .agg [.int .i64 16, .int .i64 0, .int .i64 2, .int .i64 7, .int .i64 (imul .i64 4 (isub .i64 p1 r5.colors))])] σ = some (.fsl (encL rInstr ([(⟨16, 0, 2, 7, imul .i64 4 (isub .i64 p1 r5.colors)⟩ : gInstr)] : List gInstr)), σ) := fun _ _ => rfl
  refine AWP_rt tok [9] [] (fun a σ => ∃ M3 : Nat, M2 + 11 ≤ M3 ∧ a = [] ∧ σ = hp E0 [(w0, some ⟨129, 2, W0.set r0_ [.int .i64 r6.colors, .osl 47 5 (encL rInstr r6.list)]⟩)] M3) (fun K hK => ?_) ?_
  ·
   skip
   simp -dsimp -implicitDefEqProofs (maxDischargeDepth := 6) [gs_W0, List.set_set, q0]
   refine (c122 (W0 := W0.set r0_ [.int .i64 r5.colors, .osl 47 5 (encL rInstr r5.list)]) (r0_ := r0_) (H := hr6) (by simp [gs_W0, List.set_set, q0]) (by simp [gs_W0, List.set_set, q0])).mono ?_; rintro _ _ ⟨M3, fM3_0, rfl, rfl⟩; simp only [hp_next] at fM3_0
   try simp -dsimp -implicitDefEqProofs (maxDischargeDepth := 6) [gs_W0, List.set_set, q0, hp_over_some, hp_over_none]
   exact hK _ _ ⟨M3, (by omega), rfl, rfl⟩
  rintro a σ ⟨M3, fM3_0, ha, rfl⟩
  replace H := Option.some.inj H; subst H
  refine hKE _ _ ?_; rw [ha]
  refine Rc.kp [] [] rfl ?_
  refine Rc.mk ?_
  refine ⟨[], by simp [gs_W0], M3, by omega, ?_, ?_⟩
  ·
   simp [encL_nil]
  ·
   first | rfl | simp [List.set_set]
theorem c117 {p0 : gEmitter} {p1 : Int} {p2 : Int} {r : Int × gEmitter} (H : i_emitter_read p0 p1 p2 = some r) {σ : AHeap} {w0 : Nat} {W0 : List (List AV)} {r0_ : Nat} (q0 : σ.objs w0 = some ⟨129, 2, W0⟩) (g0 : W0[r0_]? = some [.int .i64 p0.colors, .osl 47 5 (encL rInstr p0.list)]) : ACalls Tryd.prog G 117 [.ptr w0 r0_ 0, .int .i64 p1, .int .i64 p2] σ (fun v σ' => ∃ M : Nat, σ.next ≤ M ∧ v = .int .i64 r.1 ∧ σ' = hp σ.objs [(w0, some ⟨129, 2, W0.set r0_ [.int .i64 r.2.colors, .osl 47 5 (encL rInstr r.2.list)]⟩)] M) := by
 refine ACalls_fr (L := [(w0, some ⟨129, 2, W0⟩)]) (Q1 := fun v σ' => ∃ M : Nat, σ.next ≤ M ∧ v = .int .i64 r.1 ∧ σ' = hp E0 [(w0, some ⟨129, 2, W0.set r0_ [.int .i64 r.2.colors, .osl 47 5 (encL rInstr r.2.list)]⟩)] M) (by simp [q0]) (fun hlt => ?_) ?_ ⟨_, Tryd.func117, rfl, rfl⟩
 rotate_left
 ·
  rintro v σ1 ⟨M, h0, rfl, rfl⟩
  exact ⟨_, M, rfl, by simp, by simp; try omega, M, h0, rfl, rfl⟩
 generalize σ.next = N0 at hlt ⊢
 have lw0 : w0 < N0 := hlt _ (.head _) rfl
 have gs_W0 : ∀ x, (W0.set r0_ x)[r0_]? = some x := gsetW g0
 rw [show W0 = W0.set r0_ [.int .i64 p0.colors, .osl 47 5 (encL rInstr p0.list)] from (set_same g0).symm]
 refine ACalls_fn tok Tryd.func117 (by kernel_rfl) rfl Tryd.ntmps117 Tryd.results117 rfl ?_
 simp only [argsA, Nat.reduceAdd, hp_next]
 unfold i_emitter_read at H
 refine AWP_sr tok [] [0, 1, 2] (fun a σ => a = [(0, .ptr w0 r0_ 0), (1, .int .i64 p1), (2, .int .i64 p2)] ∧ σ = hp E0 [(w0, some ⟨129, 2, W0.set r0_ [.int .i64 p0.colors, .osl 47 5 (encL rInstr p0.list)]⟩)] (N0 + 1)) (fun K hK => ?_) ?_
 ·
  skip
  simp -dsimp -implicitDefEqProofs (maxDischargeDepth := 6) [gs_W0, List.set_set]
  exact hK _ _ ⟨rfl, rfl⟩
 rintro a σ ⟨rfl, rfl⟩
 refine AWP_sq [0, 1, 2] fun K1 hK1 => ?_
 refine AWP_sr tok [] [0, 1, 2, 12] (fun a σ => a = [(0, .ptr w0 r0_ 0), (1, .int .i64 p1), (2, .int .i64 p2), (12, .bool (ilt p1 p0.colors))] ∧ σ = hp E0 [(w0, some ⟨129, 2, W0.set r0_ [.int .i64 p0.colors, .osl 47 5 (encL rInstr p0.list)]⟩)] (N0 + 7)) (fun K hK => ?_) ?_
 ·
  skip
  simp -dsimp -implicitDefEqProofs (maxDischargeDepth := 6) [gs_W0, List.set_set]
  exact hK _ _ ⟨rfl, rfl⟩
 rintro a σ ⟨rfl, rfl⟩
 refine AWP_cond (ilt p1 p0.colors) rfl (fun C1 => ?_) (fun C1 => ?_)
 ·
  replace H := ifT C1 H
  obtain ⟨v1, hv1, H⟩ := bindE H
  refine AWP_sr tok [] [6] (fun a σ => a = [(6, .int .i64 v1)] ∧ σ = hp E0 [(w0, some ⟨129, 2, W0.set r0_ [.int .i64 p0.colors, .osl 47 5 (encL rInstr p0.list)]⟩)] (N0 + 11)) (fun K hK => ?_) ?_
  ·
   skip
   simp -dsimp -implicitDefEqProofs (maxDischargeDepth := 6) [gs_W0, List.set_set, gx157 hv1]
   exact hK _ _ ⟨rfl, rfl⟩
  rintro a σ ⟨rfl, rfl⟩
  replace H := Option.some.inj H; subst H
  refine AWP_kp [6] [(6, .int .i64 v1)] rfl ?_
  refine AWP_ret ?_
  refine ⟨[.int .i64 v1], by simp [gs_W0], N0 + 11, by omega, ?_, ?_⟩
  ·
   simp [encL_nil]
  ·
   first | rfl | simp [List.set_set]
 ·
  replace H := ifF C1 H
  refine AWP_skip ?_
  show K1 _ _
  refine keepE (l := [0, 1, 2]) (x := [(0, .ptr w0 r0_ 0), (1, .int .i64 p1), (2, .int .i64 p2)]) rfl fun a' ha => ?_
  refine hK1 _ _ ?_; rw [ha]
  refine Rc.mk ?_
  obtain ⟨r2, hr2, H⟩ := bindE H
  have q0 : ∀ σ i, buildSliceA T 29 true i 1 [(0, .agg [.int .i64 14, .int .i64 p2, .int .i64 2, .int .i64 0, .int .i64 (imul .i64 4 (isub .i64 p1 p0.colors))])] σ = some (.fsl (encL rInstr ([(⟨14, p2, 2, 0, imul .i64 4 (isub .i64 p1 p0.colors)⟩ : gInstr)] : List gInstr)), σ) := fun _ _ => rfl
  refine AWP_sr tok [10] [2] (fun a σ => ∃ M1 : Nat, N0 + 19 ≤ M1 ∧ a = [(2, .int .i64 p2)] ∧ σ = hp E0 [(w0, some ⟨129, 2, W0.set r0_ [.int .i64 r2.colors, .osl 47 5 (encL rInstr r2.list)]⟩)] M1) (fun K hK => ?_) ?_
  ·
   skip
   simp -dsimp -implicitDefEqProofs (maxDischargeDepth := 6) [gs_W0, List.set_set, q0]
   refine (c122 (W0 := W0.set r0_ [.int .i64 p0.colors, .osl 47 5 (encL rInstr p0.list)]) (r0_ := r0_) (H := hr2) (by simp [gs_W0, List.set_set, q0]) (by simp [gs_W0, List.set_set, q0])).mono ?_; rintro _ _ ⟨M1, fM1_0, rfl, rfl⟩; simp only [hp_next] at fM1_0
   try simp -dsimp -implicitDefEqProofs (maxDischargeDepth := 6) [gs_W0, List.set_set, q0, hp_over_some, hp_over_none]
   exact hK _ _ ⟨M1, (by omega), rfl, rfl⟩
  rintro a σ ⟨M1, fM1_0, rfl, rfl⟩
  refine AWP_sr tok [] [6] (fun a σ => a = [(6, .int .i64 p2)] ∧ σ = hp E0 [(w0, some ⟨129, 2, W0.set r0_ [.int .i64 r2.colors, .osl 47 5 (encL rInstr r2.list)]⟩)] (M1 + 2)) (fun K hK => ?_) ?_
  ·
   skip
   simp -dsimp -implicitDefEqProofs (maxDischargeDepth := 6) [gs_W0, List.set_set]
   exact hK _ _ ⟨rfl, rfl⟩
  rintro a σ ⟨rfl, rfl⟩
  replace H := Option.some.inj H; subst H
  refine AWP_kp [6] [(6, .int .i64 p2)] rfl ?_
  refine AWP_ret ?_
  refine ⟨[.int .i64 p2], by simp [gs_W0], M1 + 2, by omega, ?_, ?_⟩
  ·
   simp [encL_nil]
  ·
   first | rfl | simp [List.set_set]
theorem c118 {p0 : Int} {pf0 : Int} {r : (List gInstr)} (H : i_quadInstrs_2 p0 pf0 = some r) : APure Tryd.prog G 118 [.int .i64 p0, .fptr [.int .i64 pf0] 0] (.fsl (encL rInstr r)) := by
 refine APure_fn (fun N0 => ?_) (by simp)
 refine ACalls_fn tok Tryd.func118 (by kernel_rfl) rfl Tryd.ntmps118 Tryd.results118 rfl ?_
 simp only [argsA, Nat.reduceAdd, hp_next]
 unfold i_quadInstrs_2 at H
 refine AWP_sr tok [] [0, 1] (fun a σ => a = [(0, .int .i64 p0), (1, .fptr [.int .i64 pf0] 0)] ∧ σ = hp E0 [] (N0 + 1)) (fun K hK => ?_) ?_
 ·
  skip
  simp -dsimp -implicitDefEqProofs (maxDischargeDepth := 6)
  exact hK _ _ ⟨rfl, rfl⟩
 rintro a σ ⟨rfl, rfl⟩
 obtain ⟨r1, hr1, H⟩ := bindE H
 have q0 : ∀ σ i, buildSliceA T 29 true i 1 [(0, .agg [.int .i64 r1.Op, .int .i64 r1.Rd, .int .i64 r1.Rs, .int .i64 r1.Rt, .int .i64 r1.Imm])] σ = some (.fsl (encL rInstr ([r1] : List gInstr)), σ) := fun _ _ => rfl
 refine AWP_sr tok [3] [3] (fun a σ => a = [(3, .fsl (encL rInstr ([r1] : List gInstr)))] ∧ σ = hp E0 [] (N0 + 6)) (fun K hK => ?_) ?_
 ·
  skip
  simp -dsimp -implicitDefEqProofs (maxDischargeDepth := 6) [q0]
  refine (c119 hr1).app ?_; try simp -dsimp -implicitDefEqProofs (maxDischargeDepth := 6) [q0]
  exact hK _ _ ⟨rfl, rfl⟩
 rintro a σ ⟨rfl, rfl⟩
 replace H := Option.some.inj H; subst H
 refine AWP_kp [3] [(3, .fsl (encL rInstr ([r1] : List gInstr)))] rfl ?_
 refine AWP_ret ?_
 exact ⟨[.fsl (encL rInstr ([r1] : List gInstr))], by simp, 4, by simp [encL_nil]⟩
theorem c115_i_quadInstrs_2 {p0 : gEmitter} {p1 : Int} {p2_0 : Int} {r : gEmitter} (H : i_emitter_write_i_quadInstrs_2 p0 p1 p2_0 = some r) {σ : AHeap} {w0 : Nat} {W0 : List (List AV)} {r0_ : Nat} (q0 : σ.objs w0 = some ⟨129, 2, W0⟩) (g0 : W0[r0_]? = some [.int .i64 p0.colors, .osl 47 5 (encL rInstr p0.list)]) : ACalls Tryd.prog G 115 [.ptr w0 r0_ 0, .int .i64 p1, .clo 118 [] [.fptr [.int .i64 p2_0] 0]] σ (fun v σ' => ∃ M : Nat, σ.next ≤ M ∧ v = .tup [] ∧ σ' = hp σ.objs [(w0, some ⟨129, 2, W0.set r0_ [.int .i64 r.colors, .osl 47 5 (encL rInstr r.list)]⟩)] M) := by
 refine ACalls_fr (L := [(w0, some ⟨129, 2, W0⟩)]) (Q1 := fun v σ' => ∃ M : Nat, σ.next ≤ M ∧ v = .tup [] ∧ σ' = hp E0 [(w0, some ⟨129, 2, W0.set r0_ [.int .i64 r.colors, .osl 47 5 (encL rInstr r.list)]⟩)] M) (by simp [q0]) (fun hlt => ?_) ?_ ⟨_, Tryd.func115, rfl, rfl⟩
 rotate_left
 ·
  rintro v σ1 ⟨M, h0, rfl, rfl⟩
  exact ⟨_, M, rfl, by simp, by simp; try omega, M, h0, rfl, rfl⟩
 generalize σ.next = N0 at hlt ⊢
 have lw0 : w0 < N0 := hlt _ (.head _) rfl
 have gs_W0 : ∀ x, (W0.set r0_ x)[r0_]? = some x := gsetW g0
 rw [show W0 = W0.set r0_ [.int .i64 p0.colors, .osl 47 5 (encL rInstr p0.list)] from (set_same g0).symm]
 refine ACalls_fn tok Tryd.func115 (by kernel_rfl) rfl Tryd.ntmps115 Tryd.results115 rfl ?_
 simp only [argsA, Nat.reduceAdd, hp_next]
 unfold i_emitter_write_i_quadInstrs_2 at H
 refine AWP_end [] fun KE hKE => ?_
 refine AWP_sq [0, 1, 2] fun K1 hK1 => ?_
 refine AWP_sr tok [] [0, 1, 2, 11] (fun a σ => a = [(0, .ptr w0 r0_ 0), (1, .int .i64 p1), (2, .clo 118 [] [.fptr [.int .i64 p2_0] 0]), (11, .bool (ilt p1 p0.colors))] ∧ σ = hp E0 [(w0, some ⟨129, 2, W0.set r0_ [.int .i64 p0.colors, .osl 47 5 (encL rInstr p0.list)]⟩)] (N0 + 6)) (fun K hK => ?_) ?_
 ·
  skip
  simp -dsimp -implicitDefEqProofs (maxDischargeDepth := 6) [gs_W0, List.set_set]
  exact hK _ _ ⟨rfl, rfl⟩
 rintro a σ ⟨rfl, rfl⟩
 refine AWP_cond (ilt p1 p0.colors) rfl (fun C1 => ?_) (fun C1 => ?_)
 ·
  replace H := ifT C1 H
  obtain ⟨v1, hv1, H⟩ := bindE H
  obtain ⟨r2, hr2, H⟩ := bindE H
  obtain ⟨r3, hr3, H⟩ := bindE H
  refine AWP_sr tok [] [] (fun a σ => ∃ M1 : Nat, N0 + 13 ≤ M1 ∧ a = [] ∧ σ = hp E0 [(w0, some ⟨129, 2, W0.set r0_ [.int .i64 r3.colors, .osl 47 5 (encL rInstr r3.list)]⟩)] M1) (fun K hK => ?_) ?_
  ·
   skip
   simp -dsimp -implicitDefEqProofs (maxDischargeDepth := 6) [gs_W0, List.set_set, gx157 hv1]
   refine (c118 hr2).app ?_; try simp -dsimp -implicitDefEqProofs (maxDischargeDepth := 6) [gs_W0, List.set_set, gx157 hv1]
   refine (c122 (W0 := W0.set r0_ [.int .i64 p0.colors, .osl 47 5 (encL rInstr p0.list)]) (r0_ := r0_) (H := hr3) (by simp [gs_W0, List.set_set, gx157 hv1]) (by simp [gs_W0, List.set_set, gx157 hv1])).mono ?_; rintro _ _ ⟨M1, fM1_0, rfl, rfl⟩; simp only [hp_next] at fM1_0
   try simp -dsimp -implicitDefEqProofs (maxDischargeDepth := 6) [gs_W0, List.set_set, gx157 hv1, hp_over_some, hp_over_none]
   exact hK _ _ ⟨M1, (by omega), rfl, rfl⟩
  rintro a σ ⟨M1, fM1_0, rfl, rfl⟩
  replace H := Option.some.inj H; subst H
  refine AWP_kp [] [] rfl ?_
  refine AWP_ret ?_
  refine ⟨[], by simp [gs_W0], M1, by omega, ?_, ?_⟩
  ·
   simp [encL_nil]
  ·
   first | rfl | simp [List.set_set]
 ·
  replace H := ifF C1 H
  refine AWP_skip ?_
  show K1 _ _
  refine keepE (l := [0, 1, 2]) (x := [(0, .ptr w0 r0_ 0), (1, .int .i64 p1), (2, .clo 118 [] [.fptr [.int .i64 p2_0] 0])]) rfl fun a' ha => ?_
  refine hK1 _ _ ?_; rw [ha]
  refine Rc.mk ?_
  obtain ⟨r4, hr4, H⟩ := bindE H
  obtain ⟨r5, hr5, H⟩ := bindE H
  refine AWP_sr tok [] [0, 1] (fun a σ => ∃ M2 : Nat, N0 + 10 ≤ M2 ∧ a = [(0, .ptr w0 r0_ 0), (1, .int .i64 p1)] ∧ σ = hp E0 [(w0, some ⟨129, 2, W0.set r0_ [.int .i64 r5.colors, .osl 47 5 (encL rInstr r5.list)]⟩)] M2) (fun K hK => ?_) ?_
  ·
   skip
   simp -dsimp -implicitDefEqProofs (maxDischargeDepth := 6) [gs_W0, List.set_set]
   refine (c118 hr4).app ?_; try simp -dsimp -implicitDefEqProofs (maxDischargeDepth := 6) [gs_W0, List.set_set]
   refine (c122 (W0 := W0.set r0_ [.int .i64 p0.colors, .osl 47 5 (encL rInstr p0.list)]) (r0_ := r0_) (H := hr5) (by simp [gs_W0, List.set_set]) (by simp [gs_W0, List.set_set])).mono ?_; rintro _ _ ⟨M2, fM2_0, rfl, rfl⟩; simp only [hp_next] at fM2_0
   try simp -dsimp -implicitDefEqProofs (maxDischargeDepth := 6) [gs_W0, List.set_set, hp_over_some, hp_over_none]
   exact hK _ _ ⟨M2, (by omega), rfl, rfl⟩
  rintro a σ ⟨M2, fM2_0, rfl, rfl⟩
  obtain ⟨r6, hr6, H⟩ := bindE H
  have q0 : ∀ σ i, buildSliceA T 29 true i 1 [(0, .agg [.int .i64 16, .int .i64 0, .int .i64 2, .int .i64 7, .int .i64 (imul .i64 4 (isub .i64 p1 r5.colors))])] σ = some (.fsl (encL rInstr ([(⟨16, 0, 2, 7, imul .i64 4 (isub .i64 p1 r5.colors)⟩ : gInstr)] : List gInstr)), σ) := fun _ _ => rfl
  refine AWP_rt tok [9] [] (fun a σ => ∃ M3 : Nat, M2 + 11 ≤ M3 ∧ a = [] ∧ σ = hp E0 [(w0, some ⟨129, 2, W0.set r0_ [.int .i64 r6.colors, .osl 47 5 (encL rInstr r6.list)]⟩)] M3) (fun K hK => ?_) ?_
  ·
   skip
   simp -dsimp -implicitDefEqProofs (maxDischargeDepth := 6) [gs_W0, List.set_set, q0]
   refine (c122 (W0 := W0.set r0_ [.int .i64 r5.colors, .osl 47 5 (encL rInstr r5.list)]) (r0_ := r0_) (H := hr6) (by simp [gs_W0, List.set_set, q0]) (by simp [gs_W0, List.set_set, q0])).mono ?_; rintro _ _ ⟨M3, fM3_0, rfl, rfl⟩; simp only [hp_next] at fM3_0
   try simp -dsimp -implicitDefEqProofs (maxDischargeDepth := 6) [gs_W0, List.set_set, q0, hp_over_some, hp_over_none]
   exact hK _ _ ⟨M3, (by omega), rfl, rfl⟩
  rintro a σ ⟨M3, fM3_0, ha, rfl⟩
  replace H := Option.some.inj H; subst H
  refine hKE _ _ ?_; rw [ha]
  refine Rc.kp [] [] rfl ?_
  refine Rc.mk ?_
  refine ⟨[], by simp [gs_W0], M3, by omega, ?_, ?_⟩
  ·
   simp [encL_nil]
  ·
   first | rfl | simp [List.set_set]
theorem c120 {p0 : Int} {pf0 : gQuad} {pf1 : Int} {pf2 : Int} {r : (List gInstr)} (H : i_quadInstrs_3 p0 pf0 pf1 pf2 = some r) : APure Tryd.prog G 120 [.int .i64 p0, .fptr [.int .i64 pf0.Op, .int .i64 pf0.Dst, .int .i64 pf0.A, .int .i64 pf0.B, .int .i64 pf0.N] 0, .fptr [.int .i64 pf1] 0, .fptr [.int .i64 pf2] 0] (.fsl (encL rInstr r)) := by
 refine APure_fn (fun N0 => ?_) (by simp)
 refine ACalls_fn tok Tryd.func120 (by kernel_rfl) rfl Tryd.ntmps120 Tryd.results120 rfl ?_
 simp only [argsA, Nat.reduceAdd, hp_next]
 unfold i_quadInstrs_3 at H
 refine AWP_sr tok [] [0, 1, 2, 3] (fun a σ => a = [(0, .int .i64 p0), (1, .fptr [.int .i64 pf0.Op, .int .i64 pf0.Dst, .int .i64 pf0.A, .int .i64 pf0.B, .int .i64 pf0.N] 0), (2, .fptr [.int .i64 pf1] 0), (3, .fptr [.int .i64 pf2] 0)] ∧ σ = hp E0 [] (N0 + 1)) (fun K hK => ?_) ?_
 ·
  skip
  simp -dsimp -implicitDefEqProofs (maxDischargeDepth := 6)
  exact hK _ _ ⟨rfl, rfl⟩
 rintro a σ ⟨rfl, rfl⟩
 obtain ⟨v1, hv1, H⟩ := bindE H
 obtain ⟨l2, hl2, H⟩ := bindE H
 have q0 : ∀ σ i, buildSliceA T 29 false i 1 [(0, .agg [.int .i64 v1, .int .i64 p0, .int .i64 pf1, .int .i64 pf2, .int .i64 0])] σ = some (.sl i 0 (List.length l2), σ.put i ⟨47, 5, encL rInstr l2⟩) := by rw [← Option.some.inj hl2]; intro _ _; rfl
 refine AWP_sd tok tokM [] [9] [0, 1, 2, 3, 4, 5, 6, 7, 8, 9, 10] [0, 1, 6] (fun a σ => a = [(0, .int .i64 p0), (1, .fptr [.int .i64 pf0.Op, .int .i64 pf0.Dst, .int .i64 pf0.A, .int .i64 pf0.B, .int .i64 pf0.N] 0), (6, .sl (N0 + 10) 0 l2.length)] ∧ σ = hp E0 [(N0 + 10, some ⟨47, 5, encL rInstr l2⟩)] (N0 + 12)) (by decide) (fun K hK => ?_) ?_
 ·
  simp only [pickL, nthO_succ, nthO_zero]
  simp -dsimp -implicitDefEqProofs (maxDischargeDepth := 6) [gx134 hv1, q0]
  exact hK _ _ ⟨rfl, rfl⟩
 rintro a σ ⟨rfl, rfl⟩
 refine AWP_sq [6] fun K1 hK1 => ?_
 refine AWP_sr tok [] [0, 6, 19] (fun a σ => a = [(0, .int .i64 p0), (6, .sl (N0 + 10) 0 l2.length), (19, .bool (ieq pf0.N 4))] ∧ σ = hp E0 [(N0 + 10, some ⟨47, 5, encL rInstr l2⟩)] (N0 + 15)) (fun K hK => ?_) ?_
 ·
  skip
  simp -dsimp -implicitDefEqProofs (maxDischargeDepth := 6)
  exact hK _ _ ⟨rfl, rfl⟩
 rintro a σ ⟨rfl, rfl⟩
 refine AWP_cond (ieq pf0.N 4) rfl (fun C1 => ?_) (fun C1 => ?_)
 ·
  replace H := ifT C1 H
  obtain ⟨l3, hl3, H⟩ := bindE H
  have q1 : ∀ σ i, buildSliceA T 29 true i 1 [(0, .agg [.int .i64 13, .int .i64 p0, .int .i64 p0, .int .i64 0, .int .i64 1])] σ = some (.fsl (encL rInstr ([(⟨13, p0, p0, 0, 1⟩ : gInstr)] : List gInstr)), σ) := fun _ _ => rfl
  refine AWP_rt tok [4] [6] (fun a σ => a = [(6, .sl (N0 + 20) 0 l3.length)] ∧ σ = hp E0 [(N0 + 20, some ⟨47, 5, encL rInstr l3⟩)] (N0 + 22)) (fun K hK => ?_) ?_
  ·
   skip
   simp -dsimp -implicitDefEqProofs (maxDischargeDepth := 6) [q1, app29 hl3]
   exact hK _ _ ⟨rfl, rfl⟩
  rintro a σ ⟨ha, rfl⟩
  refine hK1 _ _ ?_; rw [ha]
  refine gFrz Rc_ref 4 [N0 + 20] [] [(6, .fsl (encL rInstr l3))] (by simp) (cutD (by simp)) ?_
  refine Rc.mk ?_
  refine AWP_sr tok [] [5] (fun a σ => a = [(5, .fsl (encL rInstr l3))] ∧ σ = hp E0 [] (N0 + 24)) (fun K hK => ?_) ?_
  ·
   skip
   simp -dsimp -implicitDefEqProofs (maxDischargeDepth := 6)
   exact hK _ _ ⟨rfl, rfl⟩
  rintro a σ ⟨rfl, rfl⟩
  replace H := Option.some.inj H; subst H
  refine AWP_kp [5] [(5, .fsl (encL rInstr l3))] rfl ?_
  refine AWP_ret ?_
  exact ⟨[.fsl (encL rInstr l3)], by simp, 4, by simp [encL_nil]⟩
 ·
  replace H := ifF C1 H
  refine AWP_skip ?_
  show K1 _ _
  refine keepE (l := [6]) (x := [(6, .sl (N0 + 10) 0 l2.length)]) rfl fun a' ha => ?_
  refine hK1 _ _ ?_; rw [ha]
  refine Rc.mk ?_
  refine AWP_sr tok [] [5] (fun a σ => a = [(5, .sl (N0 + 10) 0 l2.length)] ∧ σ = hp E0 [(N0 + 10, some ⟨47, 5, encL rInstr l2⟩)] (N0 + 17)) (fun K hK => ?_) ?_
  ·
   skip
   simp -dsimp -implicitDefEqProofs (maxDischargeDepth := 6)
   exact hK _ _ ⟨rfl, rfl⟩
  rintro a σ ⟨rfl, rfl⟩
  replace H := Option.some.inj H; subst H
  refine AWP_kp [5] [(5, .sl (N0 + 10) 0 l2.length)] rfl ?_
  refine AWP_ret ?_
  exact ⟨[.sl (N0 + 10) 0 l2.length], by simp, 4, by simp [encL_nil]⟩
theorem c115_i_quadInstrs_3 {p0 : gEmitter} {p1 : Int} {p2_0 : gQuad} {p2_1 : Int} {p2_2 : Int} {r : gEmitter} (H : i_emitter_write_i_quadInstrs_3 p0 p1 p2_0 p2_1 p2_2 = some r) {σ : AHeap} {w0 : Nat} {W0 : List (List AV)} {r0_ : Nat} (q0 : σ.objs w0 = some ⟨129, 2, W0⟩) (g0 : W0[r0_]? = some [.int .i64 p0.colors, .osl 47 5 (encL rInstr p0.list)]) : ACalls Tryd.prog G 115 [.ptr w0 r0_ 0, .int .i64 p1, .clo 120 [] [.fptr [.int .i64 p2_0.Op, .int .i64 p2_0.Dst, .int .i64 p2_0.A, .int .i64 p2_0.B, .int .i64 p2_0.N] 0, .fptr [.int .i64 p2_1] 0, .fptr [.int .i64 p2_2] 0]] σ (fun v σ' => ∃ M : Nat, σ.next ≤ M ∧ v = .tup [] ∧ σ' = hp σ.objs [(w0, some ⟨129, 2, W0.set r0_ [.int .i64 r.colors, .osl 47 5 (encL rInstr r.list)]⟩)] M) := by
 refine ACalls_fr (L := [(w0, some ⟨129, 2, W0⟩)]) (Q1 := fun v σ' => ∃ M : Nat, σ.next ≤ M ∧ v = .tup [] ∧ σ' = hp E0 [(w0, some ⟨129, 2, W0.set r0_ [.int .i64 r.colors, .osl 47 5 (encL rInstr r.list)]⟩)] M) (by simp [q0]) (fun hlt => ?_) ?_ ⟨_, Tryd.func115, rfl, rfl⟩
 rotate_left
 ·
  rintro v σ1 ⟨M, h0, rfl, rfl⟩
  exact ⟨_, M, rfl, by simp, by simp; try omega, M, h0, rfl, rfl⟩
 generalize σ.next = N0 at hlt ⊢
 have lw0 : w0 < N0 := hlt _ (.head _) rfl
 have gs_W0 : ∀ x, (W0.set r0_ x)[r0_]? = some x := gsetW g0
 rw [show W0 = W0.set r0_ [.int .i64 p0.colors, .osl 47 5 (encL rInstr p0.list)] from (set_same g0).symm]
 refine ACalls_fn tok Tryd.func115 (by kernel_rfl) rfl Tryd.ntmps115 Tryd.results115 rfl ?_
 simp only [argsA, Nat.reduceAdd, hp_next]
 unfold i_emitter_write_i_quadInstrs_3 at H
 refine AWP_end [] fun KE hKE => ?_
 refine AWP_sq [0, 1, 2] fun K1 hK1 => ?_
 refine AWP_sr tok [] [0, 1, 2, 11] (fun a σ => a = [(0, .ptr w0 r0_ 0), (1, .int .i64 p1), (2, .clo 120 [] [.fptr [.int .i64 p2_0.Op, .int .i64 p2_0.Dst, .int .i64 p2_0.A, .int .i64 p2_0.B, .int .i64 p2_0.N] 0, .fptr [.int .i64 p2_1] 0, .fptr [.int .i64 p2_2] 0]), (11, .bool (ilt p1 p0.colors))] ∧ σ = hp E0 [(w0, some ⟨129, 2, W0.set r0_ [.int .i64 p0.colors, .osl 47 5 (encL rInstr p0.list)]⟩)] (N0 + 6)) (fun K hK => ?_) ?_
 ·
  skip
  simp -dsimp -implicitDefEqProofs (maxDischargeDepth := 6) [gs_W0, List.set_set]
  exact hK _ _ ⟨rfl, rfl⟩
 rintro a σ ⟨rfl, rfl⟩
 refine AWP_cond (ilt p1 p0.colors) rfl (fun C1 => ?_) (fun C1 => ?_)
 ·
  replace H := ifT C1 H
  obtain ⟨v1, hv1, H⟩ := bindE H
  obtain ⟨r2, hr2, H⟩ := bindE H
  obtain ⟨r3, hr3, H⟩ := bindE H
  refine AWP_sr tok [] [] (fun a σ => ∃ M1 : Nat, N0 + 13 ≤ M1 ∧ a = [] ∧ σ = hp E0 [(w0, some ⟨129, 2, W0.set r0_ [.int .i64 r3.colors, .osl 47 5 (encL rInstr r3.list)]⟩)] M1) (fun K hK => ?_) ?_
  ·
   skip
   simp -dsimp -implicitDefEqProofs (maxDischargeDepth := 6) [gs_W0, List.set_set, gx157 hv1]
   refine (c120 hr2).app ?_; try simp -dsimp -implicitDefEqProofs (maxDischargeDepth := 6) [gs_W0, List.set_set, gx157 hv1]
   refine (c122 (W0 := W0.set r0_ [.int .i64 p0.colors, .osl 47 5 (encL rInstr p0.list)]) (r0_ := r0_) (H := hr3) (by simp [gs_W0, List.set_set, gx157 hv1]) (by simp [gs_W0, List.set_set, gx157 hv1])).mono ?_; rintro _ _ ⟨M1, fM1_0, rfl, rfl⟩; simp only [hp_next] at fM1_0
   try simp -dsimp -implicitDefEqProofs (maxDischargeDepth := 6) [gs_W0, List.set_set, gx157 hv1, hp_over_some, hp_over_none]
   exact hK _ _ ⟨M1, (by omega), rfl, rfl⟩
  rintro a σ ⟨M1, fM1_0, rfl, rfl⟩
  replace H := Option.some.inj H; subst H
  refine AWP_kp [] [] rfl ?_
  refine AWP_ret ?_
  refine ⟨[], by simp [gs_W0], M1, by omega, ?_, ?_⟩
  ·
   simp [encL_nil]
  ·
   first | rfl | simp [List.set_set]
 ·
  replace H := ifF C1 H
  refine AWP_skip ?_
  show K1 _ _
  refine keepE (l := [0, 1, 2]) (x := [(0, .ptr w0 r0_ 0), (1, .int .i64 p1), (2, .clo 120 [] [.fptr [.int .i64 p2_0.Op, .int .i64 p2_0.Dst, .int .i64 p2_0.A, .int .i64 p2_0.B, .int .i64 p2_0.N] 0, .fptr [.int .i64 p2_1] 0, .fptr [.int .i64 p2_2] 0])]) rfl fun a' ha => ?_
  refine hK1 _ _ ?_; rw [ha]
  refine Rc.mk ?_
  obtain ⟨r4, hr4, H⟩ := bindE H
  obtain ⟨r5, hr5, H⟩ := bindE H
  refine AWP_sr tok [] [0, 1] (fun a σ => ∃ M2 : Nat, N0 + 10 ≤ M2 ∧ a = [(0, .ptr w0 r0_ 0), (1, .int .i64 p1)] ∧ σ = hp E0 [(w0, some ⟨129, 2, W0.set r0_ [.int .i64 r5.colors, .osl 47 5 (encL rInstr r5.list)]⟩)] M2) (fun K hK => ?_) ?_
  ·
   skip
   simp -dsimp -implicitDefEqProofs (maxDischargeDepth := 6) [gs_W0, List.set_set]
   refine (c120 hr4).app ?_; try simp -dsimp -implicitDefEqProofs (maxDischargeDepth := 6) [gs_W0, List.set_set]
   refine (c122 (W0 := W0.set r0_ [.int .i64 p0.colors, .osl 47 5 (encL rInstr p0.list)]) (r0_ := r0_) (H := hr5) (by simp [gs_W0, List.set_set]) (by simp [gs_W0, List.set_set])).mono ?_; rintro _ _ ⟨M2, fM2_0, rfl, rfl⟩; simp only [hp_next] at fM2_0
   try simp -dsimp -implicitDefEqProofs (maxDischargeDepth := 6) [gs_W0, List.set_set, hp_over_some, hp_over_none]
   exact hK _ _ ⟨M2, (by omega), rfl, rfl⟩
  rintro a σ ⟨M2, fM2_0, rfl, rfl⟩
  obtain ⟨r6, hr6, H⟩ := bindE H
  have q0 : ∀ σ i, buildSliceA T 29 true i 1 [(0, .agg [.int .i64 16, .int .i64 0, .int .i64 2, .int .i64 7, .int .i64 (imul .i64 4 (isub .i64 p1 r5.colors))])] σ = some (.fsl (encL rInstr ([(⟨16, 0, 2, 7, imul .i64 4 (isub .i64 p1 r5.colors)⟩ : gInstr)] : List gInstr)), σ) := fun _ _ => rfl
  refine AWP_rt tok [9] [] (fun a σ => ∃ M3 : Nat, M2 + 11 ≤ M3 ∧ a = [] ∧ σ = hp E0 [(w0, some ⟨129, 2, W0.set r0_ [.int .i64 r6.colors, .osl 47 5 (encL rInstr r6.list)]⟩)] M3) (fun K hK => ?_) ?_
  ·
   skip
   simp -dsimp -implicitDefEqProofs (maxDischargeDepth := 6) [gs_W0, List.set_set, q0]
   refine (c122 (W0 := W0.set r0_ [.int .i64 r5.colors, .osl 47 5 (encL rInstr r5.list)]) (r0_ := r0_) (H := hr6) (by simp [gs_W0, List.set_set, q0]) (by simp [gs_W0, List.set_set, q0])).mono ?_; rintro _ _ ⟨M3, fM3_0, rfl, rfl⟩; simp only [hp_next] at fM3_0
   try simp -dsimp -implicitDefEqProofs (maxDischargeDepth := 6) [gs_W0, List.set_set, q0, hp_over_some, hp_over_none]
   exact hK _ _ ⟨M3, (by omega), rfl, rfl⟩
  rintro a σ ⟨M3, fM3_0, ha, rfl⟩
  replace H := Option.some.inj H; subst H
  refine hKE _ _ ?_; rw [ha]
  refine Rc.kp [] [] rfl ?_
  refine Rc.mk ?_
  refine ⟨[], by simp [gs_W0], M3, by omega, ?_, ?_⟩
  ·
   simp [encL_nil]
  ·
   first | rfl | simp [List.set_set]
theorem c122_c0_1 {p0 : gEmitter} {p1 : (List gInstr)} {r : gEmitter} (H : i_emitter_emit_c0_1 p0 p1 = some r) {σ : AHeap} {w0 : Nat} {W0 : List (List AV)} {r0_ : Nat} {w0c1 : Nat} (q0 : σ.objs w0 = some ⟨129, 2, W0⟩) (g0 : W0[r0_]? = some [.int .i64 p0.colors, .sl w0c1 0 p0.list.length]) (q0c1 : σ.objs w0c1 = some ⟨47, 5, encL rInstr p0.list⟩) (d0_1 : ¬ w0 = w0c1) : ACalls Tryd.prog G 122 [.ptr w0 r0_ 0, .fsl (encL rInstr p1)] σ (fun v σ' => ∃ M : Nat, σ.next ≤ M ∧ v = .tup [] ∧ σ' = hp σ.objs [(w0, some ⟨129, 2, W0.set r0_ [.int .i64 r.colors, .osl 47 5 (encL rInstr r.list)]⟩), (w0c1, none)] M) := by
 refine ACalls_fr (L := [(w0, some ⟨129, 2, W0⟩), (w0c1, some ⟨47, 5, encL rInstr p0.list⟩)]) (Q1 := fun v σ' => ∃ M : Nat, σ.next ≤ M ∧ v = .tup [] ∧ σ' = hp E0 [(w0, some ⟨129, 2, W0.set r0_ [.int .i64 r.colors, .osl 47 5 (encL rInstr r.list)]⟩), (w0c1, none)] M) (by simp [q0, q0c1]) (fun hlt => ?_) ?_ ⟨_, Tryd.func122, rfl, rfl⟩
 rotate_left
 ·
  rintro v σ1 ⟨M, h0, rfl, rfl⟩
  exact ⟨_, M, rfl, by simp, by simp; try omega, M, h0, rfl, rfl⟩
 generalize σ.next = N0 at hlt ⊢
 have lw0 : w0 < N0 := hlt _ (.head _) rfl
 have lw0c1 : w0c1 < N0 := hlt _ (.tail _ (.head _)) rfl
 have gs_W0 : ∀ x, (W0.set r0_ x)[r0_]? = some x := gsetW g0
 rw [show W0 = W0.set r0_ [.int .i64 p0.colors, .sl w0c1 0 p0.list.length] from (set_same g0).symm]
 refine ACalls_fn tok Tryd.func122 (by kernel_rfl) rfl Tryd.ntmps122 Tryd.results122 rfl ?_
 simp only [argsA, Nat.reduceAdd, hp_next]
 unfold i_emitter_emit_c0_1 at H
 refine AWP_end [] fun KE hKE => ?_
 obtain ⟨l1, hl1, H⟩ := bindE H
 refine AWP_rt tok [] [] (fun a σ => a = [] ∧ σ = hp E0 [(w0, some ⟨129, 2, W0.set r0_ [.int .i64 p0.colors, .sl (N0 + 6) 0 l1.length]⟩), (N0 + 6, some ⟨47, 5, encL rInstr l1⟩)] (N0 + 10)) (fun K hK => ?_) ?_
 ·
  skip
  have e0 := nq (a := w0) (b := w0c1) (by omega)
  have e1 := nq (a := w0) (b := N0 + 6) (by omega)
  have e2 := nq (a := w0c1) (b := N0 + 6) (by omega)
  simp -dsimp -implicitDefEqProofs (maxDischargeDepth := 6) [e0, e1, e2, gs_W0, List.set_set, app29 hl1]
  exact hK _ _ ⟨rfl, rfl⟩
 rintro a σ ⟨ha, rfl⟩
 replace H := Option.some.inj H; subst H
 refine hKE _ _ ?_; rw [ha]
 refine Rc.kp [] [] rfl ?_
 refine gPk Rc_ref (k := l1.length) (o := w0) (ob := ⟨129, 2, W0.set r0_ [.int .i64 p0.colors, .sl (N0 + 6) 0 l1.length]⟩) (row := [.int .i64 p0.colors, .sl (N0 + 6) 0 l1.length]) (d := (N0 + 6)) (obd := ⟨47, 5, encL rInstr l1⟩) (r := r0_) (i := 1) [(w0, some ⟨129, 2, W0.set r0_ [.int .i64 p0.colors, .osl 47 5 (encL rInstr l1)]⟩)] (by simp (disch := omega)) (by simp (disch := omega) [gs_W0]) rfl (by simp (disch := omega)) (by simp (disch := omega)) (by first | omega | simp) (by simp (disch := omega) [List.set_set, app_set] <;> omega) (by simp (disch := omega) [List.set_set, app_set]) ?_
 refine Rc.mk ?_
 refine ⟨[], by simp [gs_W0], N0 + 10, by omega, ?_, ?_⟩
 ·
  simp [encL_nil]
 ·
  symm; first | exact hp_tail (L := [(w0, some ⟨129, 2, W0.set r0_ [.int .i64 p0.colors, .osl 47 5 (encL rInstr l1)]⟩)]) | (simp only [List.set_set]; exact hp_tail (L := [(w0, some ⟨129, 2, W0.set r0_ [.int .i64 p0.colors, .osl 47 5 (encL rInstr l1)]⟩)]))
theorem c121 {p0 : gEmitter} {p1 : Int} {r : gEmitter} (H : i_emitter_jump p0 p1 = some r) {σ : AHeap} {w0 : Nat} {W0 : List (List AV)} {r0_ : Nat} (q0 : σ.objs w0 = some ⟨129, 2, W0⟩) (g0 : W0[r0_]? = some [.int .i64 p0.colors, .osl 47 5 (encL rInstr p0.list)]) : ACalls Tryd.prog G 121 [.ptr w0 r0_ 0, .int .i64 p1] σ (fun v σ' => ∃ M : Nat, σ.next ≤ M ∧ v = .tup [] ∧ σ' = hp σ.objs [(w0, some ⟨129, 2, W0.set r0_ [.int .i64 r.colors, .osl 47 5 (encL rInstr r.list)]⟩)] M) := by
 refine ACalls_fr (L := [(w0, some ⟨129, 2, W0⟩)]) (Q1 := fun v σ' => ∃ M : Nat, σ.next ≤ M ∧ v = .tup [] ∧ σ' = hp E0 [(w0, some ⟨129, 2, W0.set r0_ [.int .i64 r.colors, .osl 47 5 (encL rInstr r.list)]⟩)] M) (by simp [q0]) (fun hlt => ?_) ?_ ⟨_, Tryd.func121, rfl, rfl⟩
 rotate_left
 ·
  rintro v σ1 ⟨M, h0, rfl, rfl⟩
  exact ⟨_, M, rfl, by simp, by simp; try omega, M, h0, rfl, rfl⟩
 generalize σ.next = N0 at hlt ⊢
 have lw0 : w0 < N0 := hlt _ (.head _) rfl
 have gs_W0 : ∀ x, (W0.set r0_ x)[r0_]? = some x := gsetW g0
 rw [show W0 = W0.set r0_ [.int .i64 p0.colors, .osl 47 5 (encL rInstr p0.list)] from (set_same g0).symm]
 refine ACalls_fn tok Tryd.func121 (by kernel_rfl) rfl Tryd.ntmps121 Tryd.results121 rfl ?_
 simp only [argsA, Nat.reduceAdd, hp_next]
 unfold i_emitter_jump at H
 refine AWP_end [] fun KE hKE => ?_
 refine gUnp AWP_ref (ty := 47) (sz := 5) (es := encL rInstr p0.list) (o := w0) (ob := ⟨129, 2, W0.set r0_ [.int .i64 p0.colors, .osl 47 5 (encL rInstr p0.list)]⟩) (row := [.int .i64 p0.colors, .osl 47 5 (encL rInstr p0.list)]) (r := r0_) (i := 1) [(w0, some ⟨129, 2, W0.set r0_ [.int .i64 p0.colors, .sl N0 0 p0.list.length]⟩), (N0, some ⟨47, 5, encL rInstr p0.list⟩)] (by simp (disch := omega)) (by simp (disch := omega) [gs_W0]) rfl (by simp (disch := omega) [List.set_set]) ?_
 obtain ⟨r1, hr1, H⟩ := bindE H
 have q0 : ∀ σ i, buildSliceA T 29 true i 1 [(0, .agg [.int .i64 20, .int .i64 0, .int .i64 0, .int .i64 0, .int .i64 (isub .i64 p1 (imul .i64 4 (ilen p0.list)))])] σ = some (.fsl (encL rInstr ([(⟨20, 0, 0, 0, isub .i64 p1 (imul .i64 4 (ilen p0.list))⟩ : gInstr)] : List gInstr)), σ) := fun _ _ => rfl
 refine AWP_rt tok [10] [] (fun a σ => ∃ M1 : Nat, N0 + 13 ≤ M1 ∧ a = [] ∧ σ = hp E0 [(w0, some ⟨129, 2, W0.set r0_ [.int .i64 r1.colors, .osl 47 5 (encL rInstr r1.list)]⟩)] M1) (fun K hK => ?_) ?_
 ·
  skip
  have e0 := nq (a := w0) (b := N0) (by omega)
  simp -dsimp -implicitDefEqProofs (maxDischargeDepth := 6) [e0, gs_W0, List.set_set, q0]
  refine (c122_c0_1 (w0c1 := N0) (W0 := W0.set r0_ [.int .i64 p0.colors, .sl N0 0 p0.list.length]) (r0_ := r0_) (H := hr1) (by simp [e0, gs_W0, List.set_set, q0]) (by simp [e0, gs_W0, List.set_set, q0]) (by simp [e0, gs_W0, List.set_set, q0]) (by simp [e0, gs_W0, List.set_set, q0])).mono ?_; rintro _ _ ⟨M1, fM1_0, rfl, rfl⟩; simp only [hp_next] at fM1_0
  try simp -dsimp -implicitDefEqProofs (maxDischargeDepth := 6) [e0, gs_W0, List.set_set, q0, hp_over_some, hp_over_none]
  exact hK _ _ ⟨M1, (by omega), rfl, rfl⟩
 rintro a σ ⟨M1, fM1_0, ha, rfl⟩
 replace H := Option.some.inj H; subst H
 refine hKE _ _ ?_; rw [ha]
 refine Rc.kp [] [] rfl ?_
 refine Rc.mk ?_
 refine ⟨[], by simp [gs_W0], M1, by omega, ?_, ?_⟩
 ·
  simp [encL_nil]
 ·
  first | rfl | simp [List.set_set]
theorem c123 {p0 : gEmitter} {p1 : Int} {r : gEmitter} (H : i_emitter_call p0 p1 = some r) {σ : AHeap} {w0 : Nat} {W0 : List (List AV)} {r0_ : Nat} (q0 : σ.objs w0 = some ⟨129, 2, W0⟩) (g0 : W0[r0_]? = some [.int .i64 p0.colors, .osl 47 5 (encL rInstr p0.list)]) : ACalls Tryd.prog G 123 [.ptr w0 r0_ 0, .int .i64 p1] σ (fun v σ' => ∃ M : Nat, σ.next ≤ M ∧ v = .tup [] ∧ σ' = hp σ.objs [(w0, some ⟨129, 2, W0.set r0_ [.int .i64 r.colors, .osl 47 5 (encL rInstr r.list)]⟩)] M) := by
 refine ACalls_fr (L := [(w0, some ⟨129, 2, W0⟩)]) (Q1 := fun v σ' => ∃ M : Nat, σ.next ≤ M ∧ v = .tup [] ∧ σ' = hp E0 [(w0, some ⟨129, 2, W0.set r0_ [.int .i64 r.colors, .osl 47 5 (encL rInstr r.list)]⟩)] M) (by simp [q0]) (fun hlt => ?_) ?_ ⟨_, Tryd.func123, rfl, rfl⟩
 rotate_left
 ·
  rintro v σ1 ⟨M, h0, rfl, rfl⟩
  exact ⟨_, M, rfl, by simp, by simp; try omega, M, h0, rfl, rfl⟩
 generalize σ.next = N0 at hlt ⊢
 have lw0 : w0 < N0 := hlt _ (.head _) rfl
 have gs_W0 : ∀ x, (W0.set r0_ x)[r0_]? = some x := gsetW g0
 rw [show W0 = W0.set r0_ [.int .i64 p0.colors, .osl 47 5 (encL rInstr p0.list)] from (set_same g0).symm]
 refine ACalls_fn tok Tryd.func123 (by kernel_rfl) rfl Tryd.ntmps123 Tryd.results123 rfl ?_
 simp only [argsA, Nat.reduceAdd, hp_next]
 unfold i_emitter_call at H
 refine AWP_end [] fun KE hKE => ?_
 obtain ⟨r1, hr1, H⟩ := bindE H
 obtain ⟨r2, hr2, H⟩ := bindE H
 have q0 : ∀ σ i, buildSliceA T 29 true i 2 [(0, .agg [.int .i64 r1.Op, .int .i64 r1.Rd, .int .i64 r1.Rs, .int .i64 r1.Rt, .int .i64 r1.Imm]), (1, .agg [.int .i64 15, .int .i64 1, .int .i64 0, .int .i64 0, .int .i64 0])] σ = some (.fsl (encL rInstr ([r1, (⟨15, 1, 0, 0, 0⟩ : gInstr)] : List gInstr)), σ) := fun _ _ => rfl
 refine AWP_rt tok [4] [] (fun a σ => ∃ M1 : Nat, N0 + 6 ≤ M1 ∧ a = [] ∧ σ = hp E0 [(w0, some ⟨129, 2, W0.set r0_ [.int .i64 r2.colors, .osl 47 5 (encL rInstr r2.list)]⟩)] M1) (fun K hK => ?_) ?_
 ·
  skip
  simp -dsimp -implicitDefEqProofs (maxDischargeDepth := 6) [gs_W0, List.set_set, q0]
  refine (c119 hr1).app ?_; try simp -dsimp -implicitDefEqProofs (maxDischargeDepth := 6) [gs_W0, List.set_set, q0]
  refine (c122 (W0 := W0.set r0_ [.int .i64 p0.colors, .osl 47 5 (encL rInstr p0.list)]) (r0_ := r0_) (H := hr2) (by simp [gs_W0, List.set_set, q0]) (by simp [gs_W0, List.set_set, q0])).mono ?_; rintro _ _ ⟨M1, fM1_0, rfl, rfl⟩; simp only [hp_next] at fM1_0
  try simp -dsimp -implicitDefEqProofs (maxDischargeDepth := 6) [gs_W0, List.set_set, q0, hp_over_some, hp_over_none]
  exact hK _ _ ⟨M1, (by omega), rfl, rfl⟩
 rintro a σ ⟨M1, fM1_0, ha, rfl⟩
 replace H := Option.some.inj H; subst H
 refine hKE _ _ ?_; rw [ha]
 refine Rc.kp [] [] rfl ?_
 refine Rc.mk ?_
 refine ⟨[], by simp [gs_W0], M1, by omega, ?_, ?_⟩
 ·
  simp [encL_nil]
 ·
  first | rfl | simp [List.set_set]
theorem c124 {p0 : Int} {r : (List gInstr)} (H : i_quadInstrs_4 p0 = some r) : APure Tryd.prog G 124 [.int .i64 p0] (.fsl (encL rInstr r)) := by
 refine APure_fn (fun N0 => ?_) (by simp)
 refine ACalls_fn tok Tryd.func124 (by kernel_rfl) rfl Tryd.ntmps124 Tryd.results124 rfl ?_
 simp only [argsA, Nat.reduceAdd, hp_next]
 unfold i_quadInstrs_4 at H
 refine AWP_sr tok [] [0] (fun a σ => a = [(0, .int .i64 p0)] ∧ σ = hp E0 [] (N0 + 1)) (fun K hK => ?_) ?_
 ·
  skip
  simp -dsimp -implicitDefEqProofs (maxDischargeDepth := 6)
  exact hK _ _ ⟨rfl, rfl⟩
 rintro a σ ⟨rfl, rfl⟩
 obtain ⟨r1, hr1, H⟩ := bindE H
 have q0 : ∀ σ i, buildSliceA T 29 true i 1 [(0, .agg [.int .i64 r1.Op, .int .i64 r1.Rd, .int .i64 r1.Rs, .int .i64 r1.Rt, .int .i64 r1.Imm])] σ = some (.fsl (encL rInstr ([r1] : List gInstr)), σ) := fun _ _ => rfl
 refine AWP_sr tok [2] [2] (fun a σ => a = [(2, .fsl (encL rInstr ([r1] : List gInstr)))] ∧ σ = hp E0 [] (N0 + 5)) (fun K hK => ?_) ?_
 ·
  skip
  simp -dsimp -implicitDefEqProofs (maxDischargeDepth := 6) [q0]
  refine (c119 hr1).app ?_; try simp -dsimp -implicitDefEqProofs (maxDischargeDepth := 6) [q0]
  exact hK _ _ ⟨rfl, rfl⟩
 rintro a σ ⟨rfl, rfl⟩
 replace H := Option.some.inj H; subst H
 refine AWP_kp [2] [(2, .fsl (encL rInstr ([r1] : List gInstr)))] rfl ?_
 refine AWP_ret ?_
 exact ⟨[.fsl (encL rInstr ([r1] : List gInstr))], by simp, 4, by simp [encL_nil]⟩
theorem c115_i_quadInstrs_4 {p0 : gEmitter} {p1 : Int} {r : gEmitter} (H : i_emitter_write_i_quadInstrs_4 p0 p1 = some r) {σ : AHeap} {w0 : Nat} {W0 : List (List AV)} {r0_ : Nat} (q0 : σ.objs w0 = some ⟨129, 2, W0⟩) (g0 : W0[r0_]? = some [.int .i64 p0.colors, .osl 47 5 (encL rInstr p0.list)]) : ACalls Tryd.prog G 115 [.ptr w0 r0_ 0, .int .i64 p1, .clo 124 [] []] σ (fun v σ' => ∃ M : Nat, σ.next ≤ M ∧ v = .tup [] ∧ σ' = hp σ.objs [(w0, some ⟨129, 2, W0.set r0_ [.int .i64 r.colors, .osl 47 5 (encL rInstr r.list)]⟩)] M) := by
 refine ACalls_fr (L := [(w0, some ⟨129, 2, W0⟩)]) (Q1 := fun v σ' => ∃ M : Nat, σ.next ≤ M ∧ v = .tup [] ∧ σ' = hp E0 [(w0, some ⟨129, 2, W0.set r0_ [.int .i64 r.colors, .osl 47 5 (encL rInstr r.list)]⟩)] M) (by simp [q0]) (fun hlt => ?_) ?_ ⟨_, Tryd.func115, rfl, rfl⟩
 rotate_left
 ·
  rintro v σ1 ⟨M, h0, rfl, rfl⟩
  exact ⟨_, M, rfl, by simp, by simp; try omega, M, h0, rfl, rfl⟩
 generalize σ.next = N0 at hlt ⊢
 have lw0 : w0 < N0 := hlt _ (.head _) rfl
 have gs_W0 : ∀ x, (W0.set r0_ x)[r0_]? = some x := gsetW g0
 rw [show W0 = W0.set r0_ [.int .i64 p0.colors, .osl 47 5 (encL rInstr p0.list)] from (set_same g0).symm]
 refine ACalls_fn tok Tryd.func115 (by kernel_rfl) rfl Tryd.ntmps115 Tryd.results115 rfl ?_
 simp only [argsA, Nat.reduceAdd, hp_next]
 unfold i_emitter_write_i_quadInstrs_4 at H
 refine AWP_end [] fun KE hKE => ?_
 refine AWP_sq [0, 1, 2] fun K1 hK1 => ?_
 refine AWP_sr tok [] [0, 1, 2, 11] (fun a σ => a = [(0, .ptr w0 r0_ 0), (1, .int .i64 p1), (2, .clo 124 [] []), (11, .bool (ilt p1 p0.colors))] ∧ σ = hp E0 [(w0, some ⟨129, 2, W0.set r0_ [.int .i64 p0.colors, .osl 47 5 (encL rInstr p0.list)]⟩)] (N0 + 6)) (fun K hK => ?_) ?_
 ·
  skip
  simp -dsimp -implicitDefEqProofs (maxDischargeDepth := 6) [gs_W0, List.set_set]
  exact hK _ _ ⟨rfl, rfl⟩
 rintro a σ ⟨rfl, rfl⟩
 refine AWP_cond (ilt p1 p0.colors) rfl (fun C1 => ?_) (fun C1 => ?_)
 ·
  replace H := ifT C1 H
  obtain ⟨v1, hv1, H⟩ := bindE H
  obtain ⟨r2, hr2, H⟩ := bindE H
  obtain ⟨r3, hr3, H⟩ := bindE H
  refine AWP_sr tok [] [] (fun a σ => ∃ M1 : Nat, N0 + 13 ≤ M1 ∧ a = [] ∧ σ = hp E0 [(w0, some ⟨129, 2, W0.set r0_ [.int .i64 r3.colors, .osl 47 5 (encL rInstr r3.list)]⟩)] M1) (fun K hK => ?_) ?_
  ·
   skip
   simp -dsimp -implicitDefEqProofs (maxDischargeDepth := 6) [gs_W0, List.set_set, gx157 hv1]
   refine (c124 hr2).app ?_; try simp -dsimp -implicitDefEqProofs (maxDischargeDepth := 6) [gs_W0, List.set_set, gx157 hv1]
   refine (c122 (W0 := W0.set r0_ [.int .i64 p0.colors, .osl 47 5 (encL rInstr p0.list)]) (r0_ := r0_) (H := hr3) (by simp [gs_W0, List.set_set, gx157 hv1]) (by simp [gs_W0, List.set_set, gx157 hv1])).mono ?_; rintro _ _ ⟨M1, fM1_0, rfl, rfl⟩; simp only [hp_next] at fM1_0
   try simp -dsimp -implicitDefEqProofs (maxDischargeDepth := 6) [gs_W0, List.set_set, gx157 hv1, hp_over_some, hp_over_none]
   exact hK _ _ ⟨M1, (by omega), rfl, rfl⟩
  rintro a σ ⟨M1, fM1_0, rfl, rfl⟩
  replace H := Option.some.inj H; subst H
  refine AWP_kp [] [] rfl ?_
  refine AWP_ret ?_
  refine ⟨[], by simp [gs_W0], M1, by omega, ?_, ?_⟩
  ·
   simp [encL_nil]
  ·
   first | rfl | simp [List.set_set]
 ·
  replace H := ifF C1 H
  refine AWP_skip ?_
  show K1 _ _
  refine keepE (l := [0, 1, 2]) (x := [(0, .ptr w0 r0_ 0), (1, .int .i64 p1), (2, .clo 124 [] [])]) rfl fun a' ha => ?_
  refine hK1 _ _ ?_; rw [ha]
  refine Rc.mk ?_
  obtain ⟨r4, hr4, H⟩ := bindE H
  obtain ⟨r5, hr5, H⟩ := bindE H
  refine AWP_sr tok [] [0, 1] (fun a σ => ∃ M2 : Nat, N0 + 10 ≤ M2 ∧ a = [(0, .ptr w0 r0_ 0), (1, .int .i64 p1)] ∧ σ = hp E0 [(w0, some ⟨129, 2, W0.set r0_ [.int .i64 r5.colors, .osl 47 5 (encL rInstr r5.list)]⟩)] M2) (fun K hK => ?_) ?_
  ·
   skip
   simp -dsimp -implicitDefEqProofs (maxDischargeDepth := 6) [gs_W0, List.set_set]
   refine (c124 hr4).app ?_; try simp -dsimp -implicitDefEqProofs (maxDischargeDepth := 6) [gs_W0, List.set_set]
   refine (c122 (W0 := W0.set r0_ [.int .i64 p0.colors, .osl 47 5 (encL rInstr p0.list)]) (r0_ := r0_) (H := hr5) (by simp [gs_W0, List.set_set]) (by simp [gs_W0, List.set_set])).mono ?_; rintro _ _ ⟨M2, fM2_0, rfl, rfl⟩; simp only [hp_next] at fM2_0
   try simp -dsimp -implicitDefEqProofs (maxDischargeDepth := 6) [gs_W0, List.set_set, hp_over_some, hp_over_none]
   exact hK _ _ ⟨M2, (by omega), rfl, rfl⟩
  rintro a σ ⟨M2, fM2_0, rfl, rfl⟩
  obtain ⟨r6, hr6, H⟩ := bindE H
  have q0 : ∀ σ i, buildSliceA T 29 true i 1 [(0, .agg [.int .i64 16, .int .i64 0, .int .i64 2, .int .i64 7, .int .i64 (imul .i64 4 (isub .i64 p1 r5.colors))])] σ = some (.fsl (encL rInstr ([(⟨16, 0, 2, 7, imul .i64 4 (isub .i64 p1 r5.colors)⟩ : gInstr)] : List gInstr)), σ) := fun _ _ => rfl
  refine AWP_rt tok [9] [] (fun a σ => ∃ M3 : Nat, M2 + 11 ≤ M3 ∧ a = [] ∧ σ = hp E0 [(w0, some ⟨129, 2, W0.set r0_ [.int .i64 r6.colors, .osl 47 5 (encL rInstr r6.list)]⟩)] M3) (fun K hK => ?_) ?_
  ·
   skip
   simp -dsimp -implicitDefEqProofs (maxDischargeDepth := 6) [gs_W0, List.set_set, q0]
   refine (c122 (W0 := W0.set r0_ [.int .i64 r5.colors, .osl 47 5 (encL rInstr r5.list)]) (r0_ := r0_) (H := hr6) (by simp [gs_W0, List.set_set, q0]) (by simp [gs_W0, List.set_set, q0])).mono ?_; rintro _ _ ⟨M3, fM3_0, rfl, rfl⟩; simp only [hp_next] at fM3_0
   try simp -dsimp -implicitDefEqProofs (maxDischargeDepth := 6) [gs_W0, List.set_set, q0, hp_over_some, hp_over_none]
   exact hK _ _ ⟨M3, (by omega), rfl, rfl⟩
  rintro a σ ⟨M3, fM3_0, ha, rfl⟩
  replace H := Option.some.inj H; subst H
  refine hKE _ _ ?_; rw [ha]
  refine Rc.kp [] [] rfl ?_
  refine Rc.mk ?_
  refine ⟨[], by simp [gs_W0], M3, by omega, ?_, ?_⟩
  ·
   simp [encL_nil]
  ·
   first | rfl | simp [List.set_set]
theorem c68 {p0 : gQuad} {p1 : Int} {p2 : Int} {r : (List gInstr)} (H : i_quadInstrs p0 p1 p2 = some r) : APure Tryd.prog G 68 [.agg [.int .i64 p0.Op, .int .i64 p0.Dst, .int .i64 p0.A, .int .i64 p0.B, .int .i64 p0.N], .int .i64 p1, .int .i64 p2] (.fsl (encL rInstr r)) := by
 refine APure_fn (fun N0 => ?_) (by simp)
 refine ACalls_fn tok Tryd.func68 (by kernel_rfl) rfl Tryd.ntmps68 Tryd.results68 rfl ?_
 simp only [argsA, Nat.reduceAdd, hp_next]
 unfold i_quadInstrs at H
 refine AWP_sr tok [0] [1, 2, 3] (fun a σ => a = [(1, .int .i64 p1), (2, .int .i64 p2), (3, .fptr [.int .i64 p0.Op, .int .i64 p0.Dst, .int .i64 p0.A, .int .i64 p0.B, .int .i64 p0.N] 0)] ∧ σ = hp E0 [] (N0 + 2)) (fun K hK => ?_) ?_
 ·
  skip
  simp -dsimp -implicitDefEqProofs (maxDischargeDepth := 6)
  exact hK _ _ ⟨rfl, rfl⟩
 rintro a σ ⟨rfl, rfl⟩
 refine AWP_sr tok [1] [2, 3, 7] (fun a σ => a = [(2, .int .i64 p2), (3, .fptr [.int .i64 p0.Op, .int .i64 p0.Dst, .int .i64 p0.A, .int .i64 p0.B, .int .i64 p0.N] 0), (7, .ptr (N0 + 4) 0 0)] ∧ σ = hp E0 [(N0 + 4, some ⟨129, 2, [[.int .i64 p1, .nilsl]]⟩)] (N0 + 6)) (fun K hK => ?_) ?_
 ·
  skip
  simp -dsimp -implicitDefEqProofs (maxDischargeDepth := 6)
  exact hK _ _ ⟨rfl, rfl⟩
 rintro a σ ⟨rfl, rfl⟩
 obtain ⟨j1, hj1, H⟩ := bindE H
 refine AWP_seq (AWP_named fun K1 hK1 => ?_)
 have hJ1 : ∀ a σ, Rc G 120 N0 (fun a σ => ∃ M1 : Nat, N0 ≤ M1 ∧ N0 + 4 < M1 ∧ a = [(7, .ptr (N0 + 4) 0 0)] ∧ σ = hp E0 [(N0 + 4, some ⟨129, 2, [[.int .i64 j1.colors, .osl 47 5 (encL rInstr j1.list)]]⟩)] M1) (a.keep [7]) σ → K1 a σ := by
  rintro a σ ⟨b, τ, hr, M1, fM1_0, fM1_1, rfl, rfl⟩
  refine hK1 _ _ (AWP_keep [7] (AWP_ref hr ?_))
  refine gUnp AWP_ref (ty := 47) (sz := 5) (es := encL rInstr j1.list) (o := (N0 + 4)) (ob := ⟨129, 2, [[.int .i64 j1.colors, .osl 47 5 (encL rInstr j1.list)]]⟩) (row := [.int .i64 j1.colors, .osl 47 5 (encL rInstr j1.list)]) (r := 0) (i := 1) [(N0 + 4, some ⟨129, 2, [[.int .i64 j1.colors, .sl M1 0 j1.list.length]]⟩), (M1, some ⟨47, 5, encL rInstr j1.list⟩)] (by simp (disch := omega)) rfl rfl (by simp (disch := omega) [List.set_set]) ?_
  refine AWP_sr tok [] [6] (fun a σ => a = [(6, .sl M1 0 j1.list.length)] ∧ σ = hp E0 [(N0 + 4, some ⟨129, 2, [[.int .i64 j1.colors, .sl M1 0 j1.list.length]]⟩), (M1, some ⟨47, 5, encL rInstr j1.list⟩)] (M1 + 6)) (fun K hK => ?_) ?_
  ·
   skip
   have e0 := nq (a := N0 + 4) (b := M1) (by omega)
   simp -dsimp -implicitDefEqProofs (maxDischargeDepth := 6) [e0]
   exact hK _ _ ⟨rfl, rfl⟩
  rintro a σ ⟨rfl, rfl⟩
  replace H := Option.some.inj H; subst H
  refine AWP_kp [6] [(6, .sl M1 0 j1.list.length)] rfl ?_
  have z6 := nq (a := N0 + 4) (b := M1) (by omega)
  refine AWP_ret ?_
  exact ⟨[.sl M1 0 j1.list.length], by simp [z6], 4, by simp [encL_nil, z6]⟩
 replace H := hj1
 refine AWP_sr tok [] [2, 3, 7, 15] (fun a σ => a = [(2, .int .i64 p2), (3, .fptr [.int .i64 p0.Op, .int .i64 p0.Dst, .int .i64 p0.A, .int .i64 p0.B, .int .i64 p0.N] 0), (7, .ptr (N0 + 4) 0 0), (15, .int .i64 p0.Op)] ∧ σ = hp E0 [(N0 + 4, some ⟨129, 2, [[.int .i64 p1, .nilsl]]⟩)] (N0 + 8)) (fun K hK => ?_) ?_
 ·
  skip
  simp -dsimp -implicitDefEqProofs (maxDischargeDepth := 6)
  exact hK _ _ ⟨rfl, rfl⟩
 rintro a σ ⟨rfl, rfl⟩
 refine AWP_block (AWP_thenB ?_)
 refine AWP_sr tok [] [2, 3, 7, 15, 16] (fun a σ => a = [(2, .int .i64 p2), (3, .fptr [.int .i64 p0.Op, .int .i64 p0.Dst, .int .i64 p0.A, .int .i64 p0.B, .int .i64 p0.N] 0), (7, .ptr (N0 + 4) 0 0), (15, .int .i64 p0.Op), (16, .bool (ieq p0.Op 1))] ∧ σ = hp E0 [(N0 + 4, some ⟨129, 2, [[.int .i64 p1, .nilsl]]⟩)] (N0 + 10)) (fun K hK => ?_) ?_
 ·
  skip
  simp -dsimp -implicitDefEqProofs (maxDischargeDepth := 6)
  exact hK _ _ ⟨rfl, rfl⟩
 rintro a σ ⟨rfl, rfl⟩
 refine AWP_cond (ieq p0.Op 1) rfl (fun C1 => ?_) (fun C1 => ?_)
 ·
  replace H := ifT C1 H
  refine gPk0 AWP_ref (o := (N0 + 4)) (ob := ⟨129, 2, [[.int .i64 p1, .nilsl]]⟩) (row := [.int .i64 p1, .nilsl]) (r := 0) (i := 1) 47 5 [(N0 + 4, some ⟨129, 2, [[.int .i64 p1, .osl 47 5 (encL rInstr ([] : List gInstr))]]⟩)] (by simp (disch := omega)) rfl rfl (by simp (disch := omega)) (by simp (disch := omega) [encL_nil, List.set_set, app_set]) ?_
  obtain ⟨r2, hr2, H⟩ := bindE H
  refine AWP_rt tok [] [7] (fun a σ => ∃ M2 : Nat, N0 + 15 ≤ M2 ∧ a = [(7, .ptr (N0 + 4) 0 0)] ∧ σ = hp E0 [(N0 + 4, some ⟨129, 2, [[.int .i64 r2.colors, .osl 47 5 (encL rInstr r2.list)]]⟩)] M2) (fun K hK => ?_) ?_
  ·
   skip
   simp -dsimp -implicitDefEqProofs (maxDischargeDepth := 6)
   refine (c115_i_quadInstrs_1 (W0 := [[.int .i64 p1, .osl 47 5 (encL rInstr ([] : List gInstr))]]) (r0_ := 0) (H := hr2) (by simp []) (by simp [])).mono ?_; rintro _ _ ⟨M2, fM2_0, rfl, rfl⟩; simp only [hp_next] at fM2_0
   try simp -dsimp -implicitDefEqProofs (maxDischargeDepth := 6) [hp_over_some, hp_over_none]
   exact hK _ _ ⟨M2, (by omega), rfl, rfl⟩
  rintro a σ ⟨M2, fM2_0, ha, rfl⟩
  replace H := Option.some.inj H; subst H
  refine hJ1 _ _ ?_; rw [ha]
  exact Rc.fin (AHeap.Sub.refl _) ⟨M2, (by omega), (by omega), rfl, rfl⟩
 ·
  replace H := ifF C1 H
  refine AWP_sr tok [] [2, 3, 7, 15, 23] (fun a σ => a = [(2, .int .i64 p2), (3, .fptr [.int .i64 p0.Op, .int .i64 p0.Dst, .int .i64 p0.A, .int .i64 p0.B, .int .i64 p0.N] 0), (7, .ptr (N0 + 4) 0 0), (15, .int .i64 p0.Op), (23, .bool (ieq p0.Op 2))] ∧ σ = hp E0 [(N0 + 4, some ⟨129, 2, [[.int .i64 p1, .nilsl]]⟩)] (N0 + 12)) (fun K hK => ?_) ?_
  ·
   skip
   simp -dsimp -implicitDefEqProofs (maxDischargeDepth := 6)
   exact hK _ _ ⟨rfl, rfl⟩
  rintro a σ ⟨rfl, rfl⟩
  refine AWP_cond (ieq p0.Op 2) rfl (fun C2 => ?_) (fun C2 => ?_)
  ·
   replace H := ifT C2 H
   refine gPk0 AWP_ref (o := (N0 + 4)) (ob := ⟨129, 2, [[.int .i64 p1, .nilsl]]⟩) (row := [.int .i64 p1, .nilsl]) (r := 0) (i := 1) 47 5 [(N0 + 4, some ⟨129, 2, [[.int .i64 p1, .osl 47 5 (encL rInstr ([] : List gInstr))]]⟩)] (by simp (disch := omega)) rfl rfl (by simp (disch := omega)) (by simp (disch := omega) [encL_nil, List.set_set, app_set]) ?_
   obtain ⟨r3, hr3, H⟩ := bindE H
   refine AWP_sr tok [] [3, 7, 8] (fun a σ => ∃ M3 : Nat, N0 + 18 ≤ M3 ∧ a = [(3, .fptr [.int .i64 p0.Op, .int .i64 p0.Dst, .int .i64 p0.A, .int .i64 p0.B, .int .i64 p0.N] 0), (7, .ptr (N0 + 4) 0 0), (8, .ptr (N0 + 16) 0 0)] ∧ σ = hp E0 [(N0 + 4, some ⟨129, 2, [[.int .i64 r3.2.colors, .osl 47 5 (encL rInstr r3.2.list)]]⟩), (N0 + 16, some ⟨3, 1, [[.int .i64 r3.1]]⟩)] M3) (fun K hK => ?_) ?_
   ·
    skip
    simp -dsimp -implicitDefEqProofs (maxDischargeDepth := 6)
    refine (c117 (W0 := [[.int .i64 p1, .osl 47 5 (encL rInstr ([] : List gInstr))]]) (r0_ := 0) (H := hr3) (by simp []) (by simp [])).mono ?_; rintro _ _ ⟨M3, fM3_0, rfl, rfl⟩; simp only [hp_next] at fM3_0
    try simp -dsimp -implicitDefEqProofs (maxDischargeDepth := 6) [hp_over_some, hp_over_none]
    exact hK _ _ ⟨M3, (by omega), rfl, rfl⟩
   rintro a σ ⟨M3, fM3_0, rfl, rfl⟩
   refine gFrz AWP_ref 4 [N0 + 16] [(N0 + 4, some ⟨129, 2, [[.int .i64 r3.2.colors, .osl 47 5 (encL rInstr r3.2.list)]]⟩)] [(3, .fptr [.int .i64 p0.Op, .int .i64 p0.Dst, .int .i64 p0.A, .int .i64 p0.B, .int .i64 p0.N] 0), (7, .ptr (N0 + 4) 0 0), (8, .fptr [.int .i64 r3.1] 0)] (by simp) (cutD (by simp)) ?_
   obtain ⟨r5, hr5, H⟩ := bindE H
   refine AWP_rt tok [] [7] (fun a σ => ∃ M4 : Nat, M3 + 5 ≤ M4 ∧ a = [(7, .ptr (N0 + 4) 0 0)] ∧ σ = hp E0 [(N0 + 4, some ⟨129, 2, [[.int .i64 r5.colors, .osl 47 5 (encL rInstr r5.list)]]⟩)] M4) (fun K hK => ?_) ?_
   ·
    skip
    simp -dsimp -implicitDefEqProofs (maxDischargeDepth := 6)
    refine (c115_i_quadInstrs_2 (W0 := [[.int .i64 r3.2.colors, .osl 47 5 (encL rInstr r3.2.list)]]) (r0_ := 0) (H := hr5) (by simp []) (by simp [])).mono ?_; rintro _ _ ⟨M4, fM4_0, rfl, rfl⟩; simp only [hp_next] at fM4_0
    try simp -dsimp -implicitDefEqProofs (maxDischargeDepth := 6) [hp_over_some, hp_over_none]
    exact hK _ _ ⟨M4, (by omega), rfl, rfl⟩
   rintro a σ ⟨M4, fM4_0, ha, rfl⟩
   replace H := Option.some.inj H; subst H
   refine hJ1 _ _ ?_; rw [ha]
   exact Rc.fin (AHeap.Sub.refl _) ⟨M4, (by omega), (by omega), rfl, rfl⟩
  ·
   replace H := ifF C2 H
   refine AWP_sr tok [] [2, 3, 7, 15, 34] (fun a σ => a = [(2, .int .i64 p2), (3, .fptr [.int .i64 p0.Op, .int .i64 p0.Dst, .int .i64 p0.A, .int .i64 p0.B, .int .i64 p0.N] 0), (7, .ptr (N0 + 4) 0 0), (15, .int .i64 p0.Op), (34, .bool (ieq p0.Op 3))] ∧ σ = hp E0 [(N0 + 4, some ⟨129, 2, [[.int .i64 p1, .nilsl]]⟩)] (N0 + 14)) (fun K hK => ?_) ?_
   ·
    skip
    simp -dsimp -implicitDefEqProofs (maxDischargeDepth := 6)
    exact hK _ _ ⟨rfl, rfl⟩
   rintro a σ ⟨rfl, rfl⟩
   refine AWP_cond (ieq p0.Op 3) rfl (fun C3 => ?_) (fun C3 => ?_)
   ·
    replace H := ifT C3 H
    refine gPk0 AWP_ref (o := (N0 + 4)) (ob := ⟨129, 2, [[.int .i64 p1, .nilsl]]⟩) (row := [.int .i64 p1, .nilsl]) (r := 0) (i := 1) 47 5 [(N0 + 4, some ⟨129, 2, [[.int .i64 p1, .osl 47 5 (encL rInstr ([] : List gInstr))]]⟩)] (by simp (disch := omega)) rfl rfl (by simp (disch := omega)) (by simp (disch := omega) [encL_nil, List.set_set, app_set]) ?_
    obtain ⟨r6, hr6, H⟩ := bindE H
    refine AWP_sr tok [] [3, 7, 9] (fun a σ => ∃ M5 : Nat, N0 + 20 ≤ M5 ∧ a = [(3, .fptr [.int .i64 p0.Op, .int .i64 p0.Dst, .int .i64 p0.A, .int .i64 p0.B, .int .i64 p0.N] 0), (7, .ptr (N0 + 4) 0 0), (9, .ptr (N0 + 18) 0 0)] ∧ σ = hp E0 [(N0 + 4, some ⟨129, 2, [[.int .i64 r6.2.colors, .osl 47 5 (encL rInstr r6.2.list)]]⟩), (N0 + 18, some ⟨3, 1, [[.int .i64 r6.1]]⟩)] M5) (fun K hK => ?_) ?_
    ·
     skip
     simp -dsimp -implicitDefEqProofs (maxDischargeDepth := 6)
     refine (c117 (W0 := [[.int .i64 p1, .osl 47 5 (encL rInstr ([] : List gInstr))]]) (r0_ := 0) (H := hr6) (by simp []) (by simp [])).mono ?_; rintro _ _ ⟨M5, fM5_0, rfl, rfl⟩; simp only [hp_next] at fM5_0
     try simp -dsimp -implicitDefEqProofs (maxDischargeDepth := 6) [hp_over_some, hp_over_none]
     exact hK _ _ ⟨M5, (by omega), rfl, rfl⟩
    rintro a σ ⟨M5, fM5_0, rfl, rfl⟩
    obtain ⟨r7, hr7, H⟩ := bindE H
    refine AWP_sr tok [] [3, 7, 9, 10] (fun a σ => ∃ M6 : Nat, M5 + 6 ≤ M6 ∧ a = [(3, .fptr [.int .i64 p0.Op, .int .i64 p0.Dst, .int .i64 p0.A, .int .i64 p0.B, .int .i64 p0.N] 0), (7, .ptr (N0 + 4) 0 0), (9, .ptr (N0 + 18) 0 0), (10, .ptr (M5 + 4) 0 0)] ∧ σ = hp E0 [(N0 + 4, some ⟨129, 2, [[.int .i64 r7.2.colors, .osl 47 5 (encL rInstr r7.2.list)]]⟩), (N0 + 18, some ⟨3, 1, [[.int .i64 r6.1]]⟩), (M5 + 4, some ⟨3, 1, [[.int .i64 r7.1]]⟩)] M6) (fun K hK => ?_) ?_
    ·
     skip
     have e0 := nq (a := N0 + 4) (b := M5 + 4) (by omega)
     have e1 := nq (a := N0) (b := M5) (by omega)
     have e2 := nq (a := N0 + 18) (b := M5 + 4) (by omega)
     have e3 := nq (a := N0 + 14) (b := M5) (by omega)
     simp -dsimp -implicitDefEqProofs (maxDischargeDepth := 6) [e0, e1, e2, e3]
     refine (c117 (W0 := [[.int .i64 r6.2.colors, .osl 47 5 (encL rInstr r6.2.list)]]) (r0_ := 0) (H := hr7) (by simp [e0, e1, e2, e3]) (by simp [e0, e1, e2, e3])).mono ?_; rintro _ _ ⟨M6, fM6_0, rfl, rfl⟩; simp only [hp_next] at fM6_0
     try simp -dsimp -implicitDefEqProofs (maxDischargeDepth := 6) [e0, e1, e2, e3, hp_over_some, hp_over_none]
     exact hK _ _ ⟨M6, (by omega), rfl, rfl⟩
    rintro a σ ⟨M6, fM6_0, rfl, rfl⟩
    have z7 := nq (a := N0 + 4) (b := M5 + 4) (by omega)
    have z8 := nq (a := N0) (b := M5) (by omega)
    have z9 := nq (a := N0 + 18) (b := M5 + 4) (by omega)
    have z10 := nq (a := N0 + 14) (b := M5) (by omega)
    refine gFrz AWP_ref 4 [N0 + 18] [(N0 + 4, some ⟨129, 2, [[.int .i64 r7.2.colors, .osl 47 5 (encL rInstr r7.2.list)]]⟩), (M5 + 4, some ⟨3, 1, [[.int .i64 r7.1]]⟩)] [(3, .fptr [.int .i64 p0.Op, .int .i64 p0.Dst, .int .i64 p0.A, .int .i64 p0.B, .int .i64 p0.N] 0), (7, .ptr (N0 + 4) 0 0), (9, .fptr [.int .i64 r6.1] 0), (10, .ptr (M5 + 4) 0 0)] (by simp [z7, z8, z9, z10]) (cutD (by simp [z7, z8, z9, z10])) ?_
    have z11 := nq (a := N0 + 4) (b := M5 + 4) (by omega)
    have z12 := nq (a := N0) (b := M5) (by omega)
    refine gFrz AWP_ref 4 [M5 + 4] [(N0 + 4, some ⟨129, 2, [[.int .i64 r7.2.colors, .osl 47 5 (encL rInstr r7.2.list)]]⟩)] [(3, .fptr [.int .i64 p0.Op, .int .i64 p0.Dst, .int .i64 p0.A, .int .i64 p0.B, .int .i64 p0.N] 0), (7, .ptr (N0 + 4) 0 0), (9, .fptr [.int .i64 r6.1] 0), (10, .fptr [.int .i64 r7.1] 0)] (by simp [z11, z12]) (cutD (by simp [z11, z12])) ?_
    obtain ⟨r10, hr10, H⟩ := bindE H
    refine AWP_rt tok [] [7] (fun a σ => ∃ M7 : Nat, M6 + 5 ≤ M7 ∧ a = [(7, .ptr (N0 + 4) 0 0)] ∧ σ = hp E0 [(N0 + 4, some ⟨129, 2, [[.int .i64 r10.colors, .osl 47 5 (encL rInstr r10.list)]]⟩)] M7) (fun K hK => ?_) ?_
    ·
     skip
     simp -dsimp -implicitDefEqProofs (maxDischargeDepth := 6)
     refine (c115_i_quadInstrs_3 (W0 := [[.int .i64 r7.2.colors, .osl 47 5 (encL rInstr r7.2.list)]]) (r0_ := 0) (H := hr10) (by simp []) (by simp [])).mono ?_; rintro _ _ ⟨M7, fM7_0, rfl, rfl⟩; simp only [hp_next] at fM7_0
     try simp -dsimp -implicitDefEqProofs (maxDischargeDepth := 6) [hp_over_some, hp_over_none]
     exact hK _ _ ⟨M7, (by omega), rfl, rfl⟩
    rintro a σ ⟨M7, fM7_0, ha, rfl⟩
    replace H := Option.some.inj H; subst H
    refine hJ1 _ _ ?_; rw [ha]
    exact Rc.fin (AHeap.Sub.refl _) ⟨M7, (by omega), (by omega), rfl, rfl⟩
   ·
    replace H := ifF C3 H
    refine AWP_sr tok [] [2, 3, 7, 15, 49] (fun a σ => a = [(2, .int .i64 p2), (3, .fptr [.int .i64 p0.Op, .int .i64 p0.Dst, .int .i64 p0.A, .int .i64 p0.B, .int .i64 p0.N] 0), (7, .ptr (N0 + 4) 0 0), (15, .int .i64 p0.Op), (49, .bool (ieq p0.Op 4))] ∧ σ = hp E0 [(N0 + 4, some ⟨129, 2, [[.int .i64 p1, .nilsl]]⟩)] (N0 + 16)) (fun K hK => ?_) ?_
    ·
     skip
     simp -dsimp -implicitDefEqProofs (maxDischargeDepth := 6)
     exact hK _ _ ⟨rfl, rfl⟩
    rintro a σ ⟨rfl, rfl⟩
    refine AWP_cond (ieq p0.Op 4) rfl (fun C4 => ?_) (fun C4 => ?_)
    ·
     replace H := ifT C4 H
     refine gPk0 AWP_ref (o := (N0 + 4)) (ob := ⟨129, 2, [[.int .i64 p1, .nilsl]]⟩) (row := [.int .i64 p1, .nilsl]) (r := 0) (i := 1) 47 5 [(N0 + 4, some ⟨129, 2, [[.int .i64 p1, .osl 47 5 (encL rInstr ([] : List gInstr))]]⟩)] (by simp (disch := omega)) rfl rfl (by simp (disch := omega)) (by simp (disch := omega) [encL_nil, List.set_set, app_set]) ?_
     obtain ⟨r11, hr11, H⟩ := bindE H
     refine AWP_rt tok [] [7] (fun a σ => ∃ M8 : Nat, N0 + 19 ≤ M8 ∧ a = [(7, .ptr (N0 + 4) 0 0)] ∧ σ = hp E0 [(N0 + 4, some ⟨129, 2, [[.int .i64 r11.colors, .osl 47 5 (encL rInstr r11.list)]]⟩)] M8) (fun K hK => ?_) ?_
     ·
      skip
      simp -dsimp -implicitDefEqProofs (maxDischargeDepth := 6)
      refine (c121 (W0 := [[.int .i64 p1, .osl 47 5 (encL rInstr ([] : List gInstr))]]) (r0_ := 0) (H := hr11) (by simp []) (by simp [])).mono ?_; rintro _ _ ⟨M8, fM8_0, rfl, rfl⟩; simp only [hp_next] at fM8_0
      try simp -dsimp -implicitDefEqProofs (maxDischargeDepth := 6) [hp_over_some, hp_over_none]
      exact hK _ _ ⟨M8, (by omega), rfl, rfl⟩
     rintro a σ ⟨M8, fM8_0, ha, rfl⟩
     replace H := Option.some.inj H; subst H
     refine hJ1 _ _ ?_; rw [ha]
     exact Rc.fin (AHeap.Sub.refl _) ⟨M8, (by omega), (by omega), rfl, rfl⟩
    ·
     replace H := ifF C4 H
     refine AWP_sr tok [] [2, 3, 7, 15, 54] (fun a σ => a = [(2, .int .i64 p2), (3, .fptr [.int .i64 p0.Op, .int .i64 p0.Dst, .int .i64 p0.A, .int .i64 p0.B, .int .i64 p0.N] 0), (7, .ptr (N0 + 4) 0 0), (15, .int .i64 p0.Op), (54, .bool (ieq p0.Op 5))] ∧ σ = hp E0 [(N0 + 4, some ⟨129, 2, [[.int .i64 p1, .nilsl]]⟩)] (N0 + 18)) (fun K hK => ?_) ?_
     ·
      skip
      simp -dsimp -implicitDefEqProofs (maxDischargeDepth := 6)
      exact hK _ _ ⟨rfl, rfl⟩
     rintro a σ ⟨rfl, rfl⟩
     refine AWP_cond (ieq p0.Op 5) rfl (fun C5 => ?_) (fun C5 => ?_)
     ·
      replace H := ifT C5 H
      refine gPk0 AWP_ref (o := (N0 + 4)) (ob := ⟨129, 2, [[.int .i64 p1, .nilsl]]⟩) (row := [.int .i64 p1, .nilsl]) (r := 0) (i := 1) 47 5 [(N0 + 4, some ⟨129, 2, [[.int .i64 p1, .osl 47 5 (encL rInstr ([] : List gInstr))]]⟩)] (by simp (disch := omega)) rfl rfl (by simp (disch := omega)) (by simp (disch := omega) [encL_nil, List.set_set, app_set]) ?_
      obtain ⟨r12, hr12, H⟩ := bindE H
      obtain ⟨r13, hr13, H⟩ := bindE H
      have q0 : ∀ σ i, buildSliceA T 29 true i 1 [(0, .agg [.int .i64 18, .int .i64 0, .int .i64 r12.1, .int .i64 0, .int .i64 8])] σ = some (.fsl (encL rInstr ([(⟨18, 0, r12.1, 0, 8⟩ : gInstr)] : List gInstr)), σ) := fun _ _ => rfl
      refine AWP_sr tok [6] [2, 7] (fun a σ => ∃ M9 : Nat, ∃ M10 : Nat, N0 + 26 ≤ M9 ∧ M9 ≤ M10 ∧ a = [(2, .int .i64 p2), (7, .ptr (N0 + 4) 0 0)] ∧ σ = hp E0 [(N0 + 4, some ⟨129, 2, [[.int .i64 r13.colors, .osl 47 5 (encL rInstr r13.list)]]⟩)] M10) (fun K hK => ?_) ?_
      ·
       skip
       simp -dsimp -implicitDefEqProofs (maxDischargeDepth := 6) [q0]
       refine (c117 (W0 := [[.int .i64 p1, .osl 47 5 (encL rInstr ([] : List gInstr))]]) (r0_ := 0) (H := hr12) (by simp [q0]) (by simp [q0])).mono ?_; rintro _ _ ⟨M9, fM9_0, rfl, rfl⟩; simp only [hp_next] at fM9_0
       try simp -dsimp -implicitDefEqProofs (maxDischargeDepth := 6) [q0, hp_over_some, hp_over_none]
       refine (c122 (W0 := [[.int .i64 r12.2.colors, .osl 47 5 (encL rInstr r12.2.list)]]) (r0_ := 0) (H := hr13) (by simp [q0, hp_over_some, hp_over_none]) (by simp [q0, hp_over_some, hp_over_none])).mono ?_; rintro _ _ ⟨M10, fM10_0, rfl, rfl⟩; simp only [hp_next] at fM10_0
       try simp -dsimp -implicitDefEqProofs (maxDischargeDepth := 6) [q0, hp_over_some, hp_over_none, hp_over_some, hp_over_none]
       exact hK _ _ ⟨M9, M10, (by omega), (by omega), rfl, rfl⟩
      rintro a σ ⟨M9, M10, fM9_0, fM10_0, rfl, rfl⟩
      obtain ⟨r14, hr14, H⟩ := bindE H
      refine AWP_rt tok [] [7] (fun a σ => ∃ M11 : Nat, M10 + 3 ≤ M11 ∧ a = [(7, .ptr (N0 + 4) 0 0)] ∧ σ = hp E0 [(N0 + 4, some ⟨129, 2, [[.int .i64 r14.colors, .osl 47 5 (encL rInstr r14.list)]]⟩)] M11) (fun K hK => ?_) ?_
      ·
       skip
       simp -dsimp -implicitDefEqProofs (maxDischargeDepth := 6)
       refine (c121 (W0 := [[.int .i64 r13.colors, .osl 47 5 (encL rInstr r13.list)]]) (r0_ := 0) (H := hr14) (by simp []) (by simp [])).mono ?_; rintro _ _ ⟨M11, fM11_0, rfl, rfl⟩; simp only [hp_next] at fM11_0
       try simp -dsimp -implicitDefEqProofs (maxDischargeDepth := 6) [hp_over_some, hp_over_none]
       exact hK _ _ ⟨M11, (by omega), rfl, rfl⟩
      rintro a σ ⟨M11, fM11_0, ha, rfl⟩
      replace H := Option.some.inj H; subst H
      refine hJ1 _ _ ?_; rw [ha]
      exact Rc.fin (AHeap.Sub.refl _) ⟨M11, (by omega), (by omega), rfl, rfl⟩
     ·
      replace H := ifF C5 H
      refine AWP_sr tok [] [3, 7, 15, 67] (fun a σ => a = [(3, .fptr [.int .i64 p0.Op, .int .i64 p0.Dst, .int .i64 p0.A, .int .i64 p0.B, .int .i64 p0.N] 0), (7, .ptr (N0 + 4) 0 0), (15, .int .i64 p0.Op), (67, .bool (ieq p0.Op 6))] ∧ σ = hp E0 [(N0 + 4, some ⟨129, 2, [[.int .i64 p1, .nilsl]]⟩)] (N0 + 20)) (fun K hK => ?_) ?_
      ·
       skip
       simp -dsimp -implicitDefEqProofs (maxDischargeDepth := 6)
       exact hK _ _ ⟨rfl, rfl⟩
      rintro a σ ⟨rfl, rfl⟩
      refine AWP_cond (ieq p0.Op 6) rfl (fun C6 => ?_) (fun C6 => ?_)
      ·
       replace H := ifT C6 H
       refine gPk0 AWP_ref (o := (N0 + 4)) (ob := ⟨129, 2, [[.int .i64 p1, .nilsl]]⟩) (row := [.int .i64 p1, .nilsl]) (r := 0) (i := 1) 47 5 [(N0 + 4, some ⟨129, 2, [[.int .i64 p1, .osl 47 5 (encL rInstr ([] : List gInstr))]]⟩)] (by simp (disch := omega)) rfl rfl (by simp (disch := omega)) (by simp (disch := omega) [encL_nil, List.set_set, app_set]) ?_
       obtain ⟨r15, hr15, H⟩ := bindE H
       obtain ⟨r16, hr16, H⟩ := bindE H
       obtain ⟨r17, hr17, H⟩ := bindE H
       obtain ⟨r18, hr18, H⟩ := bindE H
       have q1 : ∀ σ i, buildSliceA T 29 true i 2 [(0, .agg [.int .i64 r16.Op, .int .i64 r16.Rd, .int .i64 r16.Rs, .int .i64 r16.Rt, .int .i64 r16.Imm]), (1, .agg [.int .i64 r17.Op, .int .i64 r17.Rd, .int .i64 r17.Rs, .int .i64 r17.Rt, .int .i64 r17.Imm])] σ = some (.fsl (encL rInstr ([r16, r17] : List gInstr)), σ) := fun _ _ => rfl
       refine AWP_sd tok tokM [9] [4, 10] [0, 1, 2, 3, 6, 7, 4, 5, 8, 9, 10] [7] (fun a σ => ∃ M12 : Nat, ∃ M13 : Nat, N0 + 31 ≤ M12 ∧ M12 ≤ M13 ∧ a = [(7, .ptr (N0 + 4) 0 0)] ∧ σ = hp E0 [(N0 + 4, some ⟨129, 2, [[.int .i64 r18.colors, .osl 47 5 (encL rInstr r18.list)]]⟩)] M13) (by decide) (fun K hK => ?_) ?_
       ·
        simp only [pickL, nthO_succ, nthO_zero]
        simp -dsimp -implicitDefEqProofs (maxDischargeDepth := 6) [q1]
        refine (c117 (W0 := [[.int .i64 p1, .osl 47 5 (encL rInstr ([] : List gInstr))]]) (r0_ := 0) (H := hr15) (by simp [q1]) (by simp [q1])).mono ?_; rintro _ _ ⟨M12, fM12_0, rfl, rfl⟩; simp only [hp_next] at fM12_0
        try simp -dsimp -implicitDefEqProofs (maxDischargeDepth := 6) [q1, hp_over_some, hp_over_none]
        refine Pc.mk (c119 hr16) ?_; try simp -dsimp -implicitDefEqProofs (maxDischargeDepth := 6) [q1, hp_over_some, hp_over_none]
        refine Pc.mk (c119 hr17) ?_; try simp -dsimp -implicitDefEqProofs (maxDischargeDepth := 6) [q1, hp_over_some, hp_over_none]
        refine (c122 (W0 := [[.int .i64 r15.2.colors, .osl 47 5 (encL rInstr r15.2.list)]]) (r0_ := 0) (H := hr18) (by simp [q1, hp_over_some, hp_over_none]) (by simp [q1, hp_over_some, hp_over_none])).mono ?_; rintro _ _ ⟨M13, fM13_0, rfl, rfl⟩; simp only [hp_next] at fM13_0
        try simp -dsimp -implicitDefEqProofs (maxDischargeDepth := 6) [q1, hp_over_some, hp_over_none, hp_over_some, hp_over_none]
        exact hK _ _ ⟨M12, M13, (by omega), (by omega), rfl, rfl⟩
       rintro a σ ⟨M12, M13, fM12_0, fM13_0, rfl, rfl⟩
       obtain ⟨r19, hr19, H⟩ := bindE H
       refine AWP_rt tok [] [7] (fun a σ => ∃ M14 : Nat, M13 + 2 ≤ M14 ∧ a = [(7, .ptr (N0 + 4) 0 0)] ∧ σ = hp E0 [(N0 + 4, some ⟨129, 2, [[.int .i64 r19.colors, .osl 47 5 (encL rInstr r19.list)]]⟩)] M14) (fun K hK => ?_) ?_
       ·
        skip
        simp -dsimp -implicitDefEqProofs (maxDischargeDepth := 6)
        refine (c123 (W0 := [[.int .i64 r18.colors, .osl 47 5 (encL rInstr r18.list)]]) (r0_ := 0) (H := hr19) (by simp []) (by simp [])).mono ?_; rintro _ _ ⟨M14, fM14_0, rfl, rfl⟩; simp only [hp_next] at fM14_0
        try simp -dsimp -implicitDefEqProofs (maxDischargeDepth := 6) [hp_over_some, hp_over_none]
        exact hK _ _ ⟨M14, (by omega), rfl, rfl⟩
       rintro a σ ⟨M14, fM14_0, ha, rfl⟩
       replace H := Option.some.inj H; subst H
       refine hJ1 _ _ ?_; rw [ha]
       exact Rc.fin (AHeap.Sub.refl _) ⟨M14, (by omega), (by omega), rfl, rfl⟩
      ·
       replace H := ifF C6 H
       refine AWP_sr tok [] [3, 7, 15, 82] (fun a σ => a = [(3, .fptr [.int .i64 p0.Op, .int .i64 p0.Dst, .int .i64 p0.A, .int .i64 p0.B, .int .i64 p0.N] 0), (7, .ptr (N0 + 4) 0 0), (15, .int .i64 p0.Op), (82, .bool (ieq p0.Op 7))] ∧ σ = hp E0 [(N0 + 4, some ⟨129, 2, [[.int .i64 p1, .nilsl]]⟩)] (N0 + 22)) (fun K hK => ?_) ?_
       ·
        skip
        simp -dsimp -implicitDefEqProofs (maxDischargeDepth := 6)
        exact hK _ _ ⟨rfl, rfl⟩
       rintro a σ ⟨rfl, rfl⟩
       refine AWP_cond (ieq p0.Op 7) rfl (fun C7 => ?_) (fun C7 => ?_)
       ·
        replace H := ifT C7 H
        refine gPk0 AWP_ref (o := (N0 + 4)) (ob := ⟨129, 2, [[.int .i64 p1, .nilsl]]⟩) (row := [.int .i64 p1, .nilsl]) (r := 0) (i := 1) 47 5 [(N0 + 4, some ⟨129, 2, [[.int .i64 p1, .osl 47 5 (encL rInstr ([] : List gInstr))]]⟩)] (by simp (disch := omega)) rfl rfl (by simp (disch := omega)) (by simp (disch := omega) [encL_nil, List.set_set, app_set]) ?_
        obtain ⟨r20, hr20, H⟩ := bindE H
        obtain ⟨r21, hr21, H⟩ := bindE H
        have q2 : ∀ σ i, buildSliceA T 29 true i 1 [(0, .agg [.int .i64 r20.Op, .int .i64 r20.Rd, .int .i64 r20.Rs, .int .i64 r20.Rt, .int .i64 r20.Imm])] σ = some (.fsl (encL rInstr ([r20] : List gInstr)), σ) := fun _ _ => rfl
        refine AWP_sr tok [4] [3, 7] (fun a σ => ∃ M15 : Nat, N0 + 28 ≤ M15 ∧ a = [(3, .fptr [.int .i64 p0.Op, .int .i64 p0.Dst, .int .i64 p0.A, .int .i64 p0.B, .int .i64 p0.N] 0), (7, .ptr (N0 + 4) 0 0)] ∧ σ = hp E0 [(N0 + 4, some ⟨129, 2, [[.int .i64 r21.colors, .osl 47 5 (encL rInstr r21.list)]]⟩)] M15) (fun K hK => ?_) ?_
        ·
         skip
         simp -dsimp -implicitDefEqProofs (maxDischargeDepth := 6) [q2]
         refine (c119 hr20).app ?_; try simp -dsimp -implicitDefEqProofs (maxDischargeDepth := 6) [q2]
         refine (c122 (W0 := [[.int .i64 p1, .osl 47 5 (encL rInstr ([] : List gInstr))]]) (r0_ := 0) (H := hr21) (by simp [q2]) (by simp [q2])).mono ?_; rintro _ _ ⟨M15, fM15_0, rfl, rfl⟩; simp only [hp_next] at fM15_0
         try simp -dsimp -implicitDefEqProofs (maxDischargeDepth := 6) [q2, hp_over_some, hp_over_none]
         exact hK _ _ ⟨M15, (by omega), rfl, rfl⟩
        rintro a σ ⟨M15, fM15_0, rfl, rfl⟩
        obtain ⟨r22, hr22, H⟩ := bindE H
        refine AWP_sr tok [] [3, 7] (fun a σ => ∃ M16 : Nat, M15 + 2 ≤ M16 ∧ a = [(3, .fptr [.int .i64 p0.Op, .int .i64 p0.Dst, .int .i64 p0.A, .int .i64 p0.B, .int .i64 p0.N] 0), (7, .ptr (N0 + 4) 0 0)] ∧ σ = hp E0 [(N0 + 4, some ⟨129, 2, [[.int .i64 r22.colors, .osl 47 5 (encL rInstr r22.list)]]⟩)] M16) (fun K hK => ?_) ?_
        ·
         skip
         simp -dsimp -implicitDefEqProofs (maxDischargeDepth := 6)
         refine (c123 (W0 := [[.int .i64 r21.colors, .osl 47 5 (encL rInstr r21.list)]]) (r0_ := 0) (H := hr22) (by simp []) (by simp [])).mono ?_; rintro _ _ ⟨M16, fM16_0, rfl, rfl⟩; simp only [hp_next] at fM16_0
         try simp -dsimp -implicitDefEqProofs (maxDischargeDepth := 6) [hp_over_some, hp_over_none]
         exact hK _ _ ⟨M16, (by omega), rfl, rfl⟩
        rintro a σ ⟨M16, fM16_0, rfl, rfl⟩
        obtain ⟨r23, hr23, H⟩ := bindE H
        refine AWP_rt tok [] [7] (fun a σ => ∃ M17 : Nat, M16 + 4 ≤ M17 ∧ a = [(7, .ptr (N0 + 4) 0 0)] ∧ σ = hp E0 [(N0 + 4, some ⟨129, 2, [[.int .i64 r23.colors, .osl 47 5 (encL rInstr r23.list)]]⟩)] M17) (fun K hK => ?_) ?_
        ·
         skip
         simp -dsimp -implicitDefEqProofs (maxDischargeDepth := 6)
         refine (c115_i_quadInstrs_4 (W0 := [[.int .i64 r22.colors, .osl 47 5 (encL rInstr r22.list)]]) (r0_ := 0) (H := hr23) (by simp []) (by simp [])).mono ?_; rintro _ _ ⟨M17, fM17_0, rfl, rfl⟩; simp only [hp_next] at fM17_0
         try simp -dsimp -implicitDefEqProofs (maxDischargeDepth := 6) [hp_over_some, hp_over_none]
         exact hK _ _ ⟨M17, (by omega), rfl, rfl⟩
        rintro a σ ⟨M17, fM17_0, ha, rfl⟩
        replace H := Option.some.inj H; subst H
        refine hJ1 _ _ ?_; rw [ha]
        exact Rc.fin (AHeap.Sub.refl _) ⟨M17, (by omega), (by omega), rfl, rfl⟩
       ·
        replace H := ifF C7 H
        refine AWP_sr tok [] [3, 7, 15, 96] (fun a σ => a = [(3, .fptr [.int .i64 p0.Op, .int .i64 p0.Dst, .int .i64 p0.A, .int .i64 p0.B, .int .i64 p0.N] 0), (7, .ptr (N0 + 4) 0 0), (15, .int .i64 p0.Op), (96, .bool (ieq p0.Op 8))] ∧ σ = hp E0 [(N0 + 4, some ⟨129, 2, [[.int .i64 p1, .nilsl]]⟩)] (N0 + 24)) (fun K hK => ?_) ?_
        ·
         skip
         simp -dsimp -implicitDefEqProofs (maxDischargeDepth := 6)
         exact hK _ _ ⟨rfl, rfl⟩
        rintro a σ ⟨rfl, rfl⟩
        refine AWP_cond (ieq p0.Op 8) rfl (fun C8 => ?_) (fun C8 => ?_)
        ·
         replace H := ifT C8 H
         refine gPk0 AWP_ref (o := (N0 + 4)) (ob := ⟨129, 2, [[.int .i64 p1, .nilsl]]⟩) (row := [.int .i64 p1, .nilsl]) (r := 0) (i := 1) 47 5 [(N0 + 4, some ⟨129, 2, [[.int .i64 p1, .osl 47 5 (encL rInstr ([] : List gInstr))]]⟩)] (by simp (disch := omega)) rfl rfl (by simp (disch := omega)) (by simp (disch := omega) [encL_nil, List.set_set, app_set]) ?_
         obtain ⟨r24, hr24, H⟩ := bindE H
         refine AWP_rt tok [] [7] (fun a σ => ∃ M18 : Nat, N0 + 26 ≤ M18 ∧ a = [(7, .ptr (N0 + 4) 0 0)] ∧ σ = hp E0 [(N0 + 4, some ⟨129, 2, [[.int .i64 r24.colors, .osl 47 5 (encL rInstr r24.list)]]⟩)] M18) (fun K hK => ?_) ?_
         ·
          skip
          simp -dsimp -implicitDefEqProofs (maxDischargeDepth := 6)
          refine (c123 (W0 := [[.int .i64 p1, .osl 47 5 (encL rInstr ([] : List gInstr))]]) (r0_ := 0) (H := hr24) (by simp []) (by simp [])).mono ?_; rintro _ _ ⟨M18, fM18_0, rfl, rfl⟩; simp only [hp_next] at fM18_0
          try simp -dsimp -implicitDefEqProofs (maxDischargeDepth := 6) [hp_over_some, hp_over_none]
          exact hK _ _ ⟨M18, (by omega), rfl, rfl⟩
         rintro a σ ⟨M18, fM18_0, ha, rfl⟩
         replace H := Option.some.inj H; subst H
         refine hJ1 _ _ ?_; rw [ha]
         exact Rc.fin (AHeap.Sub.refl _) ⟨M18, (by omega), (by omega), rfl, rfl⟩
        ·
         replace H := ifF C8 H
         refine AWP_sr tok [] [3, 7, 15, 100] (fun a σ => a = [(3, .fptr [.int .i64 p0.Op, .int .i64 p0.Dst, .int .i64 p0.A, .int .i64 p0.B, .int .i64 p0.N] 0), (7, .ptr (N0 + 4) 0 0), (15, .int .i64 p0.Op), (100, .bool (ieq p0.Op 9))] ∧ σ = hp E0 [(N0 + 4, some ⟨129, 2, [[.int .i64 p1, .nilsl]]⟩)] (N0 + 26)) (fun K hK => ?_) ?_
         ·
          skip
          simp -dsimp -implicitDefEqProofs (maxDischargeDepth := 6)
          exact hK _ _ ⟨rfl, rfl⟩
         rintro a σ ⟨rfl, rfl⟩
         refine AWP_cond (ieq p0.Op 9) rfl (fun C9 => ?_) (fun C9 => ?_)
         ·
          replace H := ifT C9 H
          refine gPk0 AWP_ref (o := (N0 + 4)) (ob := ⟨129, 2, [[.int .i64 p1, .nilsl]]⟩) (row := [.int .i64 p1, .nilsl]) (r := 0) (i := 1) 47 5 [(N0 + 4, some ⟨129, 2, [[.int .i64 p1, .osl 47 5 (encL rInstr ([] : List gInstr))]]⟩)] (by simp (disch := omega)) rfl rfl (by simp (disch := omega)) (by simp (disch := omega) [encL_nil, List.set_set, app_set]) ?_
          obtain ⟨r25, hr25, H⟩ := bindE H
          obtain ⟨r26, hr26, H⟩ := bindE H
          obtain ⟨r27, hr27, H⟩ := bindE H
          have q3 : ∀ σ i, buildSliceA T 29 true i 1 [(0, .agg [.int .i64 r26.Op, .int .i64 r26.Rd, .int .i64 r26.Rs, .int .i64 r26.Rt, .int .i64 r26.Imm])] σ = some (.fsl (encL rInstr ([r26] : List gInstr)), σ) := fun _ _ => rfl
          refine AWP_sr tok [6] [7] (fun a σ => ∃ M19 : Nat, ∃ M20 : Nat, N0 + 34 ≤ M19 ∧ M19 ≤ M20 ∧ a = [(7, .ptr (N0 + 4) 0 0)] ∧ σ = hp E0 [(N0 + 4, some ⟨129, 2, [[.int .i64 r27.colors, .osl 47 5 (encL rInstr r27.list)]]⟩)] M20) (fun K hK => ?_) ?_
          ·
           skip
           simp -dsimp -implicitDefEqProofs (maxDischargeDepth := 6) [q3]
           refine (c117 (W0 := [[.int .i64 p1, .osl 47 5 (encL rInstr ([] : List gInstr))]]) (r0_ := 0) (H := hr25) (by simp [q3]) (by simp [q3])).mono ?_; rintro _ _ ⟨M19, fM19_0, rfl, rfl⟩; simp only [hp_next] at fM19_0
           try simp -dsimp -implicitDefEqProofs (maxDischargeDepth := 6) [q3, hp_over_some, hp_over_none]
           refine (c119 hr26).app ?_; try simp -dsimp -implicitDefEqProofs (maxDischargeDepth := 6) [q3, hp_over_some, hp_over_none]
           refine (c122 (W0 := [[.int .i64 r25.2.colors, .osl 47 5 (encL rInstr r25.2.list)]]) (r0_ := 0) (H := hr27) (by simp [q3, hp_over_some, hp_over_none]) (by simp [q3, hp_over_some, hp_over_none])).mono ?_; rintro _ _ ⟨M20, fM20_0, rfl, rfl⟩; simp only [hp_next] at fM20_0
           try simp -dsimp -implicitDefEqProofs (maxDischargeDepth := 6) [q3, hp_over_some, hp_over_none, hp_over_some, hp_over_none]
           exact hK _ _ ⟨M19, M20, (by omega), (by omega), rfl, rfl⟩
          rintro a σ ⟨M19, M20, fM19_0, fM20_0, rfl, rfl⟩
          obtain ⟨r28, hr28, H⟩ := bindE H
          refine AWP_rt tok [] [7] (fun a σ => ∃ M21 : Nat, M20 + 2 ≤ M21 ∧ a = [(7, .ptr (N0 + 4) 0 0)] ∧ σ = hp E0 [(N0 + 4, some ⟨129, 2, [[.int .i64 r28.colors, .osl 47 5 (encL rInstr r28.list)]]⟩)] M21) (fun K hK => ?_) ?_
          ·
           skip
           simp -dsimp -implicitDefEqProofs (maxDischargeDepth := 6)
           refine (c123 (W0 := [[.int .i64 r27.colors, .osl 47 5 (encL rInstr r27.list)]]) (r0_ := 0) (H := hr28) (by simp []) (by simp [])).mono ?_; rintro _ _ ⟨M21, fM21_0, rfl, rfl⟩; simp only [hp_next] at fM21_0
           try simp -dsimp -implicitDefEqProofs (maxDischargeDepth := 6) [hp_over_some, hp_over_none]
           exact hK _ _ ⟨M21, (by omega), rfl, rfl⟩
          rintro a σ ⟨M21, fM21_0, ha, rfl⟩
          replace H := Option.some.inj H; subst H
          refine hJ1 _ _ ?_; rw [ha]
          exact Rc.fin (AHeap.Sub.refl _) ⟨M21, (by omega), (by omega), rfl, rfl⟩
         ·
          replace H := ifF C9 H
          refine AWP_sr tok [] [7, 112] (fun a σ => a = [(7, .ptr (N0 + 4) 0 0), (112, .bool (ieq p0.Op 10))] ∧ σ = hp E0 [(N0 + 4, some ⟨129, 2, [[.int .i64 p1, .nilsl]]⟩)] (N0 + 28)) (fun K hK => ?_) ?_
          ·
           skip
           simp -dsimp -implicitDefEqProofs (maxDischargeDepth := 6)
           exact hK _ _ ⟨rfl, rfl⟩
          rintro a σ ⟨rfl, rfl⟩
          refine AWP_cond (ieq p0.Op 10) rfl (fun C10 => ?_) (fun C10 => ?_)
          ·
           replace H := ifT C10 H
           refine gPk0 AWP_ref (o := (N0 + 4)) (ob := ⟨129, 2, [[.int .i64 p1, .nilsl]]⟩) (row := [.int .i64 p1, .nilsl]) (r := 0) (i := 1) 47 5 [(N0 + 4, some ⟨129, 2, [[.int .i64 p1, .osl 47 5 (encL rInstr ([] : List gInstr))]]⟩)] (by simp (disch := omega)) rfl rfl (by simp (disch := omega)) (by simp (disch := omega) [encL_nil, List.set_set, app_set]) ?_
           obtain ⟨r29, hr29, H⟩ := bindE H
           refine AWP_rt tok [] [7] (fun a σ => ∃ M22 : Nat, N0 + 30 ≤ M22 ∧ a = [(7, .ptr (N0 + 4) 0 0)] ∧ σ = hp E0 [(N0 + 4, some ⟨129, 2, [[.int .i64 r29.colors, .osl 47 5 (encL rInstr r29.list)]]⟩)] M22) (fun K hK => ?_) ?_
           ·
            skip
            simp -dsimp -implicitDefEqProofs (maxDischargeDepth := 6)
            refine (c123 (W0 := [[.int .i64 p1, .osl 47 5 (encL rInstr ([] : List gInstr))]]) (r0_ := 0) (H := hr29) (by simp []) (by simp [])).mono ?_; rintro _ _ ⟨M22, fM22_0, rfl, rfl⟩; simp only [hp_next] at fM22_0
            try simp -dsimp -implicitDefEqProofs (maxDischargeDepth := 6) [hp_over_some, hp_over_none]
            exact hK _ _ ⟨M22, (by omega), rfl, rfl⟩
           rintro a σ ⟨M22, fM22_0, ha, rfl⟩
           replace H := Option.some.inj H; subst H
           refine hJ1 _ _ ?_; rw [ha]
           exact Rc.fin (AHeap.Sub.refl _) ⟨M22, (by omega), (by omega), rfl, rfl⟩
          ·
           replace H := ifF C10 H
           refine AWP_skip ?_
           show K1 _ _
           refine keepE (l := [7]) (x := [(7, .ptr (N0 + 4) 0 0)]) rfl fun a' ha => ?_
           replace H := Option.some.inj H; subst H
           refine hJ1 _ _ ?_; rw [ha]
           refine gPk0 Rc_ref (o := (N0 + 4)) (ob := ⟨129, 2, [[.int .i64 p1, .nilsl]]⟩) (row := [.int .i64 p1, .nilsl]) (r := 0) (i := 1) 47 5 [(N0 + 4, some ⟨129, 2, [[.int .i64 p1, .osl 47 5 (encL rInstr ([] : List gInstr))]]⟩)] (by simp (disch := omega)) rfl rfl (by simp (disch := omega)) (by simp (disch := omega) [encL_nil, List.set_set, app_set]) ?_
           exact Rc.fin (AHeap.Sub.refl _) ⟨N0 + 28, (by omega), (by omega), rfl, rfl⟩
theorem c63 {p0 : gInstr} {p1 : gInstr} {r : Bool} (H : l_eqInstr p0 p1 = some r) : APure Tryd.prog G 63 [.agg [.int .i64 p0.Op, .int .i64 p0.Rd, .int .i64 p0.Rs, .int .i64 p0.Rt, .int .i64 p0.Imm], .agg [.int .i64 p1.Op, .int .i64 p1.Rd, .int .i64 p1.Rs, .int .i64 p1.Rt, .int .i64 p1.Imm]] (.bool r) := by
 refine APure_fn (fun N0 => ?_) (by simp)
 refine ACalls_fn tok Tryd.func63 (by kernel_rfl) rfl Tryd.ntmps63 Tryd.results63 rfl ?_
 simp only [argsA, Nat.reduceAdd, hp_next]
 unfold l_eqInstr at H
 refine AWP_sr tok [0, 1] [2, 3] (fun a σ => a = [(2, .fptr [.int .i64 p0.Op, .int .i64 p0.Rd, .int .i64 p0.Rs, .int .i64 p0.Rt, .int .i64 p0.Imm] 0), (3, .fptr [.int .i64 p1.Op, .int .i64 p1.Rd, .int .i64 p1.Rs, .int .i64 p1.Rt, .int .i64 p1.Imm] 0)] ∧ σ = hp E0 [] (N0 + 3)) (fun K hK => ?_) ?_
 ·
  skip
  simp -dsimp -implicitDefEqProofs (maxDischargeDepth := 6)
  exact hK _ _ ⟨rfl, rfl⟩
 rintro a σ ⟨rfl, rfl⟩
 refine AWP_sq [2, 3] fun K1 hK1 => ?_
 refine AWP_sr tok [] [2, 3, 9] (fun a σ => a = [(2, .fptr [.int .i64 p0.Op, .int .i64 p0.Rd, .int .i64 p0.Rs, .int .i64 p0.Rt, .int .i64 p0.Imm] 0), (3, .fptr [.int .i64 p1.Op, .int .i64 p1.Rd, .int .i64 p1.Rs, .int .i64 p1.Rt, .int .i64 p1.Imm] 0), (9, .bool (ine p0.Op p1.Op))] ∧ σ = hp E0 [] (N0 + 8)) (fun K hK => ?_) ?_
 ·
  skip
  simp -dsimp -implicitDefEqProofs (maxDischargeDepth := 6)
  exact hK _ _ ⟨rfl, rfl⟩
 rintro a σ ⟨rfl, rfl⟩
 refine AWP_cond (ine p0.Op p1.Op) rfl (fun C1 => ?_) (fun C1 => ?_)
 ·
  replace H := ifT C1 H
  refine AWP_sr tok [] [4] (fun a σ => a = [(4, .bool false)] ∧ σ = hp E0 [] (N0 + 9)) (fun K hK => ?_) ?_
  ·
   skip
   simp -dsimp -implicitDefEqProofs (maxDischargeDepth := 6)
   exact hK _ _ ⟨rfl, rfl⟩
  rintro a σ ⟨rfl, rfl⟩
  replace H := Option.some.inj H; subst H
  refine AWP_kp [4] [(4, .bool false)] rfl ?_
  refine AWP_ret ?_
  exact ⟨[.bool false], by simp, 4, by simp [encL_nil]⟩
 ·
  replace H := ifF C1 H
  refine AWP_skip ?_
  show K1 _ _
  refine keepE (l := [2, 3]) (x := [(2, .fptr [.int .i64 p0.Op, .int .i64 p0.Rd, .int .i64 p0.Rs, .int .i64 p0.Rt, .int .i64 p0.Imm] 0), (3, .fptr [.int .i64 p1.Op, .int .i64 p1.Rd, .int .i64 p1.Rs, .int .i64 p1.Rt, .int .i64 p1.Imm] 0)]) rfl fun a' ha => ?_
  refine hK1 _ _ ?_; rw [ha]
  refine Rc.mk ?_
  refine AWP_sq [2, 3] fun K2 hK2 => ?_
  refine AWP_sr tok [] [2, 3, 14] (fun a σ => a = [(2, .fptr [.int .i64 p0.Op, .int .i64 p0.Rd, .int .i64 p0.Rs, .int .i64 p0.Rt, .int .i64 p0.Imm] 0), (3, .fptr [.int .i64 p1.Op, .int .i64 p1.Rd, .int .i64 p1.Rs, .int .i64 p1.Rt, .int .i64 p1.Imm] 0), (14, .bool (ine p0.Rd p1.Rd))] ∧ σ = hp E0 [] (N0 + 13)) (fun K hK => ?_) ?_
  ·
   skip
   simp -dsimp -implicitDefEqProofs (maxDischargeDepth := 6)
   exact hK _ _ ⟨rfl, rfl⟩
  rintro a σ ⟨rfl, rfl⟩
  refine AWP_cond (ine p0.Rd p1.Rd) rfl (fun C2 => ?_) (fun C2 => ?_)
  ·
   replace H := ifT C2 H
   refine AWP_sr tok [] [4] (fun a σ => a = [(4, .bool false)] ∧ σ = hp E0 [] (N0 + 14)) (fun K hK => ?_) ?_
   ·
    skip
    simp -dsimp -implicitDefEqProofs (maxDischargeDepth := 6)
    exact hK _ _ ⟨rfl, rfl⟩
   rintro a σ ⟨rfl, rfl⟩
   replace H := Option.some.inj H; subst H
   refine AWP_kp [4] [(4, .bool false)] rfl ?_
   refine AWP_ret ?_
   exact ⟨[.bool false], by simp, 4, by simp [encL_nil]⟩
  ·
   replace H := ifF C2 H
   refine AWP_skip ?_
   show K2 _ _
   refine keepE (l := [2, 3]) (x := [(2, .fptr [.int .i64 p0.Op, .int .i64 p0.Rd, .int .i64 p0.Rs, .int .i64 p0.Rt, .int .i64 p0.Imm] 0), (3, .fptr [.int .i64 p1.Op, .int .i64 p1.Rd, .int .i64 p1.Rs, .int .i64 p1.Rt, .int .i64 p1.Imm] 0)]) rfl fun a' ha => ?_
   refine hK2 _ _ ?_; rw [ha]
   refine Rc.mk ?_
   refine AWP_sq [2, 3] fun K3 hK3 => ?_
   refine AWP_sr tok [] [2, 3, 19] (fun a σ => a = [(2, .fptr [.int .i64 p0.Op, .int .i64 p0.Rd, .int .i64 p0.Rs, .int .i64 p0.Rt, .int .i64 p0.Imm] 0), (3, .fptr [.int .i64 p1.Op, .int .i64 p1.Rd, .int .i64 p1.Rs, .int .i64 p1.Rt, .int .i64 p1.Imm] 0), (19, .bool (ine p0.Rs p1.Rs))] ∧ σ = hp E0 [] (N0 + 18)) (fun K hK => ?_) ?_
   ·
    skip
    simp -dsimp -implicitDefEqProofs (maxDischargeDepth := 6)
    exact hK _ _ ⟨rfl, rfl⟩
   rintro a σ ⟨rfl, rfl⟩
   refine AWP_cond (ine p0.Rs p1.Rs) rfl (fun C3 => ?_) (fun C3 => ?_)
   ·
    replace H := ifT C3 H
    refine AWP_sr tok [] [4] (fun a σ => a = [(4, .bool false)] ∧ σ = hp E0 [] (N0 + 19)) (fun K hK => ?_) ?_
    ·
     skip
     simp -dsimp -implicitDefEqProofs (maxDischargeDepth := 6)
     exact hK _ _ ⟨rfl, rfl⟩
    rintro a σ ⟨rfl, rfl⟩
    replace H := Option.some.inj H; subst H
    refine AWP_kp [4] [(4, .bool false)] rfl ?_
    refine AWP_ret ?_
    exact ⟨[.bool false], by simp, 4, by simp [encL_nil]⟩
   ·
    replace H := ifF C3 H
    refine AWP_skip ?_
    show K3 _ _
    refine keepE (l := [2, 3]) (x := [(2, .fptr [.int .i64 p0.Op, .int .i64 p0.Rd, .int .i64 p0.Rs, .int .i64 p0.Rt, .int .i64 p0.Imm] 0), (3, .fptr [.int .i64 p1.Op, .int .i64 p1.Rd, .int .i64 p1.Rs, .int .i64 p1.Rt, .int .i64 p1.Imm] 0)]) rfl fun a' ha => ?_
    refine hK3 _ _ ?_; rw [ha]
    refine Rc.mk ?_
    refine AWP_sq [2, 3] fun K4 hK4 => ?_
    refine AWP_sr tok [] [2, 3, 24] (fun a σ => a = [(2, .fptr [.int .i64 p0.Op, .int .i64 p0.Rd, .int .i64 p0.Rs, .int .i64 p0.Rt, .int .i64 p0.Imm] 0), (3, .fptr [.int .i64 p1.Op, .int .i64 p1.Rd, .int .i64 p1.Rs, .int .i64 p1.Rt, .int .i64 p1.Imm] 0), (24, .bool (ine p0.Rt p1.Rt))] ∧ σ = hp E0 [] (N0 + 23)) (fun K hK => ?_) ?_
    ·
     skip
     simp -dsimp -implicitDefEqProofs (maxDischargeDepth := 6)
     exact hK _ _ ⟨rfl, rfl⟩
    rintro a σ ⟨rfl, rfl⟩
    refine AWP_cond (ine p0.Rt p1.Rt) rfl (fun C4 => ?_) (fun C4 => ?_)
    ·
     replace H := ifT C4 H
     refine AWP_sr tok [] [4] (fun a σ => a = [(4, .bool false)] ∧ σ = hp E0 [] (N0 + 24)) (fun K hK => ?_) ?_
     ·
      skip
      simp -dsimp -implicitDefEqProofs (maxDischargeDepth := 6)
      exact hK _ _ ⟨rfl, rfl⟩
     rintro a σ ⟨rfl, rfl⟩
     replace H := Option.some.inj H; subst H
     refine AWP_kp [4] [(4, .bool false)] rfl ?_
     refine AWP_ret ?_
     exact ⟨[.bool false], by simp, 4, by simp [encL_nil]⟩
    ·
     replace H := ifF C4 H
     refine AWP_skip ?_
     show K4 _ _
     refine keepE (l := [2, 3]) (x := [(2, .fptr [.int .i64 p0.Op, .int .i64 p0.Rd, .int .i64 p0.Rs, .int .i64 p0.Rt, .int .i64 p0.Imm] 0), (3, .fptr [.int .i64 p1.Op, .int .i64 p1.Rd, .int .i64 p1.Rs, .int .i64 p1.Rt, .int .i64 p1.Imm] 0)]) rfl fun a' ha => ?_
     refine hK4 _ _ ?_; rw [ha]
     refine Rc.mk ?_
     refine AWP_sq [] fun K5 hK5 => ?_
     refine AWP_sr tok [] [29] (fun a σ => a = [(29, .bool (ine p0.Imm p1.Imm))] ∧ σ = hp E0 [] (N0 + 28)) (fun K hK => ?_) ?_
     ·
      skip
      simp -dsimp -implicitDefEqProofs (maxDischargeDepth := 6)
      exact hK _ _ ⟨rfl, rfl⟩
     rintro a σ ⟨rfl, rfl⟩
     refine AWP_cond (ine p0.Imm p1.Imm) rfl (fun C5 => ?_) (fun C5 => ?_)
     ·
      replace H := ifT C5 H
      refine AWP_sr tok [] [4] (fun a σ => a = [(4, .bool false)] ∧ σ = hp E0 [] (N0 + 29)) (fun K hK => ?_) ?_
      ·
       skip
       simp -dsimp -implicitDefEqProofs (maxDischargeDepth := 6)
       exact hK _ _ ⟨rfl, rfl⟩
      rintro a σ ⟨rfl, rfl⟩
      replace H := Option.some.inj H; subst H
      refine AWP_kp [4] [(4, .bool false)] rfl ?_
      refine AWP_ret ?_
      exact ⟨[.bool false], by simp, 4, by simp [encL_nil]⟩
     ·
      replace H := ifF C5 H
      refine AWP_skip ?_
      show K5 _ _
      refine keepE (l := []) (x := []) rfl fun a' ha => ?_
      refine hK5 _ _ ?_; rw [ha]
      refine Rc.mk ?_
      refine AWP_sr tok [] [4] (fun a σ => a = [(4, .bool true)] ∧ σ = hp E0 [] (N0 + 29)) (fun K hK => ?_) ?_
      ·
       skip
       simp -dsimp -implicitDefEqProofs (maxDischargeDepth := 6)
       exact hK _ _ ⟨rfl, rfl⟩
      rintro a σ ⟨rfl, rfl⟩
      replace H := Option.some.inj H; subst H
      refine AWP_kp [4] [(4, .bool true)] rfl ?_
      refine AWP_ret ?_
      exact ⟨[.bool true], by simp, 4, by simp [encL_nil]⟩
theorem c19 {p0 : (List gInstr)} {p1 : (List gInstr)} {r : Bool} (H : l_eqInstrS p0 p1 = some r) : APure Tryd.prog G 19 [.fsl (encL rInstr p0), .fsl (encL rInstr p1)] (.bool r) := by
 refine APure_fn (fun N0 => ?_) (by simp)
 refine ACalls_fn tok Tryd.func19 (by kernel_rfl) rfl Tryd.ntmps19 Tryd.results19 rfl ?_
 simp only [argsA, Nat.reduceAdd, hp_next]
 unfold l_eqInstrS at H
 refine AWP_sr tok [] [0, 1] (fun a σ => a = [(0, .fsl (encL rInstr p0)), (1, .fsl (encL rInstr p1))] ∧ σ = hp E0 [] (N0 + 1)) (fun K hK => ?_) ?_
 ·
  skip
  simp -dsimp -implicitDefEqProofs (maxDischargeDepth := 6)
  exact hK _ _ ⟨rfl, rfl⟩
 rintro a σ ⟨rfl, rfl⟩
 refine AWP_sq [0, 1] fun K1 hK1 => ?_
 refine AWP_sr tok [] [0, 1, 10] (fun a σ => a = [(0, .fsl (encL rInstr p0)), (1, .fsl (encL rInstr p1)), (10, .bool (ine (ilen p0) (ilen p1)))] ∧ σ = hp E0 [] (N0 + 6)) (fun K hK => ?_) ?_
 ·
  skip
  simp -dsimp -implicitDefEqProofs (maxDischargeDepth := 6)
  exact hK _ _ ⟨rfl, rfl⟩
 rintro a σ ⟨rfl, rfl⟩
 refine AWP_cond (ine (ilen p0) (ilen p1)) rfl (fun C1 => ?_) (fun C1 => ?_)
 ·
  replace H := ifT C1 H
  refine AWP_sr tok [] [4] (fun a σ => a = [(4, .bool false)] ∧ σ = hp E0 [] (N0 + 7)) (fun K hK => ?_) ?_
  ·
   skip
   simp -dsimp -implicitDefEqProofs (maxDischargeDepth := 6)
   exact hK _ _ ⟨rfl, rfl⟩
  rintro a σ ⟨rfl, rfl⟩
  replace H := Option.some.inj H; subst H
  refine AWP_kp [4] [(4, .bool false)] rfl ?_
  refine AWP_ret ?_
  exact ⟨[.bool false], by simp, 4, by simp [encL_nil]⟩
 ·
  replace H := ifF C1 H
  refine AWP_skip ?_
  show K1 _ _
  refine keepE (l := [0, 1]) (x := [(0, .fsl (encL rInstr p0)), (1, .fsl (encL rInstr p1))]) rfl fun a' ha => ?_
  refine hK1 _ _ ?_; rw [ha]
  refine Rc.mk ?_
  refine AWP_sq [] fun K2 hK2 => ?_
  refine AWP_sr tok [] [0, 1, 5] (fun a σ => a = [(0, .fsl (encL rInstr p0)), (1, .fsl (encL rInstr p1)), (5, .int .i64 0)] ∧ σ = hp E0 [] (N0 + 7)) (fun K hK => ?_) ?_
  ·
   skip
   simp -dsimp -implicitDefEqProofs (maxDischargeDepth := 6)
   exact hK _ _ ⟨rfl, rfl⟩
  rintro a σ ⟨rfl, rfl⟩
  refine AWP_block (AWP_thenB ?_)
  obtain ⟨e1, hse1, H⟩ := bindE H
  refine AWP_lp [0, 1, 5] (fun s a σ => ∃ M1 : Nat, N0 ≤ M1 ∧ a = [(0, .fsl (encL rInstr p0)), (1, .fsl (encL rInstr p1)), (5, .int .i64 s)] ∧ σ = hp E0 [] M1) (fun e x a σ => match e with | .inl s => x = .exit 0 ∧ Rc G 27 N0 (fun a σ => ∃ M2 : Nat, N0 ≤ M2 ∧ a = [] ∧ σ = hp E0 [] M2) (AAct.keep a []) σ | .inr s => x = .ret ∧ ∃ vs, resA T σ a [.tmp 4] = some vs ∧ ∃ d, thawA (fun _ => true) σ d (tupA vs) = .bool s) hse1 ?_ ?_ ?_
  ·
   refine Rc.kp [0, 1, 5] [(0, .fsl (encL rInstr p0)), (1, .fsl (encL rInstr p1)), (5, .int .i64 0)] rfl ?_
   exact Rc.fin (AHeap.Sub.refl _) ⟨N0 + 7, (by omega), rfl, rfl⟩
  ·
   clear H hse1
   rintro s1 fl a σ H ⟨M1, fM1_0, rfl, rfl⟩ K3 O3 hK3 hO3
   unfold l_eqInstrS_L1 at H; dsimp only at H
   refine AWP_sq [0, 1, 5] fun K4 hK4 => ?_
   refine AWP_sr tok [] [0, 1, 5, 14] (fun a σ => a = [(0, .fsl (encL rInstr p0)), (1, .fsl (encL rInstr p1)), (5, .int .i64 s1), (14, .bool (ilt s1 (ilen p0)))] ∧ σ = hp E0 [] (M1 + 4)) (fun K hK => ?_) ?_
   ·
    skip
    simp -dsimp -implicitDefEqProofs (maxDischargeDepth := 6)
    exact hK _ _ ⟨rfl, rfl⟩
   rintro a σ ⟨rfl, rfl⟩
   refine AWP_cond (ilt s1 (ilen p0)) rfl (fun C2 => ?_) (fun C2 => ?_)
   ·
    replace H := ifT C2 H
    refine AWP_skip ?_
    show K4 _ _
    refine keepE (l := [0, 1, 5]) (x := [(0, .fsl (encL rInstr p0)), (1, .fsl (encL rInstr p1)), (5, .int .i64 s1)]) rfl fun a' ha => ?_
    refine hK4 _ _ ?_; rw [ha]
    refine Rc.mk ?_
    refine AWP_sq [0, 1, 5] fun K5 hK5 => ?_
    refine AWP_block (AWP_thenB ?_)
    obtain ⟨v2, hv2, H⟩ := bindE H
    obtain ⟨v3, hv3, H⟩ := bindE H
    obtain ⟨r4, hr4, H⟩ := bindE H
    refine AWP_sd tok tokM [] [] [0, 1, 2, 3, 4, 5, 6, 7, 8, 9] [0, 1, 5, 26] (fun a σ => a = [(0, .fsl (encL rInstr p0)), (1, .fsl (encL rInstr p1)), (5, .int .i64 s1), (26, .bool (bnot r4))] ∧ σ = hp E0 [] (M1 + 14)) (by decide) (fun K hK => ?_) ?_
    ·
     simp only [pickL, nthO_succ, nthO_zero]
     simp -dsimp -implicitDefEqProofs (maxDischargeDepth := 6) [ix29 hv2, ix29 hv3]
     refine Pc.mk (c63 hr4) ?_; try simp -dsimp -implicitDefEqProofs (maxDischargeDepth := 6) [ix29 hv2, ix29 hv3]
     exact hK _ _ ⟨rfl, rfl⟩
    rintro a σ ⟨rfl, rfl⟩
    refine AWP_cond (bnot r4) rfl (fun C3 => ?_) (fun C3 => ?_)
    ·
     replace H := ifT C3 H
     refine AWP_sr tok [] [4] (fun a σ => a = [(4, .bool false)] ∧ σ = hp E0 [] (M1 + 15)) (fun K hK => ?_) ?_
     ·
      skip
      simp -dsimp -implicitDefEqProofs (maxDischargeDepth := 6)
      exact hK _ _ ⟨rfl, rfl⟩
     rintro a σ ⟨rfl, rfl⟩
     replace H := Option.some.inj H; subst H
     refine AWP_kp [4] [(4, .bool false)] rfl ?_
     refine AWP_ret (hO3 _ _ _ _ rfl ⟨rfl, ?_⟩)
     exact ⟨[.bool false], by simp, 4, by simp [encL_nil]⟩
    ·
     replace H := ifF C3 H
     refine AWP_skip ?_
     show K5 _ _
     refine keepE (l := [0, 1, 5]) (x := [(0, .fsl (encL rInstr p0)), (1, .fsl (encL rInstr p1)), (5, .int .i64 s1)]) rfl fun a' ha => ?_
     refine hK5 _ _ ?_; rw [ha]
     refine Rc.mk ?_
     refine AWP_rt tok [] [0, 1, 5] (fun a σ => a = [(0, .fsl (encL rInstr p0)), (1, .fsl (encL rInstr p1)), (5, .int .i64 (iadd .i64 s1 1))] ∧ σ = hp E0 [] (M1 + 17)) (fun K hK => ?_) ?_
     ·
      skip
      simp -dsimp -implicitDefEqProofs (maxDischargeDepth := 6)
      exact hK _ _ ⟨rfl, rfl⟩
     rintro a σ ⟨ha, rfl⟩
     replace H := Option.some.inj H; subst H
     refine hK3 _ _ _ rfl ?_; rw [ha]
     exact Rc.fin (AHeap.Sub.refl _) ⟨M1 + 17, (by omega), rfl, rfl⟩
   ·
    replace H := ifF C2 H
    replace H := Option.some.inj H; subst H
    refine AWP_exit (hO3 _ _ _ _ rfl ⟨rfl, ?_⟩)
    refine Rc.rw (l := []) (X := []) rfl ?_
    exact Rc.fin (AHeap.Sub.refl _) ⟨M1 + 4, (by omega), rfl, rfl⟩
  ·
   intro x a σ hx
   rcases e1 with ⟨⟩ | r0
   ·
    obtain ⟨rfl, b, τ, hr, M2, fM2_0, rfl, rfl⟩ := hx
    dsimp only at H
    show K2 _ _
    refine hK2 _ _ (Rc_ref hr ?_)
    refine Rc.mk ?_
    refine AWP_sr tok [] [4] (fun a σ => a = [(4, .bool true)] ∧ σ = hp E0 [] (M2 + 1)) (fun K hK => ?_) ?_
    ·
     skip
     simp -dsimp -implicitDefEqProofs (maxDischargeDepth := 6)
     exact hK _ _ ⟨rfl, rfl⟩
    rintro a σ ⟨rfl, rfl⟩
    replace H := Option.some.inj H; subst H
    refine AWP_kp [4] [(4, .bool true)] rfl ?_
    refine AWP_ret ?_
    exact ⟨[.bool true], by simp, 4, by simp [encL_nil]⟩
   ·
    obtain ⟨rfl, hx2⟩ := hx
    dsimp only at H
    replace H := Option.some.inj H; subst H; exact hx2
theorem c20 {p0 : (List gInstr)} {p1 : Int} {r : Int × (List gInstr)} (H : l_markInstrS p0 p1 = some r) {σ : AHeap} {w0 : Nat} (q0 : σ.objs w0 = some ⟨47, 5, encL rInstr p0⟩) : ACalls Tryd.prog G 20 [.sl w0 0 p0.length, .int .i64 p1] σ (fun v σ' => ∃ M : Nat, σ.next ≤ M ∧ r.2.length = p0.length ∧ v = .int .i64 r.1 ∧ σ' = hp σ.objs [(w0, some ⟨47, 5, encL rInstr r.2⟩)] M) := by
 refine ACalls_fr (L := [(w0, some ⟨47, 5, encL rInstr p0⟩)]) (Q1 := fun v σ' => ∃ M : Nat, σ.next ≤ M ∧ r.2.length = p0.length ∧ v = .int .i64 r.1 ∧ σ' = hp E0 [(w0, some ⟨47, 5, encL rInstr r.2⟩)] M) (by simp [q0]) (fun hlt => ?_) ?_ ⟨_, Tryd.func20, rfl, rfl⟩
 rotate_left
 ·
  rintro v σ1 ⟨M, h0, h1, rfl, rfl⟩
  exact ⟨_, M, rfl, by simp, by simp; try omega, M, h0, h1, rfl, rfl⟩
 generalize σ.next = N0 at hlt ⊢
 have lw0 : w0 < N0 := hlt _ (.head _) rfl
 refine ACalls_fn tok Tryd.func20 (by kernel_rfl) rfl Tryd.ntmps20 Tryd.results20 rfl ?_
 simp only [argsA, Nat.reduceAdd, hp_next]
 unfold l_markInstrS at H
 refine AWP_sr tok [] [0, 1] (fun a σ => a = [(0, .sl w0 0 p0.length), (1, .int .i64 p1)] ∧ σ = hp E0 [(w0, some ⟨47, 5, encL rInstr p0⟩)] (N0 + 1)) (fun K hK => ?_) ?_
 ·
  skip
  simp -dsimp -implicitDefEqProofs (maxDischargeDepth := 6)
  exact hK _ _ ⟨rfl, rfl⟩
 rintro a σ ⟨rfl, rfl⟩
 refine AWP_sq [1] fun K1 hK1 => ?_
 refine AWP_sr tok [] [0, 1, 5] (fun a σ => a = [(0, .sl w0 0 p0.length), (1, .int .i64 p1), (5, .int .i64 0)] ∧ σ = hp E0 [(w0, some ⟨47, 5, encL rInstr p0⟩)] (N0 + 2)) (fun K hK => ?_) ?_
 ·
  skip
  simp -dsimp -implicitDefEqProofs (maxDischargeDepth := 6)
  exact hK _ _ ⟨rfl, rfl⟩
 rintro a σ ⟨rfl, rfl⟩
 refine AWP_block (AWP_thenB ?_)
 obtain ⟨e1, hse1, H⟩ := bindE H
 refine AWP_lp [0, 1, 5] (fun s a σ => ∃ M1 : Nat, N0 ≤ M1 ∧ s.2.2.length = p0.length ∧ a = [(0, .sl w0 0 s.2.2.length), (1, .int .i64 s.1), (5, .int .i64 s.2.1)] ∧ σ = hp E0 [(w0, some ⟨47, 5, encL rInstr s.2.2⟩)] M1) (fun s x a σ => x = .exit 0 ∧ Rc G 48 N0 (fun a σ => ∃ M2 : Nat, N0 ≤ M2 ∧ s.2.length = p0.length ∧ a = [(1, .int .i64 s.1)] ∧ σ = hp E0 [(w0, some ⟨47, 5, encL rInstr s.2⟩)] M2) (AAct.keep a [1]) σ) hse1 ?_ ?_ ?_
 ·
  refine Rc.kp [0, 1, 5] [(0, .sl w0 0 p0.length), (1, .int .i64 p1), (5, .int .i64 0)] rfl ?_
  exact Rc.fin (AHeap.Sub.refl _) ⟨N0 + 2, (by omega), (by first | rfl | exact rfl | omega), rfl, rfl⟩
 ·
  clear H hse1
  rintro ⟨s1, s2, s3⟩ fl a σ H ⟨M1, fM1_0, fM1_1, rfl, rfl⟩ K2 O2 hK2 hO2
  unfold l_markInstrS_L1 at H; dsimp only at H
  refine AWP_sq [0, 1, 5] fun K3 hK3 => ?_
  refine AWP_sr tok [] [0, 1, 5, 9] (fun a σ => a = [(0, .sl w0 0 s3.length), (1, .int .i64 s1), (5, .int .i64 s2), (9, .bool (ilt s2 (ilen s3)))] ∧ σ = hp E0 [(w0, some ⟨47, 5, encL rInstr s3⟩)] (M1 + 4)) (fun K hK => ?_) ?_
  ·
   skip
   simp -dsimp -implicitDefEqProofs (maxDischargeDepth := 6)
   exact hK _ _ ⟨rfl, rfl⟩
  rintro a σ ⟨rfl, rfl⟩
  refine AWP_cond (ilt s2 (ilen s3)) rfl (fun C1 => ?_) (fun C1 => ?_)
  ·
   replace H := ifT C1 H
   refine AWP_skip ?_
   show K3 _ _
   refine keepE (l := [0, 1, 5]) (x := [(0, .sl w0 0 s3.length), (1, .int .i64 s1), (5, .int .i64 s2)]) rfl fun a' ha => ?_
   refine hK3 _ _ ?_; rw [ha]
   refine Rc.mk ?_
   refine AWP_sq [0, 1, 5] fun K4 hK4 => ?_
   refine AWP_block (AWP_thenB ?_)
   obtain ⟨v6, hv6, H⟩ := bindE H
   obtain ⟨l7, hl7, H⟩ := bindE H
   refine AWP_sr tok [] [0, 1, 5] (fun a σ => a = [(0, .sl w0 0 s3.length), (1, .int .i64 s1), (5, .int .i64 s2)] ∧ σ = hp E0 [(w0, some ⟨47, 5, encL rInstr l7⟩)] (M1 + 10)) (fun K hK => ?_) ?_
   ·
    skip
    simp -dsimp -implicitDefEqProofs (maxDischargeDepth := 6) [ixo29 hv6, (idx_lt3 hv6).2.2, (setx_iff.1 hl7).2.symm]
    exact hK _ _ ⟨rfl, rfl⟩
   rintro a σ ⟨rfl, rfl⟩
   try rw [← setx_len hl7]
   refine AWP_sr tok [] [0, 1, 5] (fun a σ => a = [(0, .sl w0 0 l7.length), (1, .int .i64 (iadd .i64 s1 1)), (5, .int .i64 s2)] ∧ σ = hp E0 [(w0, some ⟨47, 5, encL rInstr l7⟩)] (M1 + 13)) (fun K hK => ?_) ?_
   ·
    skip
    simp -dsimp -implicitDefEqProofs (maxDischargeDepth := 6)
    exact hK _ _ ⟨rfl, rfl⟩
   rintro a σ ⟨rfl, rfl⟩
   obtain ⟨v8, hv8, H⟩ := bindE H
   obtain ⟨l9, hl9, H⟩ := bindE H
   refine AWP_sr tok [] [0, 1, 5] (fun a σ => a = [(0, .sl w0 0 l7.length), (1, .int .i64 (iadd .i64 s1 1)), (5, .int .i64 s2)] ∧ σ = hp E0 [(w0, some ⟨47, 5, encL rInstr l9⟩)] (M1 + 19)) (fun K hK => ?_) ?_
   ·
    skip
    simp -dsimp -implicitDefEqProofs (maxDischargeDepth := 6) [ixo29 hv8, (idx_lt3 hv8).2.2, (setx_iff.1 hl9).2.symm]
    exact hK _ _ ⟨rfl, rfl⟩
   rintro a σ ⟨rfl, rfl⟩
   try rw [← setx_len hl9]
   refine AWP_sr tok [] [0, 1, 5] (fun a σ => a = [(0, .sl w0 0 l9.length), (1, .int .i64 (iadd .i64 (iadd .i64 s1 1) 1)), (5, .int .i64 s2)] ∧ σ = hp E0 [(w0, some ⟨47, 5, encL rInstr l9⟩)] (M1 + 22)) (fun K hK => ?_) ?_
   ·
    skip
    simp -dsimp -implicitDefEqProofs (maxDischargeDepth := 6)
    exact hK _ _ ⟨rfl, rfl⟩
   rintro a σ ⟨rfl, rfl⟩
   obtain ⟨v10, hv10, H⟩ := bindE H
   obtain ⟨l11, hl11, H⟩ := bindE H
   refine AWP_sr tok [] [0, 1, 5] (fun a σ => a = [(0, .sl w0 0 l9.length), (1, .int .i64 (iadd .i64 (iadd .i64 s1 1) 1)), (5, .int .i64 s2)] ∧ σ = hp E0 [(w0, some ⟨47, 5, encL rInstr l11⟩)] (M1 + 28)) (fun K hK => ?_) ?_
   ·
    skip
    simp -dsimp -implicitDefEqProofs (maxDischargeDepth := 6) [ixo29 hv10, (idx_lt3 hv10).2.2, (setx_iff.1 hl11).2.symm]
    exact hK _ _ ⟨rfl, rfl⟩
   rintro a σ ⟨rfl, rfl⟩
   try rw [← setx_len hl11]
   refine AWP_sr tok [] [0, 1, 5] (fun a σ => a = [(0, .sl w0 0 l11.length), (1, .int .i64 (iadd .i64 (iadd .i64 (iadd .i64 s1 1) 1) 1)), (5, .int .i64 s2)] ∧ σ = hp E0 [(w0, some ⟨47, 5, encL rInstr l11⟩)] (M1 + 31)) (fun K hK => ?_) ?_
   ·
    skip
    simp -dsimp -implicitDefEqProofs (maxDischargeDepth := 6)
    exact hK _ _ ⟨rfl, rfl⟩
   rintro a σ ⟨rfl, rfl⟩
   obtain ⟨v12, hv12, H⟩ := bindE H
   obtain ⟨l13, hl13, H⟩ := bindE H
   refine AWP_sr tok [] [0, 1, 5] (fun a σ => a = [(0, .sl w0 0 l11.length), (1, .int .i64 (iadd .i64 (iadd .i64 (iadd .i64 s1 1) 1) 1)), (5, .int .i64 s2)] ∧ σ = hp E0 [(w0, some ⟨47, 5, encL rInstr l13⟩)] (M1 + 37)) (fun K hK => ?_) ?_
   ·
    skip
    simp -dsimp -implicitDefEqProofs (maxDischargeDepth := 6) [ixo29 hv12, (idx_lt3 hv12).2.2, (setx_iff.1 hl13).2.symm]
    exact hK _ _ ⟨rfl, rfl⟩
   rintro a σ ⟨rfl, rfl⟩
   try rw [← setx_len hl13]
   refine AWP_sr tok [] [0, 1, 5] (fun a σ => a = [(0, .sl w0 0 l13.length), (1, .int .i64 (iadd .i64 (iadd .i64 (iadd .i64 (iadd .i64 s1 1) 1) 1) 1)), (5, .int .i64 s2)] ∧ σ = hp E0 [(w0, some ⟨47, 5, encL rInstr l13⟩)] (M1 + 40)) (fun K hK => ?_) ?_
   ·
    skip
    simp -dsimp -implicitDefEqProofs (maxDischargeDepth := 6)
    exact hK _ _ ⟨rfl, rfl⟩
   rintro a σ ⟨rfl, rfl⟩
   obtain ⟨v14, hv14, H⟩ := bindE H
   obtain ⟨l15, hl15, H⟩ := bindE H
   refine AWP_sr tok [] [0, 1, 5] (fun a σ => a = [(0, .sl w0 0 l13.length), (1, .int .i64 (iadd .i64 (iadd .i64 (iadd .i64 (iadd .i64 s1 1) 1) 1) 1)), (5, .int .i64 s2)] ∧ σ = hp E0 [(w0, some ⟨47, 5, encL rInstr l15⟩)] (M1 + 46)) (fun K hK => ?_) ?_
   ·
    skip
    simp -dsimp -implicitDefEqProofs (maxDischargeDepth := 6) [ixo29 hv14, (idx_lt3 hv14).2.2, (setx_iff.1 hl15).2.symm]
    exact hK _ _ ⟨rfl, rfl⟩
   rintro a σ ⟨rfl, rfl⟩
   try rw [← setx_len hl15]
   refine AWP_rt tok [] [0, 1, 5] (fun a σ => a = [(0, .sl w0 0 l15.length), (1, .int .i64 (iadd .i64 (iadd .i64 (iadd .i64 (iadd .i64 (iadd .i64 s1 1) 1) 1) 1) 1)), (5, .int .i64 s2)] ∧ σ = hp E0 [(w0, some ⟨47, 5, encL rInstr l15⟩)] (M1 + 49)) (fun K hK => ?_) ?_
   ·
    skip
    simp -dsimp -implicitDefEqProofs (maxDischargeDepth := 6)
    exact hK _ _ ⟨rfl, rfl⟩
   rintro a σ ⟨ha, rfl⟩
   refine hK4 _ _ ?_; rw [ha]
   refine Rc.mk ?_
   refine AWP_rt tok [] [0, 1, 5] (fun a σ => a = [(0, .sl w0 0 l15.length), (1, .int .i64 (iadd .i64 (iadd .i64 (iadd .i64 (iadd .i64 (iadd .i64 s1 1) 1) 1) 1) 1)), (5, .int .i64 (iadd .i64 s2 1))] ∧ σ = hp E0 [(w0, some ⟨47, 5, encL rInstr l15⟩)] (M1 + 52)) (fun K hK => ?_) ?_
   ·
    skip
    simp -dsimp -implicitDefEqProofs (maxDischargeDepth := 6)
    exact hK _ _ ⟨rfl, rfl⟩
   rintro a σ ⟨ha, rfl⟩
   replace H := Option.some.inj H; subst H
   refine hK2 _ _ _ rfl ?_; rw [ha]
   exact Rc.fin (AHeap.Sub.refl _) ⟨M1 + 52, (by omega), (by first | rfl | exact ((setx_len hl15).trans ((setx_len hl13).trans ((setx_len hl11).trans ((setx_len hl9).trans ((setx_len hl7).trans fM1_1))))) | omega), rfl, rfl⟩
  ·
   replace H := ifF C1 H
   replace H := Option.some.inj H; subst H
   refine AWP_exit (hO2 _ _ _ _ rfl ⟨rfl, ?_⟩)
   refine Rc.rw (l := [1]) (X := [(1, .int .i64 s1)]) rfl ?_
   exact Rc.fin (AHeap.Sub.refl _) ⟨M1 + 4, (by omega), (by first | rfl | exact fM1_1 | omega), rfl, rfl⟩
 ·
  intro x a σ hx
  obtain ⟨y4, y5⟩ := e1
  obtain ⟨rfl, b, τ, hr, M2, fM2_0, fM2_1, rfl, rfl⟩ := hx
  dsimp only at H
  show K1 _ _
  refine hK1 _ _ (Rc_ref hr ?_)
  refine Rc.mk ?_
  refine AWP_sr tok [] [4] (fun a σ => a = [(4, .int .i64 y4)] ∧ σ = hp E0 [(w0, some ⟨47, 5, encL rInstr y5⟩)] (M2 + 2)) (fun K hK => ?_) ?_
  ·
   skip
   simp -dsimp -implicitDefEqProofs (maxDischargeDepth := 6)
   exact hK _ _ ⟨rfl, rfl⟩
  rintro a σ ⟨rfl, rfl⟩
  replace H := Option.some.inj H; subst H
  refine AWP_kp [4] [(4, .int .i64 y4)] rfl ?_
  refine AWP_ret ?_
  refine ⟨[.int .i64 y4], by simp, M2 + 2, by omega, by first | rfl | exact fM2_1 | omega, ?_, ?_⟩
  ·
   simp [encL_nil]
  ·
   first | rfl | simp [List.set_set]
theorem c26 {p0 : (List gInstr)} {p1 : Int} {r : Int} (H : l_heldInstrS p0 p1 = some r) : APure Tryd.prog G 26 [.fsl (encL rInstr p0), .int .i64 p1] (.int .i64 r) := by
 refine APure_fn (fun N0 => ?_) (by simp)
 refine ACalls_fn tok Tryd.func26 (by kernel_rfl) rfl Tryd.ntmps26 Tryd.results26 rfl ?_
 simp only [argsA, Nat.reduceAdd, hp_next]
 unfold l_heldInstrS at H
 refine AWP_sr tok [] [0, 1] (fun a σ => a = [(0, .fsl (encL rInstr p0)), (1, .int .i64 p1)] ∧ σ = hp E0 [] (N0 + 1)) (fun K hK => ?_) ?_
 ·
  skip
  simp -dsimp -implicitDefEqProofs (maxDischargeDepth := 6)
  exact hK _ _ ⟨rfl, rfl⟩
 rintro a σ ⟨rfl, rfl⟩
 refine AWP_sq [1] fun K1 hK1 => ?_
 refine AWP_sr tok [] [0, 1, 5] (fun a σ => a = [(0, .fsl (encL rInstr p0)), (1, .int .i64 p1), (5, .int .i64 0)] ∧ σ = hp E0 [] (N0 + 2)) (fun K hK => ?_) ?_
 ·
  skip
  simp -dsimp -implicitDefEqProofs (maxDischargeDepth := 6)
  exact hK _ _ ⟨rfl, rfl⟩
 rintro a σ ⟨rfl, rfl⟩
 refine AWP_block (AWP_thenB ?_)
 obtain ⟨e1, hse1, H⟩ := bindE H
 refine AWP_lp [0, 1, 5] (fun s a σ => ∃ M1 : Nat, N0 ≤ M1 ∧ a = [(0, .fsl (encL rInstr p0)), (1, .int .i64 s.1), (5, .int .i64 s.2)] ∧ σ = hp E0 [] M1) (fun e x a σ => match e with | .inl s => x = .exit 0 ∧ Rc G 58 N0 (fun a σ => ∃ M2 : Nat, N0 ≤ M2 ∧ a = [(1, .int .i64 s)] ∧ σ = hp E0 [] M2) (AAct.keep a [1]) σ | .inr s => x = .ret ∧ ∃ vs, resA T σ a [.tmp 4] = some vs ∧ ∃ d, thawA (fun _ => true) σ d (tupA vs) = .int .i64 s) hse1 ?_ ?_ ?_
 ·
  refine Rc.kp [0, 1, 5] [(0, .fsl (encL rInstr p0)), (1, .int .i64 p1), (5, .int .i64 0)] rfl ?_
  exact Rc.fin (AHeap.Sub.refl _) ⟨N0 + 2, (by omega), rfl, rfl⟩
 ·
  clear H hse1
  rintro ⟨s1, s2⟩ fl a σ H ⟨M1, fM1_0, rfl, rfl⟩ K2 O2 hK2 hO2
  unfold l_heldInstrS_L1 at H; dsimp only at H
  refine AWP_sq [0, 1, 5] fun K3 hK3 => ?_
  refine AWP_sr tok [] [0, 1, 5, 9] (fun a σ => a = [(0, .fsl (encL rInstr p0)), (1, .int .i64 s1), (5, .int .i64 s2), (9, .bool (ilt s2 (ilen p0)))] ∧ σ = hp E0 [] (M1 + 4)) (fun K hK => ?_) ?_
  ·
   skip
   simp -dsimp -implicitDefEqProofs (maxDischargeDepth := 6)
   exact hK _ _ ⟨rfl, rfl⟩
  rintro a σ ⟨rfl, rfl⟩
  refine AWP_cond (ilt s2 (ilen p0)) rfl (fun C1 => ?_) (fun C1 => ?_)
  ·
   replace H := ifT C1 H
   refine AWP_skip ?_
   show K3 _ _
   refine keepE (l := [0, 1, 5]) (x := [(0, .fsl (encL rInstr p0)), (1, .int .i64 s1), (5, .int .i64 s2)]) rfl fun a' ha => ?_
   refine hK3 _ _ ?_; rw [ha]
   refine Rc.mk ?_
   refine AWP_sq [0, 1, 5] fun K4 hK4 => ?_
   refine AWP_block (AWP_thenB ?_)
   refine AWP_sq [0, 1, 5] fun K5 hK5 => ?_
   obtain ⟨v4, hv4, H⟩ := bindE H
   refine AWP_sr tok [] [0, 1, 5, 18] (fun a σ => a = [(0, .fsl (encL rInstr p0)), (1, .int .i64 s1), (5, .int .i64 s2), (18, .bool (ine v4.Op s1))] ∧ σ = hp E0 [] (M1 + 11)) (fun K hK => ?_) ?_
   ·
    skip
    simp -dsimp -implicitDefEqProofs (maxDischargeDepth := 6) [ix29 hv4]
    exact hK _ _ ⟨rfl, rfl⟩
   rintro a σ ⟨rfl, rfl⟩
   refine AWP_cond (ine v4.Op s1) rfl (fun C2 => ?_) (fun C2 => ?_)
   ·
    replace H := ifT C2 H
    refine AWP_sr tok [] [4] (fun a σ => a = [(4, .int .i64 (-1))] ∧ σ = hp E0 [] (M1 + 12)) (fun K hK => ?_) ?_
    ·
     skip
     simp -dsimp -implicitDefEqProofs (maxDischargeDepth := 6)
     exact hK _ _ ⟨rfl, rfl⟩
    rintro a σ ⟨rfl, rfl⟩
    replace H := Option.some.inj H; subst H
    refine AWP_kp [4] [(4, .int .i64 (-1))] rfl ?_
    refine AWP_ret (hO2 _ _ _ _ rfl ⟨rfl, ?_⟩)
    exact ⟨[.int .i64 (-1)], by simp, 4, by simp [encL_nil]⟩
   ·
    replace H := ifF C2 H
    refine AWP_skip ?_
    show K5 _ _
    refine keepE (l := [0, 1, 5]) (x := [(0, .fsl (encL rInstr p0)), (1, .int .i64 s1), (5, .int .i64 s2)]) rfl fun a' ha => ?_
    refine hK5 _ _ ?_; rw [ha]
    refine Rc.mk ?_
    refine AWP_sr tok [] [0, 1, 5] (fun a σ => a = [(0, .fsl (encL rInstr p0)), (1, .int .i64 (iadd .i64 s1 1)), (5, .int .i64 s2)] ∧ σ = hp E0 [] (M1 + 14)) (fun K hK => ?_) ?_
    ·
     skip
     simp -dsimp -implicitDefEqProofs (maxDischargeDepth := 6)
     exact hK _ _ ⟨rfl, rfl⟩
    rintro a σ ⟨rfl, rfl⟩
    refine AWP_sq [0, 1, 5] fun K6 hK6 => ?_
    refine AWP_sr tok [] [0, 1, 5, 27] (fun a σ => a = [(0, .fsl (encL rInstr p0)), (1, .int .i64 (iadd .i64 s1 1)), (5, .int .i64 s2), (27, .bool (ine v4.Rd (iadd .i64 s1 1)))] ∧ σ = hp E0 [] (M1 + 21)) (fun K hK => ?_) ?_
    ·
     skip
     simp -dsimp -implicitDefEqProofs (maxDischargeDepth := 6) [ix29 hv4]
     exact hK _ _ ⟨rfl, rfl⟩
    rintro a σ ⟨rfl, rfl⟩
    refine AWP_cond (ine v4.Rd (iadd .i64 s1 1)) rfl (fun C3 => ?_) (fun C3 => ?_)
    ·
     replace H := ifT C3 H
     refine AWP_sr tok [] [4] (fun a σ => a = [(4, .int .i64 (-1))] ∧ σ = hp E0 [] (M1 + 22)) (fun K hK => ?_) ?_
     ·
      skip
      simp -dsimp -implicitDefEqProofs (maxDischargeDepth := 6)
      exact hK _ _ ⟨rfl, rfl⟩
     rintro a σ ⟨rfl, rfl⟩
     replace H := Option.some.inj H; subst H
     refine AWP_kp [4] [(4, .int .i64 (-1))] rfl ?_
     refine AWP_ret (hO2 _ _ _ _ rfl ⟨rfl, ?_⟩)
     exact ⟨[.int .i64 (-1)], by simp, 4, by simp [encL_nil]⟩
    ·
     replace H := ifF C3 H
     refine AWP_skip ?_
     show K6 _ _
     refine keepE (l := [0, 1, 5]) (x := [(0, .fsl (encL rInstr p0)), (1, .int .i64 (iadd .i64 s1 1)), (5, .int .i64 s2)]) rfl fun a' ha => ?_
     refine hK6 _ _ ?_; rw [ha]
     refine Rc.mk ?_
     refine AWP_sr tok [] [0, 1, 5] (fun a σ => a = [(0, .fsl (encL rInstr p0)), (1, .int .i64 (iadd .i64 (iadd .i64 s1 1) 1)), (5, .int .i64 s2)] ∧ σ = hp E0 [] (M1 + 24)) (fun K hK => ?_) ?_
     ·
      skip
      simp -dsimp -implicitDefEqProofs (maxDischargeDepth := 6)
      exact hK _ _ ⟨rfl, rfl⟩
     rintro a σ ⟨rfl, rfl⟩
     refine AWP_sq [0, 1, 5] fun K7 hK7 => ?_
     refine AWP_sr tok [] [0, 1, 5, 36] (fun a σ => a = [(0, .fsl (encL rInstr p0)), (1, .int .i64 (iadd .i64 (iadd .i64 s1 1) 1)), (5, .int .i64 s2), (36, .bool (ine v4.Rs (iadd .i64 (iadd .i64 s1 1) 1)))] ∧ σ = hp E0 [] (M1 + 31)) (fun K hK => ?_) ?_
     ·
      skip
      simp -dsimp -implicitDefEqProofs (maxDischargeDepth := 6) [ix29 hv4]
      exact hK _ _ ⟨rfl, rfl⟩
     rintro a σ ⟨rfl, rfl⟩
     refine AWP_cond (ine v4.Rs (iadd .i64 (iadd .i64 s1 1) 1)) rfl (fun C4 => ?_) (fun C4 => ?_)
     ·
      replace H := ifT C4 H
      refine AWP_sr tok [] [4] (fun a σ => a = [(4, .int .i64 (-1))] ∧ σ = hp E0 [] (M1 + 32)) (fun K hK => ?_) ?_
      ·
       skip
       simp -dsimp -implicitDefEqProofs (maxDischargeDepth := 6)
       exact hK _ _ ⟨rfl, rfl⟩
      rintro a σ ⟨rfl, rfl⟩
      replace H := Option.some.inj H; subst H
      refine AWP_kp [4] [(4, .int .i64 (-1))] rfl ?_
      refine AWP_ret (hO2 _ _ _ _ rfl ⟨rfl, ?_⟩)
      exact ⟨[.int .i64 (-1)], by simp, 4, by simp [encL_nil]⟩
     ·
      replace H := ifF C4 H
      refine AWP_skip ?_
      show K7 _ _
      refine keepE (l := [0, 1, 5]) (x := [(0, .fsl (encL rInstr p0)), (1, .int .i64 (iadd .i64 (iadd .i64 s1 1) 1)), (5, .int .i64 s2)]) rfl fun a' ha => ?_
      refine hK7 _ _ ?_; rw [ha]
      refine Rc.mk ?_
      refine AWP_sr tok [] [0, 1, 5] (fun a σ => a = [(0, .fsl (encL rInstr p0)), (1, .int .i64 (iadd .i64 (iadd .i64 (iadd .i64 s1 1) 1) 1)), (5, .int .i64 s2)] ∧ σ = hp E0 [] (M1 + 34)) (fun K hK => ?_) ?_
      ·
       skip
       simp -dsimp -implicitDefEqProofs (maxDischargeDepth := 6)
       exact hK _ _ ⟨rfl, rfl⟩
      rintro a σ ⟨rfl, rfl⟩
      refine AWP_sq [0, 1, 5] fun K8 hK8 => ?_
      refine AWP_sr tok [] [0, 1, 5, 45] (fun a σ => a = [(0, .fsl (encL rInstr p0)), (1, .int .i64 (iadd .i64 (iadd .i64 (iadd .i64 s1 1) 1) 1)), (5, .int .i64 s2), (45, .bool (ine v4.Rt (iadd .i64 (iadd .i64 (iadd .i64 s1 1) 1) 1)))] ∧ σ = hp E0 [] (M1 + 41)) (fun K hK => ?_) ?_
      ·
       skip
       simp -dsimp -implicitDefEqProofs (maxDischargeDepth := 6) [ix29 hv4]
       exact hK _ _ ⟨rfl, rfl⟩
      rintro a σ ⟨rfl, rfl⟩
      refine AWP_cond (ine v4.Rt (iadd .i64 (iadd .i64 (iadd .i64 s1 1) 1) 1)) rfl (fun C5 => ?_) (fun C5 => ?_)
      ·
       replace H := ifT C5 H
       refine AWP_sr tok [] [4] (fun a σ => a = [(4, .int .i64 (-1))] ∧ σ = hp E0 [] (M1 + 42)) (fun K hK => ?_) ?_
       ·
        skip
        simp -dsimp -implicitDefEqProofs (maxDischargeDepth := 6)
        exact hK _ _ ⟨rfl, rfl⟩
       rintro a σ ⟨rfl, rfl⟩
       replace H := Option.some.inj H; subst H
       refine AWP_kp [4] [(4, .int .i64 (-1))] rfl ?_
       refine AWP_ret (hO2 _ _ _ _ rfl ⟨rfl, ?_⟩)
       exact ⟨[.int .i64 (-1)], by simp, 4, by simp [encL_nil]⟩
      ·
       replace H := ifF C5 H
       refine AWP_skip ?_
       show K8 _ _
       refine keepE (l := [0, 1, 5]) (x := [(0, .fsl (encL rInstr p0)), (1, .int .i64 (iadd .i64 (iadd .i64 (iadd .i64 s1 1) 1) 1)), (5, .int .i64 s2)]) rfl fun a' ha => ?_
       refine hK8 _ _ ?_; rw [ha]
       refine Rc.mk ?_
       refine AWP_sr tok [] [0, 1, 5] (fun a σ => a = [(0, .fsl (encL rInstr p0)), (1, .int .i64 (iadd .i64 (iadd .i64 (iadd .i64 (iadd .i64 s1 1) 1) 1) 1)), (5, .int .i64 s2)] ∧ σ = hp E0 [] (M1 + 44)) (fun K hK => ?_) ?_
       ·
        skip
        simp -dsimp -implicitDefEqProofs (maxDischargeDepth := 6)
        exact hK _ _ ⟨rfl, rfl⟩
       rintro a σ ⟨rfl, rfl⟩
       refine AWP_sq [0, 1, 5] fun K9 hK9 => ?_
       refine AWP_sr tok [] [0, 1, 5, 54] (fun a σ => a = [(0, .fsl (encL rInstr p0)), (1, .int .i64 (iadd .i64 (iadd .i64 (iadd .i64 (iadd .i64 s1 1) 1) 1) 1)), (5, .int .i64 s2), (54, .bool (ine v4.Imm (iadd .i64 (iadd .i64 (iadd .i64 (iadd .i64 s1 1) 1) 1) 1)))] ∧ σ = hp E0 [] (M1 + 51)) (fun K hK => ?_) ?_
       ·
        skip
        simp -dsimp -implicitDefEqProofs (maxDischargeDepth := 6) [ix29 hv4]
        exact hK _ _ ⟨rfl, rfl⟩
       rintro a σ ⟨rfl, rfl⟩
       refine AWP_cond (ine v4.Imm (iadd .i64 (iadd .i64 (iadd .i64 (iadd .i64 s1 1) 1) 1) 1)) rfl (fun C6 => ?_) (fun C6 => ?_)
       ·
        replace H := ifT C6 H
        refine AWP_sr tok [] [4] (fun a σ => a = [(4, .int .i64 (-1))] ∧ σ = hp E0 [] (M1 + 52)) (fun K hK => ?_) ?_
        ·
         skip
         simp -dsimp -implicitDefEqProofs (maxDischargeDepth := 6)
         exact hK _ _ ⟨rfl, rfl⟩
        rintro a σ ⟨rfl, rfl⟩
        replace H := Option.some.inj H; subst H
        refine AWP_kp [4] [(4, .int .i64 (-1))] rfl ?_
        refine AWP_ret (hO2 _ _ _ _ rfl ⟨rfl, ?_⟩)
        exact ⟨[.int .i64 (-1)], by simp, 4, by simp [encL_nil]⟩
       ·
        replace H := ifF C6 H
        refine AWP_skip ?_
        show K9 _ _
        refine keepE (l := [0, 1, 5]) (x := [(0, .fsl (encL rInstr p0)), (1, .int .i64 (iadd .i64 (iadd .i64 (iadd .i64 (iadd .i64 s1 1) 1) 1) 1)), (5, .int .i64 s2)]) rfl fun a' ha => ?_
        refine hK9 _ _ ?_; rw [ha]
        refine Rc.mk ?_
        refine AWP_rt tok [] [0, 1, 5] (fun a σ => a = [(0, .fsl (encL rInstr p0)), (1, .int .i64 (iadd .i64 (iadd .i64 (iadd .i64 (iadd .i64 (iadd .i64 s1 1) 1) 1) 1) 1)), (5, .int .i64 s2)] ∧ σ = hp E0 [] (M1 + 54)) (fun K hK => ?_) ?_
        ·
         skip
         simp -dsimp -implicitDefEqProofs (maxDischargeDepth := 6)
         exact hK _ _ ⟨rfl, rfl⟩
        rintro a σ ⟨ha, rfl⟩
        refine hK4 _ _ ?_; rw [ha]
        refine Rc.mk ?_
        refine AWP_rt tok [] [0, 1, 5] (fun a σ => a = [(0, .fsl (encL rInstr p0)), (1, .int .i64 (iadd .i64 (iadd .i64 (iadd .i64 (iadd .i64 (iadd .i64 s1 1) 1) 1) 1) 1)), (5, .int .i64 (iadd .i64 s2 1))] ∧ σ = hp E0 [] (M1 + 57)) (fun K hK => ?_) ?_
        ·
         skip
         simp -dsimp -implicitDefEqProofs (maxDischargeDepth := 6)
         exact hK _ _ ⟨rfl, rfl⟩
        rintro a σ ⟨ha, rfl⟩
        replace H := Option.some.inj H; subst H
        refine hK2 _ _ _ rfl ?_; rw [ha]
        exact Rc.fin (AHeap.Sub.refl _) ⟨M1 + 57, (by omega), rfl, rfl⟩
  ·
   replace H := ifF C1 H
   replace H := Option.some.inj H; subst H
   refine AWP_exit (hO2 _ _ _ _ rfl ⟨rfl, ?_⟩)
   refine Rc.rw (l := [1]) (X := [(1, .int .i64 s1)]) rfl ?_
   exact Rc.fin (AHeap.Sub.refl _) ⟨M1 + 4, (by omega), rfl, rfl⟩
 ·
  intro x a σ hx
  rcases e1 with y3 | r0
  ·
   obtain ⟨rfl, b, τ, hr, M2, fM2_0, rfl, rfl⟩ := hx
   dsimp only at H
   show K1 _ _
   refine hK1 _ _ (Rc_ref hr ?_)
   refine Rc.mk ?_
   refine AWP_sr tok [] [4] (fun a σ => a = [(4, .int .i64 y3)] ∧ σ = hp E0 [] (M2 + 2)) (fun K hK => ?_) ?_
   ·
    skip
    simp -dsimp -implicitDefEqProofs (maxDischargeDepth := 6)
    exact hK _ _ ⟨rfl, rfl⟩
   rintro a σ ⟨rfl, rfl⟩
   replace H := Option.some.inj H; subst H
   refine AWP_kp [4] [(4, .int .i64 y3)] rfl ?_
   refine AWP_ret ?_
   exact ⟨[.int .i64 y3], by simp, 4, by simp [encL_nil]⟩
  ·
   obtain ⟨rfl, hx2⟩ := hx
   dsimp only at H
   replace H := Option.some.inj H; subst H; exact hx2
theorem c35 {p0 : (List gQuad)} {p1 : Int} {r : Int} (H : l_szQuadS p0 p1 = some r) : APure Tryd.prog G 35 [.fsl (encL rQuad p0), .int .i64 p1] (.int .i64 r) := by
 refine APure_fn (fun N0 => ?_) (by simp)
 refine ACalls_fn tok Tryd.func35 (by kernel_rfl) rfl Tryd.ntmps35 Tryd.results35 rfl ?_
 simp only [argsA, Nat.reduceAdd, hp_next]
 unfold l_szQuadS at H
 refine AWP_sr tok [] [0, 1] (fun a σ => a = [(0, .fsl (encL rQuad p0)), (1, .int .i64 p1)] ∧ σ = hp E0 [] (N0 + 1)) (fun K hK => ?_) ?_
 ·
  skip
  simp -dsimp -implicitDefEqProofs (maxDischargeDepth := 6)
  exact hK _ _ ⟨rfl, rfl⟩
 rintro a σ ⟨rfl, rfl⟩
 refine AWP_sr tok [] [1] (fun a σ => a = [(1, .int .i64 (isub .i64 p1 (ilen p0)))] ∧ σ = hp E0 [] (N0 + 6)) (fun K hK => ?_) ?_
 ·
  skip
  simp -dsimp -implicitDefEqProofs (maxDischargeDepth := 6)
  exact hK _ _ ⟨rfl, rfl⟩
 rintro a σ ⟨rfl, rfl⟩
 refine AWP_sq [1] fun K1 hK1 => ?_
 refine AWP_sr tok [] [1, 10] (fun a σ => a = [(1, .int .i64 (isub .i64 p1 (ilen p0))), (10, .bool (ilt (isub .i64 p1 (ilen p0)) 0))] ∧ σ = hp E0 [] (N0 + 8)) (fun K hK => ?_) ?_
 ·
  skip
  simp -dsimp -implicitDefEqProofs (maxDischargeDepth := 6)
  exact hK _ _ ⟨rfl, rfl⟩
 rintro a σ ⟨rfl, rfl⟩
 refine AWP_cond (ilt (isub .i64 p1 (ilen p0)) 0) rfl (fun C1 => ?_) (fun C1 => ?_)
 ·
  replace H := ifT C1 H
  refine AWP_sr tok [] [4] (fun a σ => a = [(4, .int .i64 (-1))] ∧ σ = hp E0 [] (N0 + 9)) (fun K hK => ?_) ?_
  ·
   skip
   simp -dsimp -implicitDefEqProofs (maxDischargeDepth := 6)
   exact hK _ _ ⟨rfl, rfl⟩
  rintro a σ ⟨rfl, rfl⟩
  replace H := Option.some.inj H; subst H
  refine AWP_kp [4] [(4, .int .i64 (-1))] rfl ?_
  refine AWP_ret ?_
  exact ⟨[.int .i64 (-1)], by simp, 4, by simp [encL_nil]⟩
 ·
  replace H := ifF C1 H
  refine AWP_skip ?_
  show K1 _ _
  refine keepE (l := [1]) (x := [(1, .int .i64 (isub .i64 p1 (ilen p0)))]) rfl fun a' ha => ?_
  refine hK1 _ _ ?_; rw [ha]
  refine Rc.mk ?_
  refine AWP_sr tok [] [4] (fun a σ => a = [(4, .int .i64 (isub .i64 p1 (ilen p0)))] ∧ σ = hp E0 [] (N0 + 10)) (fun K hK => ?_) ?_
  ·
   skip
   simp -dsimp -implicitDefEqProofs (maxDischargeDepth := 6)
   exact hK _ _ ⟨rfl, rfl⟩
  rintro a σ ⟨rfl, rfl⟩
  replace H := Option.some.inj H; subst H
  refine AWP_kp [4] [(4, .int .i64 (isub .i64 p1 (ilen p0)))] rfl ?_
  refine AWP_ret ?_
  exact ⟨[.int .i64 (isub .i64 p1 (ilen p0))], by simp, 4, by simp [encL_nil]⟩
theorem c37 {p0 : (List gQuad)} {r : (List gQuad)} (H : l_toQuadS p0 = some r) : APure Tryd.prog G 37 [.fsl (encL rQuad p0)] (.fsl (encL rQuad r)) := by
 refine APure_fn (fun N0 => ?_) (by simp)
 refine ACalls_fn tok Tryd.func37 (by kernel_rfl) rfl Tryd.ntmps37 Tryd.results37 rfl ?_
 simp only [argsA, Nat.reduceAdd, hp_next]
 unfold l_toQuadS at H
 refine AWP_sr tok [] [0] (fun a σ => a = [(0, .fsl (encL rQuad p0))] ∧ σ = hp E0 [] (N0 + 1)) (fun K hK => ?_) ?_
 ·
  skip
  simp -dsimp -implicitDefEqProofs (maxDischargeDepth := 6)
  exact hK _ _ ⟨rfl, rfl⟩
 rintro a σ ⟨rfl, rfl⟩
 obtain ⟨l1, hl1, H⟩ := bindE H
 refine AWP_sr tok [] [0, 3] (fun a σ => a = [(0, .fsl (encL rQuad p0)), (3, .sl (N0 + 3) 0 l1.length)] ∧ σ = hp E0 [(N0 + 3, some ⟨40, 5, encL rQuad l1⟩)] (N0 + 5)) (fun K hK => ?_) ?_
 ·
  skip
  simp -dsimp -implicitDefEqProofs (maxDischargeDepth := 6) [mak59 hl1]
  exact hK _ _ ⟨rfl, rfl⟩
 rintro a σ ⟨rfl, rfl⟩
 refine AWP_sq [3] fun K1 hK1 => ?_
 refine AWP_sr tok [] [0, 3, 4] (fun a σ => a = [(0, .fsl (encL rQuad p0)), (3, .sl (N0 + 3) 0 l1.length), (4, .int .i64 0)] ∧ σ = hp E0 [(N0 + 3, some ⟨40, 5, encL rQuad l1⟩)] (N0 + 6)) (fun K hK => ?_) ?_
 ·
  skip
  simp -dsimp -implicitDefEqProofs (maxDischargeDepth := 6)
  exact hK _ _ ⟨rfl, rfl⟩
 rintro a σ ⟨rfl, rfl⟩
 refine AWP_block (AWP_thenB ?_)
 obtain ⟨e1, hse1, H⟩ := bindE H
 refine AWP_lp [0, 3, 4] (fun s a σ => ∃ M1 o1 : Nat, N0 ≤ M1 ∧ N0 ≤ o1 ∧ o1 < M1 ∧ a = [(0, .fsl (encL rQuad p0)), (3, .sl o1 0 s.2.length), (4, .int .i64 s.1)] ∧ σ = hp E0 [(o1, some ⟨40, 5, encL rQuad s.2⟩)] M1) (fun s x a σ => x = .exit 0 ∧ Rc G 23 N0 (fun a σ => ∃ M2 o2 : Nat, N0 ≤ M2 ∧ N0 ≤ o2 ∧ o2 < M2 ∧ a = [(3, .sl o2 0 s.length)] ∧ σ = hp E0 [(o2, some ⟨40, 5, encL rQuad s⟩)] M2) (AAct.keep a [3]) σ) hse1 ?_ ?_ ?_
 ·
  refine Rc.kp [0, 3, 4] [(0, .fsl (encL rQuad p0)), (3, .sl (N0 + 3) 0 l1.length), (4, .int .i64 0)] rfl ?_
  exact Rc.fin (AHeap.Sub.refl _) ⟨N0 + 6, (N0 + 3), (by omega), (by omega), (by omega), rfl, rfl⟩
 ·
  clear H hse1
  rintro ⟨s2, s3⟩ fl a σ H ⟨M1, o1, fM1_0, fM1_1, fM1_2, rfl, rfl⟩ K2 O2 hK2 hO2
  unfold l_toQuadS_L1 at H; dsimp only at H
  refine AWP_sq [0, 3, 4] fun K3 hK3 => ?_
  refine AWP_sr tok [] [0, 3, 4, 11] (fun a σ => a = [(0, .fsl (encL rQuad p0)), (3, .sl o1 0 s3.length), (4, .int .i64 s2), (11, .bool (ilt s2 (ilen p0)))] ∧ σ = hp E0 [(o1, some ⟨40, 5, encL rQuad s3⟩)] (M1 + 4)) (fun K hK => ?_) ?_
  ·
   skip
   simp -dsimp -implicitDefEqProofs (maxDischargeDepth := 6)
   exact hK _ _ ⟨rfl, rfl⟩
  rintro a σ ⟨rfl, rfl⟩
  refine AWP_cond (ilt s2 (ilen p0)) rfl (fun C1 => ?_) (fun C1 => ?_)
  ·
   replace H := ifT C1 H
   refine AWP_skip ?_
   show K3 _ _
   refine keepE (l := [0, 3, 4]) (x := [(0, .fsl (encL rQuad p0)), (3, .sl o1 0 s3.length), (4, .int .i64 s2)]) rfl fun a' ha => ?_
   refine hK3 _ _ ?_; rw [ha]
   refine Rc.mk ?_
   refine AWP_sq [0, 3, 4] fun K4 hK4 => ?_
   refine AWP_block (AWP_thenB ?_)
   obtain ⟨v5, hv5, H⟩ := bindE H
   obtain ⟨r6, hr6, H⟩ := bindE H
   obtain ⟨v7, hv7, H⟩ := bindE H
   obtain ⟨l8, hl8, H⟩ := bindE H
   refine AWP_rt tok [] [0, 3, 4] (fun a σ => a = [(0, .fsl (encL rQuad p0)), (3, .sl o1 0 s3.length), (4, .int .i64 s2)] ∧ σ = hp E0 [(o1, some ⟨40, 5, encL rQuad l8⟩)] (M1 + 13)) (fun K hK => ?_) ?_
   ·
    skip
    simp -dsimp -implicitDefEqProofs (maxDischargeDepth := 6) [ix56 hv5, ixo59 hv7, (idx_lt3 hv7).2.2, (setx_iff.1 hl8).2.symm]
    refine (c24 hr6).app ?_; try simp -dsimp -implicitDefEqProofs (maxDischargeDepth := 6) [ix56 hv5, ixo59 hv7, (idx_lt3 hv7).2.2, (setx_iff.1 hl8).2.symm]
    exact hK _ _ ⟨rfl, rfl⟩
   rintro a σ ⟨ha, rfl⟩
   (try rw [← setx_len hl8] at ha); (try rw [← setx_len hl8])
   refine hK4 _ _ ?_; rw [ha]
   refine Rc.mk ?_
   refine AWP_rt tok [] [0, 3, 4] (fun a σ => a = [(0, .fsl (encL rQuad p0)), (3, .sl o1 0 l8.length), (4, .int .i64 (iadd .i64 s2 1))] ∧ σ = hp E0 [(o1, some ⟨40, 5, encL rQuad l8⟩)] (M1 + 16)) (fun K hK => ?_) ?_
   ·
    skip
    simp -dsimp -implicitDefEqProofs (maxDischargeDepth := 6)
    exact hK _ _ ⟨rfl, rfl⟩
   rintro a σ ⟨ha, rfl⟩
   replace H := Option.some.inj H; subst H
   refine hK2 _ _ _ rfl ?_; rw [ha]
   exact Rc.fin (AHeap.Sub.refl _) ⟨M1 + 16, o1, (by omega), (by omega), (by omega), rfl, rfl⟩
  ·
   replace H := ifF C1 H
   replace H := Option.some.inj H; subst H
   refine AWP_exit (hO2 _ _ _ _ rfl ⟨rfl, ?_⟩)
   refine Rc.rw (l := [3]) (X := [(3, .sl o1 0 s3.length)]) rfl ?_
   exact Rc.fin (AHeap.Sub.refl _) ⟨M1 + 4, o1, (by omega), (by omega), (by omega), rfl, rfl⟩
 ·
  intro x a σ hx
  obtain ⟨y4, rfl⟩ : ∃ x, x = e1 := ⟨_, rfl⟩
  obtain ⟨rfl, b, τ, hr, M2, o2, fM2_0, fM2_1, fM2_2, rfl, rfl⟩ := hx
  dsimp only at H
  show K1 _ _
  refine hK1 _ _ (Rc_ref hr ?_)
  refine Rc.mk ?_
  refine AWP_sr tok [] [2] (fun a σ => a = [(2, .sl o2 0 y4.length)] ∧ σ = hp E0 [(o2, some ⟨40, 5, encL rQuad y4⟩)] (M2 + 2)) (fun K hK => ?_) ?_
  ·
   skip
   simp -dsimp -implicitDefEqProofs (maxDischargeDepth := 6)
   exact hK _ _ ⟨rfl, rfl⟩
  rintro a σ ⟨rfl, rfl⟩
  replace H := Option.some.inj H; subst H
  refine AWP_kp [2] [(2, .sl o2 0 y4.length)] rfl ?_
  refine AWP_ret ?_
  exact ⟨[.sl o2 0 y4.length], by simp, 4, by simp [encL_nil]⟩
end Go.Proofs.YtoklfbdcghgmlaaDoor
