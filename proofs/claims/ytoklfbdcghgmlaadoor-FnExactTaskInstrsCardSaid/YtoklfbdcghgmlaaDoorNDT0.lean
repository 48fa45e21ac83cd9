/- The contracts of functions of the program, part 0: each computes what its mirror computes. No conditions. -/
import Derived.Test.YtoklfbdcghgmlaaDoorNDH
import Derived.Test.YtoklfbdcghgmlaaDoorNDM
set_option linter.unusedSimpArgs false
set_option linter.unusedVariables false
set_option maxRecDepth 20000
set_option maxHeartbeats 4000000
namespace Go.Proofs.YtoklfbdcghgmlaaDoor
open Go Go.Abs Go.RowKit

theorem c24 {p0 : gQuad} {r : gQuad} (H : l_toQuad p0 = some r) : APure Tryd.prog G 24 [.agg [.int .i64 p0.Op, .int .i64 p0.Dst, .int .i64 p0.A, .int .i64 p0.B, .int .i64 p0.N]] (.agg [.int .i64 r.Op, .int .i64 r.Dst, .int .i64 r.A, .int .i64 r.B, .int .i64 r.N]) := by
 refine APure_fn (fun N0 => ?_) (by simp)
 refine ACalls_fn tok Tryd.func24 (by kernel_rfl) rfl Tryd.ntmps24 Tryd.results24 rfl ?_
 simp only [argsA, Nat.reduceAdd, hp_next]
 unfold l_toQuad at H
 refine AWP_sr tok [0] [1, 2] (fun a σ => a = [(1, .fptr [.int .i64 p0.Op, .int .i64 p0.Dst, .int .i64 p0.A, .int .i64 p0.B, .int .i64 p0.N] 0), (2, .ptr (N0 + 1) 0 0)] ∧ σ = hp E0 [(N0 + 1, some ⟨40, 5, [[.int .i64 0, .int .i64 0, .int .i64 0, .int .i64 0, .int .i64 0]]⟩)] (N0 + 2)) (fun K hK => ?_) ?_
 ·
  skip
  simp -dsimp -implicitDefEqProofs (maxDischargeDepth := 6)
  exact hK _ _ ⟨rfl, rfl⟩
 rintro a σ ⟨rfl, rfl⟩
 refine AWP_sr tok [] [1, 2, 3] (fun a σ => a = [(1, .fptr [.int .i64 p0.Op, .int .i64 p0.Dst, .int .i64 p0.A, .int .i64 p0.B, .int .i64 p0.N] 0), (2, .ptr (N0 + 1) 0 0), (3, .ptr (N0 + 2) 0 0)] ∧ σ = hp E0 [(N0 + 1, some ⟨40, 5, [[.int .i64 0, .int .i64 0, .int .i64 0, .int .i64 0, .int .i64 0]]⟩), (N0 + 2, some ⟨40, 5, [[.int .i64 0, .int .i64 0, .int .i64 0, .int .i64 0, .int .i64 0]]⟩)] (N0 + 3)) (fun K hK => ?_) ?_
 ·
  skip
  simp -dsimp -implicitDefEqProofs (maxDischargeDepth := 6)
  exact hK _ _ ⟨rfl, rfl⟩
 rintro a σ ⟨rfl, rfl⟩
 refine AWP_sr tok [] [1, 2, 3] (fun a σ => a = [(1, .fptr [.int .i64 p0.Op, .int .i64 p0.Dst, .int .i64 p0.A, .int .i64 p0.B, .int .i64 p0.N] 0), (2, .ptr (N0 + 1) 0 0), (3, .ptr (N0 + 2) 0 0)] ∧ σ = hp E0 [(N0 + 1, some ⟨40, 5, [[.int .i64 0, .int .i64 0, .int .i64 0, .int .i64 0, .int .i64 0]]⟩), (N0 + 2, some ⟨40, 5, [[.int .i64 p0.Op, .int .i64 0, .int .i64 0, .int .i64 0, .int .i64 0]]⟩)] (N0 + 7)) (fun K hK => ?_) ?_
 ·
  skip
  simp -dsimp -implicitDefEqProofs (maxDischargeDepth := 6)
  exact hK _ _ ⟨rfl, rfl⟩
 rintro a σ ⟨rfl, rfl⟩
 refine AWP_sr tok [] [1, 2, 3] (fun a σ => a = [(1, .fptr [.int .i64 p0.Op, .int .i64 p0.Dst, .int .i64 p0.A, .int .i64 p0.B, .int .i64 p0.N] 0), (2, .ptr (N0 + 1) 0 0), (3, .ptr (N0 + 2) 0 0)] ∧ σ = hp E0 [(N0 + 1, some ⟨40, 5, [[.int .i64 0, .int .i64 0, .int .i64 0, .int .i64 0, .int .i64 0]]⟩), (N0 + 2, some ⟨40, 5, [[.int .i64 p0.Op, .int .i64 p0.Dst, .int .i64 0, .int .i64 0, .int .i64 0]]⟩)] (N0 + 11)) (fun K hK => ?_) ?_
 ·
  skip
  simp -dsimp -implicitDefEqProofs (maxDischargeDepth := 6)
  exact hK _ _ ⟨rfl, rfl⟩
 rintro a σ ⟨rfl, rfl⟩
 refine AWP_sr tok [] [1, 2, 3] (fun a σ => a = [(1, .fptr [.int .i64 p0.Op, .int .i64 p0.Dst, .int .i64 p0.A, .int .i64 p0.B, .int .i64 p0.N] 0), (2, .ptr (N0 + 1) 0 0), (3, .ptr (N0 + 2) 0 0)] ∧ σ = hp E0 [(N0 + 1, some ⟨40, 5, [[.int .i64 0, .int .i64 0, .int .i64 0, .int .i64 0, .int .i64 0]]⟩), (N0 + 2, some ⟨40, 5, [[.int .i64 p0.Op, .int .i64 p0.Dst, .int .i64 p0.A, .int .i64 0, .int .i64 0]]⟩)] (N0 + 15)) (fun K hK => ?_) ?_
 ·
  skip
  simp -dsimp -implicitDefEqProofs (maxDischargeDepth := 6)
  exact hK _ _ ⟨rfl, rfl⟩
 rintro a σ ⟨rfl, rfl⟩
 refine AWP_sr tok [] [1, 2, 3] (fun a σ => a = [(1, .fptr [.int .i64 p0.Op, .int .i64 p0.Dst, .int .i64 p0.A, .int .i64 p0.B, .int .i64 p0.N] 0), (2, .ptr (N0 + 1) 0 0), (3, .ptr (N0 + 2) 0 0)] ∧ σ = hp E0 [(N0 + 1, some ⟨40, 5, [[.int .i64 0, .int .i64 0, .int .i64 0, .int .i64 0, .int .i64 0]]⟩), (N0 + 2, some ⟨40, 5, [[.int .i64 p0.Op, .int .i64 p0.Dst, .int .i64 p0.A, .int .i64 p0.B, .int .i64 0]]⟩)] (N0 + 19)) (fun K hK => ?_) ?_
 ·
  skip
  simp -dsimp -implicitDefEqProofs (maxDischargeDepth := 6)
  exact hK _ _ ⟨rfl, rfl⟩
 rintro a σ ⟨rfl, rfl⟩
 refine AWP_sr tok [] [2, 3] (fun a σ => a = [(2, .ptr (N0 + 1) 0 0), (3, .ptr (N0 + 2) 0 0)] ∧ σ = hp E0 [(N0 + 1, some ⟨40, 5, [[.int .i64 0, .int .i64 0, .int .i64 0, .int .i64 0, .int .i64 0]]⟩), (N0 + 2, some ⟨40, 5, [[.int .i64 p0.Op, .int .i64 p0.Dst, .int .i64 p0.A, .int .i64 p0.B, .int .i64 p0.N]]⟩)] (N0 + 23)) (fun K hK => ?_) ?_
 ·
  skip
  simp -dsimp -implicitDefEqProofs (maxDischargeDepth := 6)
  exact hK _ _ ⟨rfl, rfl⟩
 rintro a σ ⟨rfl, rfl⟩
 refine AWP_sr tok [] [2] (fun a σ => a = [(2, .ptr (N0 + 1) 0 0)] ∧ σ = hp E0 [(N0 + 1, some ⟨40, 5, [[.int .i64 p0.Op, .int .i64 p0.Dst, .int .i64 p0.A, .int .i64 p0.B, .int .i64 p0.N]]⟩), (N0 + 2, some ⟨40, 5, [[.int .i64 p0.Op, .int .i64 p0.Dst, .int .i64 p0.A, .int .i64 p0.B, .int .i64 p0.N]]⟩)] (N0 + 25)) (fun K hK => ?_) ?_
 ·
  skip
  simp -dsimp -implicitDefEqProofs (maxDischargeDepth := 6)
  exact hK _ _ ⟨rfl, rfl⟩
 rintro a σ ⟨rfl, rfl⟩
 replace H := Option.some.inj H; subst H
 refine AWP_kp [2] [(2, .ptr (N0 + 1) 0 0)] rfl ?_
 refine AWP_ret ?_
 exact ⟨[.agg [.int .i64 p0.Op, .int .i64 p0.Dst, .int .i64 p0.A, .int .i64 p0.B, .int .i64 p0.N]], by simp, 4, by simp [encL_nil]⟩
theorem c65 {p0 : Int} {p1 : Int} {p2 : Int} {r : Bool} (H : s_l6In p0 p1 p2 = some r) : APure Tryd.prog G 65 [.int .i64 p0, .int .i64 p1, .int .i64 p2] (.bool r) := by
 refine APure_fn (fun N0 => ?_) (by simp)
 refine ACalls_fn tok Tryd.func65 (by kernel_rfl) rfl Tryd.ntmps65 Tryd.results65 rfl ?_
 simp only [argsA, Nat.reduceAdd, hp_next]
 unfold s_l6In at H
 refine AWP_sr tok [] [0, 1, 2] (fun a σ => a = [(0, .int .i64 p0), (1, .int .i64 p1), (2, .int .i64 p2)] ∧ σ = hp E0 [] (N0 + 1)) (fun K hK => ?_) ?_
 ·
  skip
  simp -dsimp -implicitDefEqProofs (maxDischargeDepth := 6)
  exact hK _ _ ⟨rfl, rfl⟩
 rintro a σ ⟨rfl, rfl⟩
 obtain ⟨g1, hg1, H⟩ := bindE H
 refine AWP_sr tok [] [6] (fun a σ => a = [(6, .bool g1)] ∧ σ = hp E0 [] (N0 + 10)) (fun K hK => ?_) ?_
 ·
  skip
  simp -dsimp -implicitDefEqProofs (maxDischargeDepth := 6)
  cases hbg1 : ige p0 p1
  ·
   replace hg1 := ifF hbg1 hg1
   replace hg1 := Option.some.inj hg1; subst hg1
   try simp -dsimp -implicitDefEqProofs (maxDischargeDepth := 6) [hbg1]
   exact hK _ _ ⟨rfl, rfl⟩
  ·
   replace hg1 := ifT hbg1 hg1
   replace hg1 := Option.some.inj hg1; subst hg1
   try simp -dsimp -implicitDefEqProofs (maxDischargeDepth := 6) [hbg1]
   exact hK _ _ ⟨rfl, rfl⟩
 rintro a σ ⟨rfl, rfl⟩
 replace H := Option.some.inj H; subst H
 refine AWP_kp [6] [(6, .bool g1)] rfl ?_
 refine AWP_ret ?_
 exact ⟨[.bool g1], by simp, 4, by simp [encL_nil]⟩
theorem c142 {p0 : Int} {p1 : Bool} {r : Bool} (H : s_l21Reg p0 p1 = some r) : APure Tryd.prog G 142 [.int .i64 p0, .bool p1] (.bool r) := by
 refine APure_fn (fun N0 => ?_) (by simp)
 refine ACalls_fn tok Tryd.func142 (by kernel_rfl) rfl Tryd.ntmps142 Tryd.results142 rfl ?_
 simp only [argsA, Nat.reduceAdd, hp_next]
 unfold s_l21Reg at H
 refine AWP_sr tok [] [0, 1] (fun a σ => a = [(0, .int .i64 p0), (1, .bool p1)] ∧ σ = hp E0 [] (N0 + 1)) (fun K hK => ?_) ?_
 ·
  skip
  simp -dsimp -implicitDefEqProofs (maxDischargeDepth := 6)
  exact hK _ _ ⟨rfl, rfl⟩
 rintro a σ ⟨rfl, rfl⟩
 refine AWP_sq [0] fun K1 hK1 => ?_
 refine AWP_sr tok [] [0, 5] (fun a σ => a = [(0, .int .i64 p0), (5, .bool p1)] ∧ σ = hp E0 [] (N0 + 2)) (fun K hK => ?_) ?_
 ·
  skip
  simp -dsimp -implicitDefEqProofs (maxDischargeDepth := 6)
  exact hK _ _ ⟨rfl, rfl⟩
 rintro a σ ⟨rfl, rfl⟩
 refine AWP_cond p1 rfl (fun C1 => ?_) (fun C1 => ?_)
 ·
  replace H := ifT C1 H
  obtain ⟨r1, hr1, H⟩ := bindE H
  refine AWP_sr tok [] [4] (fun a σ => a = [(4, .bool r1)] ∧ σ = hp E0 [] (N0 + 5)) (fun K hK => ?_) ?_
  ·
   skip
   simp -dsimp -implicitDefEqProofs (maxDischargeDepth := 6)
   refine (c65 hr1).app ?_; try simp -dsimp -implicitDefEqProofs (maxDischargeDepth := 6)
   exact hK _ _ ⟨rfl, rfl⟩
  rintro a σ ⟨rfl, rfl⟩
  replace H := Option.some.inj H; subst H
  refine AWP_kp [4] [(4, .bool r1)] rfl ?_
  refine AWP_ret ?_
  exact ⟨[.bool r1], by simp, 4, by simp [encL_nil]⟩
 ·
  replace H := ifF C1 H
  refine AWP_skip ?_
  show K1 _ _
  refine keepE (l := [0]) (x := [(0, .int .i64 p0)]) rfl fun a' ha => ?_
  refine hK1 _ _ ?_; rw [ha]
  refine Rc.mk ?_
  refine AWP_sr tok [] [4] (fun a σ => a = [(4, .bool (ieq p0 0))] ∧ σ = hp E0 [] (N0 + 5)) (fun K hK => ?_) ?_
  ·
   skip
   simp -dsimp -implicitDefEqProofs (maxDischargeDepth := 6)
   exact hK _ _ ⟨rfl, rfl⟩
  rintro a σ ⟨rfl, rfl⟩
  replace H := Option.some.inj H; subst H
  refine AWP_kp [4] [(4, .bool (ieq p0 0))] rfl ?_
  refine AWP_ret ?_
  exact ⟨[.bool (ieq p0 0)], by simp, 4, by simp [encL_nil]⟩
theorem c103 {p0 : gQuad} {p1 : Bool} {p2 : Bool} {p3 : Bool} {r : Bool} (H : s_l21Regs p0 p1 p2 p3 = some r) : APure Tryd.prog G 103 [.agg [.int .i64 p0.Op, .int .i64 p0.Dst, .int .i64 p0.A, .int .i64 p0.B, .int .i64 p0.N], .bool p1, .bool p2, .bool p3] (.bool r) := by
 refine APure_fn (fun N0 => ?_) (by simp)
 refine ACalls_fn tok Tryd.func103 (by kernel_rfl) rfl Tryd.ntmps103 Tryd.results103 rfl ?_
 simp only [argsA, Nat.reduceAdd, hp_next]
 unfold s_l21Regs at H
 refine AWP_sr tok [0] [1, 2, 3, 4] (fun a σ => a = [(1, .bool p1), (2, .bool p2), (3, .bool p3), (4, .fptr [.int .i64 p0.Op, .int .i64 p0.Dst, .int .i64 p0.A, .int .i64 p0.B, .int .i64 p0.N] 0)] ∧ σ = hp E0 [] (N0 + 2)) (fun K hK => ?_) ?_
 ·
  skip
  simp -dsimp -implicitDefEqProofs (maxDischargeDepth := 6)
  exact hK _ _ ⟨rfl, rfl⟩
 rintro a σ ⟨rfl, rfl⟩
 obtain ⟨r1, hr1, H⟩ := bindE H
 obtain ⟨g3, hg3, H⟩ := bindE H
 obtain ⟨g5, hg5, H⟩ := bindE H
 refine AWP_sr tok [] [8] (fun a σ => a = [(8, .bool g5)] ∧ σ = hp E0 [] (N0 + 19)) (fun K hK => ?_) ?_
 ·
  skip
  simp -dsimp -implicitDefEqProofs (maxDischargeDepth := 6)
  refine (c142 hr1).app ?_; try simp -dsimp -implicitDefEqProofs (maxDischargeDepth := 6)
  cases hbg3 : r1
  ·
   replace hg3 := ifF hbg3 hg3
   replace hg3 := Option.some.inj hg3; subst hg3
   try simp -dsimp -implicitDefEqProofs (maxDischargeDepth := 6) [hbg3]
   replace hg5 := ifF rfl hg5
   replace hg5 := Option.some.inj hg5; subst hg5
   try simp -dsimp -implicitDefEqProofs (maxDischargeDepth := 6) [hbg3]
   exact hK _ _ ⟨rfl, rfl⟩
  ·
   replace hg3 := ifT hbg3 hg3
   obtain ⟨r2, hr2, hg3⟩ := bindE hg3
   replace hg3 := Option.some.inj hg3; subst hg3
   try simp -dsimp -implicitDefEqProofs (maxDischargeDepth := 6) [hbg3]
   refine (c142 hr2).app ?_; try simp -dsimp -implicitDefEqProofs (maxDischargeDepth := 6) [hbg3]
   cases hbg5 : r2
   ·
    replace hg5 := ifF hbg5 hg5
    replace hg5 := Option.some.inj hg5; subst hg5
    try simp -dsimp -implicitDefEqProofs (maxDischargeDepth := 6) [hbg3, hbg5]
    exact hK _ _ ⟨rfl, rfl⟩
   ·
    replace hg5 := ifT hbg5 hg5
    obtain ⟨r4, hr4, hg5⟩ := bindE hg5
    replace hg5 := Option.some.inj hg5; subst hg5
    try simp -dsimp -implicitDefEqProofs (maxDischargeDepth := 6) [hbg3, hbg5]
    refine (c142 hr4).app ?_; try simp -dsimp -implicitDefEqProofs (maxDischargeDepth := 6) [hbg3, hbg5]
    exact hK _ _ ⟨rfl, rfl⟩
 rintro a σ ⟨rfl, rfl⟩
 replace H := Option.some.inj H; subst H
 refine AWP_kp [8] [(8, .bool g5)] rfl ?_
 refine AWP_ret ?_
 exact ⟨[.bool g5], by simp, 4, by simp [encL_nil]⟩
theorem c75 {p0 : Int} {r : Bool} (H : s_WordValid p0 = some r) : APure Tryd.prog G 75 [.int .i64 p0] (.bool r) := by
 refine APure_fn (fun N0 => ?_) (by simp)
 refine ACalls_fn tok Tryd.func75 (by kernel_rfl) rfl Tryd.ntmps75 Tryd.results75 rfl ?_
 simp only [argsA, Nat.reduceAdd, hp_next]
 unfold s_WordValid at H
 refine AWP_sr tok [] [0] (fun a σ => a = [(0, .int .i64 p0)] ∧ σ = hp E0 [] (N0 + 1)) (fun K hK => ?_) ?_
 ·
  skip
  simp -dsimp -implicitDefEqProofs (maxDischargeDepth := 6)
  exact hK _ _ ⟨rfl, rfl⟩
 rintro a σ ⟨rfl, rfl⟩
 obtain ⟨r1, hr1, H⟩ := bindE H
 refine AWP_sr tok [] [2] (fun a σ => a = [(2, .bool r1)] ∧ σ = hp E0 [] (N0 + 4)) (fun K hK => ?_) ?_
 ·
  skip
  simp -dsimp -implicitDefEqProofs (maxDischargeDepth := 6)
  refine (c65 hr1).app ?_; try simp -dsimp -implicitDefEqProofs (maxDischargeDepth := 6)
  exact hK _ _ ⟨rfl, rfl⟩
 rintro a σ ⟨rfl, rfl⟩
 replace H := Option.some.inj H; subst H
 refine AWP_kp [2] [(2, .bool r1)] rfl ?_
 refine AWP_ret ?_
 exact ⟨[.bool r1], by simp, 4, by simp [encL_nil]⟩
theorem c104 {p0 : Int} {r : Bool} (H : s_OpValid p0 = some r) : APure Tryd.prog G 104 [.int .i64 p0] (.bool r) := by
 refine APure_fn (fun N0 => ?_) (by simp)
 refine ACalls_fn tok Tryd.func104 (by kernel_rfl) rfl Tryd.ntmps104 Tryd.results104 rfl ?_
 simp only [argsA, Nat.reduceAdd, hp_next]
 unfold s_OpValid at H
 refine AWP_sr tok [] [0] (fun a σ => a = [(0, .int .i64 p0)] ∧ σ = hp E0 [] (N0 + 1)) (fun K hK => ?_) ?_
 ·
  skip
  simp -dsimp -implicitDefEqProofs (maxDischargeDepth := 6)
  exact hK _ _ ⟨rfl, rfl⟩
 rintro a σ ⟨rfl, rfl⟩
 obtain ⟨r1, hr1, H⟩ := bindE H
 refine AWP_sr tok [] [2] (fun a σ => a = [(2, .bool r1)] ∧ σ = hp E0 [] (N0 + 4)) (fun K hK => ?_) ?_
 ·
  skip
  simp -dsimp -implicitDefEqProofs (maxDischargeDepth := 6)
  refine (c65 hr1).app ?_; try simp -dsimp -implicitDefEqProofs (maxDischargeDepth := 6)
  exact hK _ _ ⟨rfl, rfl⟩
 rintro a σ ⟨rfl, rfl⟩
 replace H := Option.some.inj H; subst H
 refine AWP_kp [2] [(2, .bool r1)] rfl ?_
 refine AWP_ret ?_
 exact ⟨[.bool r1], by simp, 4, by simp [encL_nil]⟩
theorem c64 {p0 : gQuad} {p1 : Int} {r : Bool} (H : s_QuadValid p0 p1 = some r) : APure Tryd.prog G 64 [.agg [.int .i64 p0.Op, .int .i64 p0.Dst, .int .i64 p0.A, .int .i64 p0.B, .int .i64 p0.N], .int .i64 p1] (.bool r) := by
 refine APure_fn (fun N0 => ?_) (by simp)
 refine ACalls_fn tok Tryd.func64 (by kernel_rfl) rfl Tryd.ntmps64 Tryd.results64 rfl ?_
 simp only [argsA, Nat.reduceAdd, hp_next]
 unfold s_QuadValid at H
 refine AWP_sr tok [0] [1, 2] (fun a σ => a = [(1, .int .i64 p1), (2, .fptr [.int .i64 p0.Op, .int .i64 p0.Dst, .int .i64 p0.A, .int .i64 p0.B, .int .i64 p0.N] 0)] ∧ σ = hp E0 [] (N0 + 2)) (fun K hK => ?_) ?_
 ·
  skip
  simp -dsimp -implicitDefEqProofs (maxDischargeDepth := 6)
  exact hK _ _ ⟨rfl, rfl⟩
 rintro a σ ⟨rfl, rfl⟩
 refine AWP_sq [] fun K1 hK1 => ?_
 refine AWP_sr tok [] [1, 2, 6] (fun a σ => a = [(1, .int .i64 p1), (2, .fptr [.int .i64 p0.Op, .int .i64 p0.Dst, .int .i64 p0.A, .int .i64 p0.B, .int .i64 p0.N] 0), (6, .int .i64 p0.Op)] ∧ σ = hp E0 [] (N0 + 4)) (fun K hK => ?_) ?_
 ·
  skip
  simp -dsimp -implicitDefEqProofs (maxDischargeDepth := 6)
  exact hK _ _ ⟨rfl, rfl⟩
 rintro a σ ⟨rfl, rfl⟩
 refine AWP_block (AWP_thenB ?_)
 refine AWP_sr tok [] [1, 2, 6, 7] (fun a σ => a = [(1, .int .i64 p1), (2, .fptr [.int .i64 p0.Op, .int .i64 p0.Dst, .int .i64 p0.A, .int .i64 p0.B, .int .i64 p0.N] 0), (6, .int .i64 p0.Op), (7, .bool (ieq p0.Op 1))] ∧ σ = hp E0 [] (N0 + 6)) (fun K hK => ?_) ?_
 ·
  skip
  simp -dsimp -implicitDefEqProofs (maxDischargeDepth := 6)
  exact hK _ _ ⟨rfl, rfl⟩
 rintro a σ ⟨rfl, rfl⟩
 refine AWP_cond (ieq p0.Op 1) rfl (fun C1 => ?_) (fun C1 => ?_)
 ·
  replace H := ifT C1 H
  obtain ⟨r1, hr1, H⟩ := bindE H
  obtain ⟨g3, hg3, H⟩ := bindE H
  refine AWP_sr tok [] [4] (fun a σ => a = [(4, .bool g3)] ∧ σ = hp E0 [] (N0 + 14)) (fun K hK => ?_) ?_
  ·
   skip
   simp -dsimp -implicitDefEqProofs (maxDischargeDepth := 6)
   refine (c103 hr1).app ?_; try simp -dsimp -implicitDefEqProofs (maxDischargeDepth := 6)
   cases hbg3 : r1
   ·
    replace hg3 := ifF hbg3 hg3
    replace hg3 := Option.some.inj hg3; subst hg3
    try simp -dsimp -implicitDefEqProofs (maxDischargeDepth := 6) [hbg3]
    exact hK _ _ ⟨rfl, rfl⟩
   ·
    replace hg3 := ifT hbg3 hg3
    obtain ⟨r2, hr2, hg3⟩ := bindE hg3
    replace hg3 := Option.some.inj hg3; subst hg3
    try simp -dsimp -implicitDefEqProofs (maxDischargeDepth := 6) [hbg3]
    refine (c75 hr2).app ?_; try simp -dsimp -implicitDefEqProofs (maxDischargeDepth := 6) [hbg3]
    exact hK _ _ ⟨rfl, rfl⟩
  rintro a σ ⟨rfl, rfl⟩
  replace H := Option.some.inj H; subst H
  refine AWP_kp [4] [(4, .bool g3)] rfl ?_
  refine AWP_ret ?_
  exact ⟨[.bool g3], by simp, 4, by simp [encL_nil]⟩
 ·
  replace H := ifF C1 H
  refine AWP_sr tok [] [1, 2, 6, 16] (fun a σ => a = [(1, .int .i64 p1), (2, .fptr [.int .i64 p0.Op, .int .i64 p0.Dst, .int .i64 p0.A, .int .i64 p0.B, .int .i64 p0.N] 0), (6, .int .i64 p0.Op), (16, .bool (ieq p0.Op 2))] ∧ σ = hp E0 [] (N0 + 8)) (fun K hK => ?_) ?_
  ·
   skip
   simp -dsimp -implicitDefEqProofs (maxDischargeDepth := 6)
   exact hK _ _ ⟨rfl, rfl⟩
  rintro a σ ⟨rfl, rfl⟩
  refine AWP_cond (ieq p0.Op 2) rfl (fun C2 => ?_) (fun C2 => ?_)
  ·
   replace H := ifT C2 H
   obtain ⟨r4, hr4, H⟩ := bindE H
   obtain ⟨g5, hg5, H⟩ := bindE H
   refine AWP_sr tok [] [4] (fun a σ => a = [(4, .bool g5)] ∧ σ = hp E0 [] (N0 + 16)) (fun K hK => ?_) ?_
   ·
    skip
    simp -dsimp -implicitDefEqProofs (maxDischargeDepth := 6)
    refine (c103 hr4).app ?_; try simp -dsimp -implicitDefEqProofs (maxDischargeDepth := 6)
    cases hbg5 : r4
    ·
     replace hg5 := ifF hbg5 hg5
     replace hg5 := Option.some.inj hg5; subst hg5
     try simp -dsimp -implicitDefEqProofs (maxDischargeDepth := 6) [hbg5]
     exact hK _ _ ⟨rfl, rfl⟩
    ·
     replace hg5 := ifT hbg5 hg5
     replace hg5 := Option.some.inj hg5; subst hg5
     try simp -dsimp -implicitDefEqProofs (maxDischargeDepth := 6) [hbg5]
     exact hK _ _ ⟨rfl, rfl⟩
   rintro a σ ⟨rfl, rfl⟩
   replace H := Option.some.inj H; subst H
   refine AWP_kp [4] [(4, .bool g5)] rfl ?_
   refine AWP_ret ?_
   exact ⟨[.bool g5], by simp, 4, by simp [encL_nil]⟩
  ·
   replace H := ifF C2 H
   refine AWP_sr tok [] [1, 2, 6, 25] (fun a σ => a = [(1, .int .i64 p1), (2, .fptr [.int .i64 p0.Op, .int .i64 p0.Dst, .int .i64 p0.A, .int .i64 p0.B, .int .i64 p0.N] 0), (6, .int .i64 p0.Op), (25, .bool (ieq p0.Op 3))] ∧ σ = hp E0 [] (N0 + 10)) (fun K hK => ?_) ?_
   ·
    skip
    simp -dsimp -implicitDefEqProofs (maxDischargeDepth := 6)
    exact hK _ _ ⟨rfl, rfl⟩
   rintro a σ ⟨rfl, rfl⟩
   refine AWP_cond (ieq p0.Op 3) rfl (fun C3 => ?_) (fun C3 => ?_)
   ·
    replace H := ifT C3 H
    obtain ⟨r6, hr6, H⟩ := bindE H
    obtain ⟨g8, hg8, H⟩ := bindE H
    refine AWP_sr tok [] [4] (fun a σ => a = [(4, .bool g8)] ∧ σ = hp E0 [] (N0 + 18)) (fun K hK => ?_) ?_
    ·
     skip
     simp -dsimp -implicitDefEqProofs (maxDischargeDepth := 6)
     refine (c103 hr6).app ?_; try simp -dsimp -implicitDefEqProofs (maxDischargeDepth := 6)
     cases hbg8 : r6
     ·
      replace hg8 := ifF hbg8 hg8
      replace hg8 := Option.some.inj hg8; subst hg8
      try simp -dsimp -implicitDefEqProofs (maxDischargeDepth := 6) [hbg8]
      exact hK _ _ ⟨rfl, rfl⟩
     ·
      replace hg8 := ifT hbg8 hg8
      obtain ⟨r7, hr7, hg8⟩ := bindE hg8
      replace hg8 := Option.some.inj hg8; subst hg8
      try simp -dsimp -implicitDefEqProofs (maxDischargeDepth := 6) [hbg8]
      refine (c104 hr7).app ?_; try simp -dsimp -implicitDefEqProofs (maxDischargeDepth := 6) [hbg8]
      exact hK _ _ ⟨rfl, rfl⟩
    rintro a σ ⟨rfl, rfl⟩
    replace H := Option.some.inj H; subst H
    refine AWP_kp [4] [(4, .bool g8)] rfl ?_
    refine AWP_ret ?_
    exact ⟨[.bool g8], by simp, 4, by simp [encL_nil]⟩
   ·
    replace H := ifF C3 H
    refine AWP_sr tok [] [1, 2, 6, 34] (fun a σ => a = [(1, .int .i64 p1), (2, .fptr [.int .i64 p0.Op, .int .i64 p0.Dst, .int .i64 p0.A, .int .i64 p0.B, .int .i64 p0.N] 0), (6, .int .i64 p0.Op), (34, .bool (ieq p0.Op 4))] ∧ σ = hp E0 [] (N0 + 12)) (fun K hK => ?_) ?_
    ·
     skip
     simp -dsimp -implicitDefEqProofs (maxDischargeDepth := 6)
     exact hK _ _ ⟨rfl, rfl⟩
    rintro a σ ⟨rfl, rfl⟩
    refine AWP_cond (ieq p0.Op 4) rfl (fun C4 => ?_) (fun C4 => ?_)
    ·
     replace H := ifT C4 H
     obtain ⟨r9, hr9, H⟩ := bindE H
     obtain ⟨g10, hg10, H⟩ := bindE H
     obtain ⟨g11, hg11, H⟩ := bindE H
     refine AWP_sr tok [] [4] (fun a σ => a = [(4, .bool g11)] ∧ σ = hp E0 [] (N0 + 26)) (fun K hK => ?_) ?_
     ·
      skip
      simp -dsimp -implicitDefEqProofs (maxDischargeDepth := 6)
      refine (c103 hr9).app ?_; try simp -dsimp -implicitDefEqProofs (maxDischargeDepth := 6)
      cases hbg10 : r9
      ·
       replace hg10 := ifF hbg10 hg10
       replace hg10 := Option.some.inj hg10; subst hg10
       try simp -dsimp -implicitDefEqProofs (maxDischargeDepth := 6) [hbg10]
       replace hg11 := ifF rfl hg11
       replace hg11 := Option.some.inj hg11; subst hg11
       try simp -dsimp -implicitDefEqProofs (maxDischargeDepth := 6) [hbg10]
       exact hK _ _ ⟨rfl, rfl⟩
      ·
       replace hg10 := ifT hbg10 hg10
       replace hg10 := Option.some.inj hg10; subst hg10
       try simp -dsimp -implicitDefEqProofs (maxDischargeDepth := 6) [hbg10]
       cases hbg11 : (ige p0.N 0)
       ·
        replace hg11 := ifF hbg11 hg11
        replace hg11 := Option.some.inj hg11; subst hg11
        try simp -dsimp -implicitDefEqProofs (maxDischargeDepth := 6) [hbg10, hbg11]
        exact hK _ _ ⟨rfl, rfl⟩
       ·
        replace hg11 := ifT hbg11 hg11
        replace hg11 := Option.some.inj hg11; subst hg11
        try simp -dsimp -implicitDefEqProofs (maxDischargeDepth := 6) [hbg10, hbg11]
        exact hK _ _ ⟨rfl, rfl⟩
     rintro a σ ⟨rfl, rfl⟩
     replace H := Option.some.inj H; subst H
     refine AWP_kp [4] [(4, .bool g11)] rfl ?_
     refine AWP_ret ?_
     exact ⟨[.bool g11], by simp, 4, by simp [encL_nil]⟩
    ·
     replace H := ifF C4 H
     refine AWP_sr tok [] [1, 2, 6, 49] (fun a σ => a = [(1, .int .i64 p1), (2, .fptr [.int .i64 p0.Op, .int .i64 p0.Dst, .int .i64 p0.A, .int .i64 p0.B, .int .i64 p0.N] 0), (6, .int .i64 p0.Op), (49, .bool (ieq p0.Op 5))] ∧ σ = hp E0 [] (N0 + 14)) (fun K hK => ?_) ?_
     ·
      skip
      simp -dsimp -implicitDefEqProofs (maxDischargeDepth := 6)
      exact hK _ _ ⟨rfl, rfl⟩
     rintro a σ ⟨rfl, rfl⟩
     refine AWP_cond (ieq p0.Op 5) rfl (fun C5 => ?_) (fun C5 => ?_)
     ·
      replace H := ifT C5 H
      obtain ⟨r12, hr12, H⟩ := bindE H
      obtain ⟨g13, hg13, H⟩ := bindE H
      obtain ⟨g14, hg14, H⟩ := bindE H
      refine AWP_sr tok [] [4] (fun a σ => a = [(4, .bool g14)] ∧ σ = hp E0 [] (N0 + 28)) (fun K hK => ?_) ?_
      ·
       skip
       simp -dsimp -implicitDefEqProofs (maxDischargeDepth := 6)
       refine (c103 hr12).app ?_; try simp -dsimp -implicitDefEqProofs (maxDischargeDepth := 6)
       cases hbg13 : r12
       ·
        replace hg13 := ifF hbg13 hg13
        replace hg13 := Option.some.inj hg13; subst hg13
        try simp -dsimp -implicitDefEqProofs (maxDischargeDepth := 6) [hbg13]
        replace hg14 := ifF rfl hg14
        replace hg14 := Option.some.inj hg14; subst hg14
        try simp -dsimp -implicitDefEqProofs (maxDischargeDepth := 6) [hbg13]
        exact hK _ _ ⟨rfl, rfl⟩
       ·
        replace hg13 := ifT hbg13 hg13
        replace hg13 := Option.some.inj hg13; subst hg13
        try simp -dsimp -implicitDefEqProofs (maxDischargeDepth := 6) [hbg13]
        cases hbg14 : (ige p0.N 0)
        ·
         replace hg14 := ifF hbg14 hg14
         replace hg14 := Option.some.inj hg14; subst hg14
         try simp -dsimp -implicitDefEqProofs (maxDischargeDepth := 6) [hbg13, hbg14]
         exact hK _ _ ⟨rfl, rfl⟩
        ·
         replace hg14 := ifT hbg14 hg14
         replace hg14 := Option.some.inj hg14; subst hg14
         try simp -dsimp -implicitDefEqProofs (maxDischargeDepth := 6) [hbg13, hbg14]
         exact hK _ _ ⟨rfl, rfl⟩
      rintro a σ ⟨rfl, rfl⟩
      replace H := Option.some.inj H; subst H
      refine AWP_kp [4] [(4, .bool g14)] rfl ?_
      refine AWP_ret ?_
      exact ⟨[.bool g14], by simp, 4, by simp [encL_nil]⟩
     ·
      replace H := ifF C5 H
      refine AWP_sr tok [] [2, 6, 64] (fun a σ => a = [(2, .fptr [.int .i64 p0.Op, .int .i64 p0.Dst, .int .i64 p0.A, .int .i64 p0.B, .int .i64 p0.N] 0), (6, .int .i64 p0.Op), (64, .bool (ieq p0.Op 6))] ∧ σ = hp E0 [] (N0 + 16)) (fun K hK => ?_) ?_
      ·
       skip
       simp -dsimp -implicitDefEqProofs (maxDischargeDepth := 6)
       exact hK _ _ ⟨rfl, rfl⟩
      rintro a σ ⟨rfl, rfl⟩
      refine AWP_cond (ieq p0.Op 6) rfl (fun C6 => ?_) (fun C6 => ?_)
      ·
       replace H := ifT C6 H
       obtain ⟨r15, hr15, H⟩ := bindE H
       obtain ⟨g17, hg17, H⟩ := bindE H
       refine AWP_sr tok [] [4] (fun a σ => a = [(4, .bool g17)] ∧ σ = hp E0 [] (N0 + 24)) (fun K hK => ?_) ?_
       ·
        skip
        simp -dsimp -implicitDefEqProofs (maxDischargeDepth := 6)
        refine (c103 hr15).app ?_; try simp -dsimp -implicitDefEqProofs (maxDischargeDepth := 6)
        cases hbg17 : r15
        ·
         replace hg17 := ifF hbg17 hg17
         replace hg17 := Option.some.inj hg17; subst hg17
         try simp -dsimp -implicitDefEqProofs (maxDischargeDepth := 6) [hbg17]
         exact hK _ _ ⟨rfl, rfl⟩
        ·
         replace hg17 := ifT hbg17 hg17
         obtain ⟨r16, hr16, hg17⟩ := bindE hg17
         replace hg17 := Option.some.inj hg17; subst hg17
         try simp -dsimp -implicitDefEqProofs (maxDischargeDepth := 6) [hbg17]
         refine (c65 hr16).app ?_; try simp -dsimp -implicitDefEqProofs (maxDischargeDepth := 6) [hbg17]
         exact hK _ _ ⟨rfl, rfl⟩
       rintro a σ ⟨rfl, rfl⟩
       replace H := Option.some.inj H; subst H
       refine AWP_kp [4] [(4, .bool g17)] rfl ?_
       refine AWP_ret ?_
       exact ⟨[.bool g17], by simp, 4, by simp [encL_nil]⟩
      ·
       replace H := ifF C6 H
       refine AWP_sr tok [] [2, 6, 73] (fun a σ => a = [(2, .fptr [.int .i64 p0.Op, .int .i64 p0.Dst, .int .i64 p0.A, .int .i64 p0.B, .int .i64 p0.N] 0), (6, .int .i64 p0.Op), (73, .bool (ieq p0.Op 7))] ∧ σ = hp E0 [] (N0 + 18)) (fun K hK => ?_) ?_
       ·
        skip
        simp -dsimp -implicitDefEqProofs (maxDischargeDepth := 6)
        exact hK _ _ ⟨rfl, rfl⟩
       rintro a σ ⟨rfl, rfl⟩
       refine AWP_cond (ieq p0.Op 7) rfl (fun C7 => ?_) (fun C7 => ?_)
       ·
        replace H := ifT C7 H
        obtain ⟨r18, hr18, H⟩ := bindE H
        obtain ⟨g20, hg20, H⟩ := bindE H
        refine AWP_sr tok [] [4] (fun a σ => a = [(4, .bool g20)] ∧ σ = hp E0 [] (N0 + 26)) (fun K hK => ?_) ?_
        ·
         skip
         simp -dsimp -implicitDefEqProofs (maxDischargeDepth := 6)
         refine (c103 hr18).app ?_; try simp -dsimp -implicitDefEqProofs (maxDischargeDepth := 6)
         cases hbg20 : r18
         ·
          replace hg20 := ifF hbg20 hg20
          replace hg20 := Option.some.inj hg20; subst hg20
          try simp -dsimp -implicitDefEqProofs (maxDischargeDepth := 6) [hbg20]
          exact hK _ _ ⟨rfl, rfl⟩
         ·
          replace hg20 := ifT hbg20 hg20
          obtain ⟨r19, hr19, hg20⟩ := bindE hg20
          replace hg20 := Option.some.inj hg20; subst hg20
          try simp -dsimp -implicitDefEqProofs (maxDischargeDepth := 6) [hbg20]
          refine (c65 hr19).app ?_; try simp -dsimp -implicitDefEqProofs (maxDischargeDepth := 6) [hbg20]
          exact hK _ _ ⟨rfl, rfl⟩
        rintro a σ ⟨rfl, rfl⟩
        replace H := Option.some.inj H; subst H
        refine AWP_kp [4] [(4, .bool g20)] rfl ?_
        refine AWP_ret ?_
        exact ⟨[.bool g20], by simp, 4, by simp [encL_nil]⟩
       ·
        replace H := ifF C7 H
        refine AWP_sr tok [] [2, 6, 82] (fun a σ => a = [(2, .fptr [.int .i64 p0.Op, .int .i64 p0.Dst, .int .i64 p0.A, .int .i64 p0.B, .int .i64 p0.N] 0), (6, .int .i64 p0.Op), (82, .bool (ieq p0.Op 9))] ∧ σ = hp E0 [] (N0 + 20)) (fun K hK => ?_) ?_
        ·
         skip
         simp -dsimp -implicitDefEqProofs (maxDischargeDepth := 6)
         exact hK _ _ ⟨rfl, rfl⟩
        rintro a σ ⟨rfl, rfl⟩
        refine AWP_cond (ieq p0.Op 9) rfl (fun C8 => ?_) (fun C8 => ?_)
        ·
         replace H := ifT C8 H
         obtain ⟨r21, hr21, H⟩ := bindE H
         obtain ⟨g22, hg22, H⟩ := bindE H
         refine AWP_sr tok [] [4] (fun a σ => a = [(4, .bool g22)] ∧ σ = hp E0 [] (N0 + 28)) (fun K hK => ?_) ?_
         ·
          skip
          simp -dsimp -implicitDefEqProofs (maxDischargeDepth := 6)
          refine (c103 hr21).app ?_; try simp -dsimp -implicitDefEqProofs (maxDischargeDepth := 6)
          cases hbg22 : r21
          ·
           replace hg22 := ifF hbg22 hg22
           replace hg22 := Option.some.inj hg22; subst hg22
           try simp -dsimp -implicitDefEqProofs (maxDischargeDepth := 6) [hbg22]
           exact hK _ _ ⟨rfl, rfl⟩
          ·
           replace hg22 := ifT hbg22 hg22
           replace hg22 := Option.some.inj hg22; subst hg22
           try simp -dsimp -implicitDefEqProofs (maxDischargeDepth := 6) [hbg22]
           exact hK _ _ ⟨rfl, rfl⟩
         rintro a σ ⟨rfl, rfl⟩
         replace H := Option.some.inj H; subst H
         refine AWP_kp [4] [(4, .bool g22)] rfl ?_
         refine AWP_ret ?_
         exact ⟨[.bool g22], by simp, 4, by simp [encL_nil]⟩
        ·
         replace H := ifF C8 H
         obtain ⟨j1, hj1, H⟩ := bindE H
         refine AWP_seq (AWP_named fun K2 hK2 => ?_)
         have hJ1 : ∀ a σ, Rc G 101 N0 (fun a σ => ∃ M1 : Nat, N0 ≤ M1 ∧ a = [(2, .fptr [.int .i64 p0.Op, .int .i64 p0.Dst, .int .i64 p0.A, .int .i64 p0.B, .int .i64 p0.N] 0), (91, .bool j1)] ∧ σ = hp E0 [] M1) (a.keep [2, 91]) σ → K2 a σ := by
          rintro a σ ⟨b, τ, hr, M1, fM1_0, rfl, rfl⟩
          refine hK2 _ _ (AWP_keep [2, 91] (AWP_ref hr ?_))
          refine AWP_cond j1 rfl (fun C9 => ?_) (fun C9 => ?_)
          ·
           replace H := ifT C9 H
           obtain ⟨r24, hr24, H⟩ := bindE H
           obtain ⟨g25, hg25, H⟩ := bindE H
           refine AWP_sr tok [] [4] (fun a σ => a = [(4, .bool g25)] ∧ σ = hp E0 [] (M1 + 8)) (fun K hK => ?_) ?_
           ·
            skip
            simp -dsimp -implicitDefEqProofs (maxDischargeDepth := 6)
            refine (c103 hr24).app ?_; try simp -dsimp -implicitDefEqProofs (maxDischargeDepth := 6)
            cases hbg25 : r24
            ·
             replace hg25 := ifF hbg25 hg25
             replace hg25 := Option.some.inj hg25; subst hg25
             try simp -dsimp -implicitDefEqProofs (maxDischargeDepth := 6) [hbg25]
             exact hK _ _ ⟨rfl, rfl⟩
            ·
             replace hg25 := ifT hbg25 hg25
             replace hg25 := Option.some.inj hg25; subst hg25
             try simp -dsimp -implicitDefEqProofs (maxDischargeDepth := 6) [hbg25]
             exact hK _ _ ⟨rfl, rfl⟩
           rintro a σ ⟨rfl, rfl⟩
           replace H := Option.some.inj H; subst H
           refine AWP_kp [4] [(4, .bool g25)] rfl ?_
           refine AWP_ret ?_
           exact ⟨[.bool g25], by simp, 4, by simp [encL_nil]⟩
          ·
           replace H := ifF C9 H
           refine AWP_skip ?_
           show K1 _ _
           refine keepE (l := []) (x := []) rfl fun a' ha => ?_
           refine hK1 _ _ ?_; rw [ha]
           refine Rc.mk ?_
           refine AWP_sr tok [] [4] (fun a σ => a = [(4, .bool false)] ∧ σ = hp E0 [] (M1 + 1)) (fun K hK => ?_) ?_
           ·
            skip
            simp -dsimp -implicitDefEqProofs (maxDischargeDepth := 6)
            exact hK _ _ ⟨rfl, rfl⟩
           rintro a σ ⟨rfl, rfl⟩
           replace H := Option.some.inj H; subst H
           refine AWP_kp [4] [(4, .bool false)] rfl ?_
           refine AWP_ret ?_
           exact ⟨[.bool false], by simp, 4, by simp [encL_nil]⟩
         replace H := hj1
         refine AWP_sr tok [] [2, 6, 91] (fun a σ => a = [(2, .fptr [.int .i64 p0.Op, .int .i64 p0.Dst, .int .i64 p0.A, .int .i64 p0.B, .int .i64 p0.N] 0), (6, .int .i64 p0.Op), (91, .bool (ieq p0.Op 8))] ∧ σ = hp E0 [] (N0 + 22)) (fun K hK => ?_) ?_
         ·
          skip
          simp -dsimp -implicitDefEqProofs (maxDischargeDepth := 6)
          exact hK _ _ ⟨rfl, rfl⟩
         rintro a σ ⟨rfl, rfl⟩
         refine AWP_cond (ieq p0.Op 8) rfl (fun C10 => ?_) (fun C10 => ?_)
         ·
          replace H := ifT C10 H
          refine AWP_skip ?_
          show K2 _ _
          refine keepE (l := [2, 91]) (x := [(2, .fptr [.int .i64 p0.Op, .int .i64 p0.Dst, .int .i64 p0.A, .int .i64 p0.B, .int .i64 p0.N] 0), (91, .bool (ieq p0.Op 8))]) rfl fun a' ha => ?_
          replace H := Option.some.inj H; subst H
          refine hJ1 _ _ ?_; rw [ha]
          exact Rc.fin (AHeap.Sub.refl _) ⟨N0 + 22, (by omega), rfl, rfl⟩
         ·
          replace H := ifF C10 H
          refine AWP_rt tok [] [2, 91] (fun a σ => a = [(2, .fptr [.int .i64 p0.Op, .int .i64 p0.Dst, .int .i64 p0.A, .int .i64 p0.B, .int .i64 p0.N] 0), (91, .bool (ieq p0.Op 10))] ∧ σ = hp E0 [] (N0 + 24)) (fun K hK => ?_) ?_
          ·
           skip
           simp -dsimp -implicitDefEqProofs (maxDischargeDepth := 6)
           exact hK _ _ ⟨rfl, rfl⟩
          rintro a σ ⟨ha, rfl⟩
          replace H := Option.some.inj H; subst H
          refine hJ1 _ _ ?_; rw [ha]
          exact Rc.fin (AHeap.Sub.refl _) ⟨N0 + 24, (by omega), rfl, rfl⟩
theorem c105 {p0 : Int} {p1 : Int} {p2 : Int} {r : Int} (H : s_l43Reg p0 p1 p2 = some r) : APure Tryd.prog G 105 [.int .i64 p0, .int .i64 p1, .int .i64 p2] (.int .i64 r) := by
 refine APure_fn (fun N0 => ?_) (by simp)
 refine ACalls_fn tok Tryd.func105 (by kernel_rfl) rfl Tryd.ntmps105 Tryd.results105 rfl ?_
 simp only [argsA, Nat.reduceAdd, hp_next]
 unfold s_l43Reg at H
 refine AWP_sr tok [] [0, 1, 2] (fun a σ => a = [(0, .int .i64 p0), (1, .int .i64 p1), (2, .int .i64 p2)] ∧ σ = hp E0 [] (N0 + 1)) (fun K hK => ?_) ?_
 ·
  skip
  simp -dsimp -implicitDefEqProofs (maxDischargeDepth := 6)
  exact hK _ _ ⟨rfl, rfl⟩
 rintro a σ ⟨rfl, rfl⟩
 refine AWP_sq [0] fun K1 hK1 => ?_
 refine AWP_sr tok [] [0, 2, 9] (fun a σ => a = [(0, .int .i64 p0), (2, .int .i64 p2), (9, .bool (ige p0 p1))] ∧ σ = hp E0 [] (N0 + 4)) (fun K hK => ?_) ?_
 ·
  skip
  simp -dsimp -implicitDefEqProofs (maxDischargeDepth := 6)
  exact hK _ _ ⟨rfl, rfl⟩
 rintro a σ ⟨rfl, rfl⟩
 refine AWP_cond (ige p0 p1) rfl (fun C1 => ?_) (fun C1 => ?_)
 ·
  replace H := ifT C1 H
  refine AWP_sr tok [] [6] (fun a σ => a = [(6, .int .i64 p2)] ∧ σ = hp E0 [] (N0 + 6)) (fun K hK => ?_) ?_
  ·
   skip
   simp -dsimp -implicitDefEqProofs (maxDischargeDepth := 6)
   exact hK _ _ ⟨rfl, rfl⟩
  rintro a σ ⟨rfl, rfl⟩
  replace H := Option.some.inj H; subst H
  refine AWP_kp [6] [(6, .int .i64 p2)] rfl ?_
  refine AWP_ret ?_
  exact ⟨[.int .i64 p2], by simp, 4, by simp [encL_nil]⟩
 ·
  replace H := ifF C1 H
  refine AWP_skip ?_
  show K1 _ _
  refine keepE (l := [0]) (x := [(0, .int .i64 p0)]) rfl fun a' ha => ?_
  refine hK1 _ _ ?_; rw [ha]
  refine Rc.mk ?_
  obtain ⟨v1, hv1, H⟩ := bindE H
  have q0 : ∀ σ i, buildSliceA T 24 true i 8 [(0, .int .i64 8), (1, .int .i64 9), (2, .int .i64 18), (3, .int .i64 19), (4, .int .i64 20), (5, .int .i64 21), (6, .int .i64 22), (7, .int .i64 23)] σ = some (.fsl (encL rI ([8, 9, 18, 19, 20, 21, 22, 23] : List Int)), σ) := fun _ _ => rfl
  refine AWP_sr tok [0] [6] (fun a σ => a = [(6, .int .i64 v1)] ∧ σ = hp E0 [] (N0 + 9)) (fun K hK => ?_) ?_
  ·
   skip
   simp -dsimp -implicitDefEqProofs (maxDischargeDepth := 6) [q0, ix24 hv1]
   exact hK _ _ ⟨rfl, rfl⟩
  rintro a σ ⟨rfl, rfl⟩
  replace H := Option.some.inj H; subst H
  refine AWP_kp [6] [(6, .int .i64 v1)] rfl ?_
  refine AWP_ret ?_
  exact ⟨[.int .i64 v1], by simp, 4, by simp [encL_nil]⟩
theorem c131 {p0 : Int} {r : Int} (H : s_Unsigned p0 = some r) : APure Tryd.prog G 131 [.int .i64 p0] (.int .i64 r) := by
 refine APure_fn (fun N0 => ?_) (by simp)
 refine ACalls_fn tok Tryd.func131 (by kernel_rfl) rfl Tryd.ntmps131 Tryd.results131 rfl ?_
 simp only [argsA, Nat.reduceAdd, hp_next]
 unfold s_Unsigned at H
 refine AWP_sr tok [] [0] (fun a σ => a = [(0, .int .i64 p0)] ∧ σ = hp E0 [] (N0 + 1)) (fun K hK => ?_) ?_
 ·
  skip
  simp -dsimp -implicitDefEqProofs (maxDischargeDepth := 6)
  exact hK _ _ ⟨rfl, rfl⟩
 rintro a σ ⟨rfl, rfl⟩
 refine AWP_sq [0] fun K1 hK1 => ?_
 obtain ⟨r1, hr1, H⟩ := bindE H
 refine AWP_sr tok [] [0, 5] (fun a σ => a = [(0, .int .i64 p0), (5, .bool (bnot r1))] ∧ σ = hp E0 [] (N0 + 4)) (fun K hK => ?_) ?_
 ·
  skip
  simp -dsimp -implicitDefEqProofs (maxDischargeDepth := 6)
  refine (c75 hr1).app ?_; try simp -dsimp -implicitDefEqProofs (maxDischargeDepth := 6)
  exact hK _ _ ⟨rfl, rfl⟩
 rintro a σ ⟨rfl, rfl⟩
 refine AWP_cond (bnot r1) rfl (fun C1 => ?_) (fun C1 => ?_)
 ·
  replace H := ifT C1 H
  refine AWP_sr tok [] [2] (fun a σ => a = [(2, .int .i64 (-1))] ∧ σ = hp E0 [] (N0 + 5)) (fun K hK => ?_) ?_
  ·
   skip
   simp -dsimp -implicitDefEqProofs (maxDischargeDepth := 6)
   exact hK _ _ ⟨rfl, rfl⟩
  rintro a σ ⟨rfl, rfl⟩
  replace H := Option.some.inj H; subst H
  refine AWP_kp [2] [(2, .int .i64 (-1))] rfl ?_
  refine AWP_ret ?_
  exact ⟨[.int .i64 (-1)], by simp, 4, by simp [encL_nil]⟩
 ·
  replace H := ifF C1 H
  refine AWP_skip ?_
  show K1 _ _
  refine keepE (l := [0]) (x := [(0, .int .i64 p0)]) rfl fun a' ha => ?_
  refine hK1 _ _ ?_; rw [ha]
  refine Rc.mk ?_
  refine AWP_sq [0] fun K2 hK2 => ?_
  refine AWP_sr tok [] [0, 7] (fun a σ => a = [(0, .int .i64 p0), (7, .bool (ilt p0 0))] ∧ σ = hp E0 [] (N0 + 6)) (fun K hK => ?_) ?_
  ·
   skip
   simp -dsimp -implicitDefEqProofs (maxDischargeDepth := 6)
   exact hK _ _ ⟨rfl, rfl⟩
  rintro a σ ⟨rfl, rfl⟩
  refine AWP_cond (ilt p0 0) rfl (fun C2 => ?_) (fun C2 => ?_)
  ·
   replace H := ifT C2 H
   refine AWP_sr tok [] [2] (fun a σ => a = [(2, .int .i64 (iadd .i64 p0 4294967296))] ∧ σ = hp E0 [] (N0 + 9)) (fun K hK => ?_) ?_
   ·
    skip
    simp -dsimp -implicitDefEqProofs (maxDischargeDepth := 6)
    exact hK _ _ ⟨rfl, rfl⟩
   rintro a σ ⟨rfl, rfl⟩
   replace H := Option.some.inj H; subst H
   refine AWP_kp [2] [(2, .int .i64 (iadd .i64 p0 4294967296))] rfl ?_
   refine AWP_ret ?_
   exact ⟨[.int .i64 (iadd .i64 p0 4294967296)], by simp, 4, by simp [encL_nil]⟩
  ·
   replace H := ifF C2 H
   refine AWP_skip ?_
   show K2 _ _
   refine keepE (l := [0]) (x := [(0, .int .i64 p0)]) rfl fun a' ha => ?_
   refine hK2 _ _ ?_; rw [ha]
   refine Rc.mk ?_
   refine AWP_sr tok [] [2] (fun a σ => a = [(2, .int .i64 p0)] ∧ σ = hp E0 [] (N0 + 8)) (fun K hK => ?_) ?_
   ·
    skip
    simp -dsimp -implicitDefEqProofs (maxDischargeDepth := 6)
    exact hK _ _ ⟨rfl, rfl⟩
   rintro a σ ⟨rfl, rfl⟩
   replace H := Option.some.inj H; subst H
   refine AWP_kp [2] [(2, .int .i64 p0)] rfl ?_
   refine AWP_ret ?_
   exact ⟨[.int .i64 p0], by simp, 4, by simp [encL_nil]⟩
theorem c147 {p0 : Int} {r : Int} (H : s_l1Power p0 = some r) : APure Tryd.prog G 147 [.int .i64 p0] (.int .i64 r) := by
 refine APure_fn (fun N0 => ?_) (by simp)
 refine ACalls_fn tok Tryd.func147 (by kernel_rfl) rfl Tryd.ntmps147 Tryd.results147 rfl ?_
 simp only [argsA, Nat.reduceAdd, hp_next]
 unfold s_l1Power at H
 refine AWP_sr tok [] [0] (fun a σ => a = [(0, .int .i64 p0)] ∧ σ = hp E0 [] (N0 + 1)) (fun K hK => ?_) ?_
 ·
  skip
  simp -dsimp -implicitDefEqProofs (maxDischargeDepth := 6)
  exact hK _ _ ⟨rfl, rfl⟩
 rintro a σ ⟨rfl, rfl⟩
 refine AWP_sr tok [] [0, 3] (fun a σ => a = [(0, .int .i64 p0), (3, .int .i64 1)] ∧ σ = hp E0 [] (N0 + 2)) (fun K hK => ?_) ?_
 ·
  skip
  simp -dsimp -implicitDefEqProofs (maxDischargeDepth := 6)
  exact hK _ _ ⟨rfl, rfl⟩
 rintro a σ ⟨rfl, rfl⟩
 refine AWP_sq [3] fun K1 hK1 => ?_
 refine AWP_sr tok [] [0, 3, 4] (fun a σ => a = [(0, .int .i64 p0), (3, .int .i64 1), (4, .int .i64 0)] ∧ σ = hp E0 [] (N0 + 3)) (fun K hK => ?_) ?_
 ·
  skip
  simp -dsimp -implicitDefEqProofs (maxDischargeDepth := 6)
  exact hK _ _ ⟨rfl, rfl⟩
 rintro a σ ⟨rfl, rfl⟩
 refine AWP_block (AWP_thenB ?_)
 obtain ⟨e1, hse1, H⟩ := bindE H
 refine AWP_lp [0, 3, 4] (fun s a σ => ∃ M1 : Nat, N0 ≤ M1 ∧ a = [(0, .int .i64 p0), (3, .int .i64 s.1), (4, .int .i64 s.2)] ∧ σ = hp E0 [] M1) (fun s x a σ => x = .exit 0 ∧ Rc G 13 N0 (fun a σ => ∃ M2 : Nat, N0 ≤ M2 ∧ a = [(3, .int .i64 s)] ∧ σ = hp E0 [] M2) (AAct.keep a [3]) σ) hse1 ?_ ?_ ?_
 ·
  refine Rc.kp [0, 3, 4] [(0, .int .i64 p0), (3, .int .i64 1), (4, .int .i64 0)] rfl ?_
  exact Rc.fin (AHeap.Sub.refl _) ⟨N0 + 3, (by omega), rfl, rfl⟩
 ·
  clear H hse1
  rintro ⟨s1, s2⟩ fl a σ H ⟨M1, fM1_0, rfl, rfl⟩ K2 O2 hK2 hO2
  unfold s_l1Power_L1 at H; dsimp only at H
  refine AWP_sq [0, 3, 4] fun K3 hK3 => ?_
  refine AWP_sr tok [] [0, 3, 4, 7] (fun a σ => a = [(0, .int .i64 p0), (3, .int .i64 s1), (4, .int .i64 s2), (7, .bool (ilt s2 p0))] ∧ σ = hp E0 [] (M1 + 3)) (fun K hK => ?_) ?_
  ·
   skip
   simp -dsimp -implicitDefEqProofs (maxDischargeDepth := 6)
   exact hK _ _ ⟨rfl, rfl⟩
  rintro a σ ⟨rfl, rfl⟩
  refine AWP_cond (ilt s2 p0) rfl (fun C1 => ?_) (fun C1 => ?_)
  ·
   replace H := ifT C1 H
   refine AWP_skip ?_
   show K3 _ _
   refine keepE (l := [0, 3, 4]) (x := [(0, .int .i64 p0), (3, .int .i64 s1), (4, .int .i64 s2)]) rfl fun a' ha => ?_
   refine hK3 _ _ ?_; rw [ha]
   refine Rc.mk ?_
   refine AWP_sq [0, 3, 4] fun K4 hK4 => ?_
   refine AWP_block (AWP_thenB ?_)
   refine AWP_rt tok [] [0, 3, 4] (fun a σ => a = [(0, .int .i64 p0), (3, .int .i64 (imul .i64 s1 2)), (4, .int .i64 s2)] ∧ σ = hp E0 [] (M1 + 6)) (fun K hK => ?_) ?_
   ·
    skip
    simp -dsimp -implicitDefEqProofs (maxDischargeDepth := 6)
    exact hK _ _ ⟨rfl, rfl⟩
   rintro a σ ⟨ha, rfl⟩
   refine hK4 _ _ ?_; rw [ha]
   refine Rc.mk ?_
   refine AWP_rt tok [] [0, 3, 4] (fun a σ => a = [(0, .int .i64 p0), (3, .int .i64 (imul .i64 s1 2)), (4, .int .i64 (iadd .i64 s2 1))] ∧ σ = hp E0 [] (M1 + 9)) (fun K hK => ?_) ?_
   ·
    skip
    simp -dsimp -implicitDefEqProofs (maxDischargeDepth := 6)
    exact hK _ _ ⟨rfl, rfl⟩
   rintro a σ ⟨ha, rfl⟩
   replace H := Option.some.inj H; subst H
   refine hK2 _ _ _ rfl ?_; rw [ha]
   exact Rc.fin (AHeap.Sub.refl _) ⟨M1 + 9, (by omega), rfl, rfl⟩
  ·
   replace H := ifF C1 H
   replace H := Option.some.inj H; subst H
   refine AWP_exit (hO2 _ _ _ _ rfl ⟨rfl, ?_⟩)
   refine Rc.rw (l := [3]) (X := [(3, .int .i64 s1)]) rfl ?_
   exact Rc.fin (AHeap.Sub.refl _) ⟨M1 + 3, (by omega), rfl, rfl⟩
 ·
  intro x a σ hx
  obtain ⟨y3, rfl⟩ : ∃ x, x = e1 := ⟨_, rfl⟩
  obtain ⟨rfl, b, τ, hr, M2, fM2_0, rfl, rfl⟩ := hx
  dsimp only at H
  show K1 _ _
  refine hK1 _ _ (Rc_ref hr ?_)
  refine Rc.mk ?_
  refine AWP_sr tok [] [2] (fun a σ => a = [(2, .int .i64 y3)] ∧ σ = hp E0 [] (M2 + 2)) (fun K hK => ?_) ?_
  ·
   skip
   simp -dsimp -implicitDefEqProofs (maxDischargeDepth := 6)
   exact hK _ _ ⟨rfl, rfl⟩
  rintro a σ ⟨rfl, rfl⟩
  replace H := Option.some.inj H; subst H
  refine AWP_kp [2] [(2, .int .i64 y3)] rfl ?_
  refine AWP_ret ?_
  exact ⟨[.int .i64 y3], by simp, 4, by simp [encL_nil]⟩
theorem c130 {p0 : Int} {p1 : Int} {p2 : Int} {r : Int} (H : s_Bits p0 p1 p2 = some r) : APure Tryd.prog G 130 [.int .i64 p0, .int .i64 p1, .int .i64 p2] (.int .i64 r) := by
 refine APure_fn (fun N0 => ?_) (by simp)
 refine ACalls_fn tok Tryd.func130 (by kernel_rfl) rfl Tryd.ntmps130 Tryd.results130 rfl ?_
 simp only [argsA, Nat.reduceAdd, hp_next]
 unfold s_Bits at H
 refine AWP_sr tok [] [0, 1, 2] (fun a σ => a = [(0, .int .i64 p0), (1, .int .i64 p1), (2, .int .i64 p2)] ∧ σ = hp E0 [] (N0 + 1)) (fun K hK => ?_) ?_
 ·
  skip
  simp -dsimp -implicitDefEqProofs (maxDischargeDepth := 6)
  exact hK _ _ ⟨rfl, rfl⟩
 rintro a σ ⟨rfl, rfl⟩
 refine AWP_sq [0, 1, 2] fun K1 hK1 => ?_
 obtain ⟨r1, hr1, H⟩ := bindE H
 obtain ⟨g3, hg3, H⟩ := bindE H
 obtain ⟨g5, hg5, H⟩ := bindE H
 refine AWP_sr tok [] [0, 1, 2, 21] (fun a σ => a = [(0, .int .i64 p0), (1, .int .i64 p1), (2, .int .i64 p2), (21, .bool g5)] ∧ σ = hp E0 [] (N0 + 16)) (fun K hK => ?_) ?_
 ·
  skip
  simp -dsimp -implicitDefEqProofs (maxDischargeDepth := 6)
  refine (c65 hr1).app ?_; try simp -dsimp -implicitDefEqProofs (maxDischargeDepth := 6)
  cases hbg3 : bnot r1
  ·
   replace hg3 := ifF hbg3 hg3
   obtain ⟨r2, hr2, hg3⟩ := bindE hg3
   replace hg3 := Option.some.inj hg3; subst hg3
   try simp -dsimp -implicitDefEqProofs (maxDischargeDepth := 6) [hbg3]
   refine (c65 hr2).app ?_; try simp -dsimp -implicitDefEqProofs (maxDischargeDepth := 6) [hbg3]
   cases hbg5 : (bnot r2)
   ·
    replace hg5 := ifF hbg5 hg5
    obtain ⟨r4, hr4, hg5⟩ := bindE hg5
    replace hg5 := Option.some.inj hg5; subst hg5
    try simp -dsimp -implicitDefEqProofs (maxDischargeDepth := 6) [hbg3, hbg5]
    refine (c65 hr4).app ?_; try simp -dsimp -implicitDefEqProofs (maxDischargeDepth := 6) [hbg3, hbg5]
    exact hK _ _ ⟨rfl, rfl⟩
   ·
    replace hg5 := ifT hbg5 hg5
    replace hg5 := Option.some.inj hg5; subst hg5
    try simp -dsimp -implicitDefEqProofs (maxDischargeDepth := 6) [hbg3, hbg5]
    exact hK _ _ ⟨rfl, rfl⟩
  ·
   replace hg3 := ifT hbg3 hg3
   replace hg3 := Option.some.inj hg3; subst hg3
   try simp -dsimp -implicitDefEqProofs (maxDischargeDepth := 6) [hbg3]
   replace hg5 := ifT rfl hg5
   replace hg5 := Option.some.inj hg5; subst hg5
   try simp -dsimp -implicitDefEqProofs (maxDischargeDepth := 6) [hbg3]
   exact hK _ _ ⟨rfl, rfl⟩
 rintro a σ ⟨rfl, rfl⟩
 refine AWP_cond g5 rfl (fun C1 => ?_) (fun C1 => ?_)
 ·
  replace H := ifT C1 H
  refine AWP_sr tok [] [6] (fun a σ => a = [(6, .int .i64 0)] ∧ σ = hp E0 [] (N0 + 17)) (fun K hK => ?_) ?_
  ·
   skip
   simp -dsimp -implicitDefEqProofs (maxDischargeDepth := 6)
   exact hK _ _ ⟨rfl, rfl⟩
  rintro a σ ⟨rfl, rfl⟩
  replace H := Option.some.inj H; subst H
  refine AWP_kp [6] [(6, .int .i64 0)] rfl ?_
  refine AWP_ret ?_
  exact ⟨[.int .i64 0], by simp, 4, by simp [encL_nil]⟩
 ·
  replace H := ifF C1 H
  refine AWP_skip ?_
  show K1 _ _
  refine keepE (l := [0, 1, 2]) (x := [(0, .int .i64 p0), (1, .int .i64 p1), (2, .int .i64 p2)]) rfl fun a' ha => ?_
  refine hK1 _ _ ?_; rw [ha]
  refine Rc.mk ?_
  obtain ⟨r6, hr6, H⟩ := bindE H
  obtain ⟨v7, hv7, H⟩ := bindE H
  obtain ⟨r8, hr8, H⟩ := bindE H
  obtain ⟨v9, hv9, H⟩ := bindE H
  refine AWP_sd tok tokM [] [] [0, 1, 2, 3, 4, 5, 6, 7] [6] (fun a σ => a = [(6, .int .i64 v9)] ∧ σ = hp E0 [] (N0 + 24)) (by decide) (fun K hK => ?_) ?_
  ·
   simp only [pickL, nthO_succ, nthO_zero]
   simp -dsimp -implicitDefEqProofs (maxDischargeDepth := 6) [hv7, hv9]
   refine Pc.mk (c147 hr6) ?_; try simp -dsimp -implicitDefEqProofs (maxDischargeDepth := 6) [hv7, hv9]
   refine Pc.mk (c147 hr8) ?_; try simp -dsimp -implicitDefEqProofs (maxDischargeDepth := 6) [hv7, hv9]
   exact hK _ _ ⟨rfl, rfl⟩
  rintro a σ ⟨rfl, rfl⟩
  replace H := Option.some.inj H; subst H
  refine AWP_kp [6] [(6, .int .i64 v9)] rfl ?_
  refine AWP_ret ?_
  exact ⟨[.int .i64 v9], by simp, 4, by simp [encL_nil]⟩
theorem c129 {p0 : Int} {p1 : Int} {r : Int} (H : s_SignExtend p0 p1 = some r) : APure Tryd.prog G 129 [.int .i64 p0, .int .i64 p1] (.int .i64 r) := by
 refine APure_fn (fun N0 => ?_) (by simp)
 refine ACalls_fn tok Tryd.func129 (by kernel_rfl) rfl Tryd.ntmps129 Tryd.results129 rfl ?_
 simp only [argsA, Nat.reduceAdd, hp_next]
 unfold s_SignExtend at H
 refine AWP_sr tok [] [0, 1] (fun a σ => a = [(0, .int .i64 p0), (1, .int .i64 p1)] ∧ σ = hp E0 [] (N0 + 1)) (fun K hK => ?_) ?_
 ·
  skip
  simp -dsimp -implicitDefEqProofs (maxDischargeDepth := 6)
  exact hK _ _ ⟨rfl, rfl⟩
 rintro a σ ⟨rfl, rfl⟩
 refine AWP_sq [0, 1] fun K1 hK1 => ?_
 obtain ⟨r1, hr1, H⟩ := bindE H
 obtain ⟨g4, hg4, H⟩ := bindE H
 refine AWP_sr tok [] [0, 1, 15] (fun a σ => a = [(0, .int .i64 p0), (1, .int .i64 p1), (15, .bool g4)] ∧ σ = hp E0 [] (N0 + 12)) (fun K hK => ?_) ?_
 ·
  skip
  simp -dsimp -implicitDefEqProofs (maxDischargeDepth := 6)
  refine (c65 hr1).app ?_; try simp -dsimp -implicitDefEqProofs (maxDischargeDepth := 6)
  cases hbg4 : bnot r1
  ·
   replace hg4 := ifF hbg4 hg4
   obtain ⟨r2, hr2, hg4⟩ := bindE hg4
   obtain ⟨r3, hr3, hg4⟩ := bindE hg4
   replace hg4 := Option.some.inj hg4; subst hg4
   try simp -dsimp -implicitDefEqProofs (maxDischargeDepth := 6) [hbg4]
   refine (c147 hr2).app ?_; try simp -dsimp -implicitDefEqProofs (maxDischargeDepth := 6) [hbg4]
   refine (c65 hr3).app ?_; try simp -dsimp -implicitDefEqProofs (maxDischargeDepth := 6) [hbg4]
   exact hK _ _ ⟨rfl, rfl⟩
  ·
   replace hg4 := ifT hbg4 hg4
   replace hg4 := Option.some.inj hg4; subst hg4
   try simp -dsimp -implicitDefEqProofs (maxDischargeDepth := 6) [hbg4]
   exact hK _ _ ⟨rfl, rfl⟩
 rintro a σ ⟨rfl, rfl⟩
 refine AWP_cond g4 rfl (fun C1 => ?_) (fun C1 => ?_)
 ·
  replace H := ifT C1 H
  refine AWP_sr tok [] [4] (fun a σ => a = [(4, .int .i64 0)] ∧ σ = hp E0 [] (N0 + 13)) (fun K hK => ?_) ?_
  ·
   skip
   simp -dsimp -implicitDefEqProofs (maxDischargeDepth := 6)
   exact hK _ _ ⟨rfl, rfl⟩
  rintro a σ ⟨rfl, rfl⟩
  replace H := Option.some.inj H; subst H
  refine AWP_kp [4] [(4, .int .i64 0)] rfl ?_
  refine AWP_ret ?_
  exact ⟨[.int .i64 0], by simp, 4, by simp [encL_nil]⟩
 ·
  replace H := ifF C1 H
  refine AWP_skip ?_
  show K1 _ _
  refine keepE (l := [0, 1]) (x := [(0, .int .i64 p0), (1, .int .i64 p1)]) rfl fun a' ha => ?_
  refine hK1 _ _ ?_; rw [ha]
  refine Rc.mk ?_
  refine AWP_sq [0] fun K2 hK2 => ?_
  obtain ⟨r5, hr5, H⟩ := bindE H
  refine AWP_sr tok [] [0, 1, 20] (fun a σ => a = [(0, .int .i64 p0), (1, .int .i64 p1), (20, .bool (ige p0 r5))] ∧ σ = hp E0 [] (N0 + 17)) (fun K hK => ?_) ?_
  ·
   skip
   simp -dsimp -implicitDefEqProofs (maxDischargeDepth := 6)
   refine (c147 hr5).app ?_; try simp -dsimp -implicitDefEqProofs (maxDischargeDepth := 6)
   exact hK _ _ ⟨rfl, rfl⟩
  rintro a σ ⟨rfl, rfl⟩
  refine AWP_cond (ige p0 r5) rfl (fun C2 => ?_) (fun C2 => ?_)
  ·
   replace H := ifT C2 H
   obtain ⟨r6, hr6, H⟩ := bindE H
   refine AWP_sr tok [] [4] (fun a σ => a = [(4, .int .i64 (isub .i64 p0 r6))] ∧ σ = hp E0 [] (N0 + 22)) (fun K hK => ?_) ?_
   ·
    skip
    simp -dsimp -implicitDefEqProofs (maxDischargeDepth := 6)
    refine (c147 hr6).app ?_; try simp -dsimp -implicitDefEqProofs (maxDischargeDepth := 6)
    exact hK _ _ ⟨rfl, rfl⟩
   rintro a σ ⟨rfl, rfl⟩
   replace H := Option.some.inj H; subst H
   refine AWP_kp [4] [(4, .int .i64 (isub .i64 p0 r6))] rfl ?_
   refine AWP_ret ?_
   exact ⟨[.int .i64 (isub .i64 p0 r6)], by simp, 4, by simp [encL_nil]⟩
  ·
   replace H := ifF C2 H
   refine AWP_skip ?_
   show K2 _ _
   refine keepE (l := [0]) (x := [(0, .int .i64 p0)]) rfl fun a' ha => ?_
   refine hK2 _ _ ?_; rw [ha]
   refine Rc.mk ?_
   refine AWP_sr tok [] [4] (fun a σ => a = [(4, .int .i64 p0)] ∧ σ = hp E0 [] (N0 + 19)) (fun K hK => ?_) ?_
   ·
    skip
    simp -dsimp -implicitDefEqProofs (maxDischargeDepth := 6)
    exact hK _ _ ⟨rfl, rfl⟩
   rintro a σ ⟨rfl, rfl⟩
   replace H := Option.some.inj H; subst H
   refine AWP_kp [4] [(4, .int .i64 p0)] rfl ?_
   refine AWP_ret ?_
   exact ⟨[.int .i64 p0], by simp, 4, by simp [encL_nil]⟩
theorem c102 {p0 : Int} {r : Int} (H : s_Wrap p0 = some r) : APure Tryd.prog G 102 [.int .i64 p0] (.int .i64 r) := by
 refine APure_fn (fun N0 => ?_) (by simp)
 refine ACalls_fn tok Tryd.func102 (by kernel_rfl) rfl Tryd.ntmps102 Tryd.results102 rfl ?_
 simp only [argsA, Nat.reduceAdd, hp_next]
 unfold s_Wrap at H
 refine AWP_sr tok [] [0] (fun a σ => a = [(0, .int .i64 p0)] ∧ σ = hp E0 [] (N0 + 1)) (fun K hK => ?_) ?_
 ·
  skip
  simp -dsimp -implicitDefEqProofs (maxDischargeDepth := 6)
  exact hK _ _ ⟨rfl, rfl⟩
 rintro a σ ⟨rfl, rfl⟩
 obtain ⟨v1, hv1, H⟩ := bindE H
 refine AWP_sr tok [] [3] (fun a σ => a = [(3, .int .i64 v1)] ∧ σ = hp E0 [] (N0 + 4)) (fun K hK => ?_) ?_
 ·
  skip
  simp -dsimp -implicitDefEqProofs (maxDischargeDepth := 6) [hv1]
  exact hK _ _ ⟨rfl, rfl⟩
 rintro a σ ⟨rfl, rfl⟩
 refine AWP_sq [3] fun K1 hK1 => ?_
 refine AWP_sr tok [] [3, 7] (fun a σ => a = [(3, .int .i64 v1), (7, .bool (igt v1 2147483647))] ∧ σ = hp E0 [] (N0 + 6)) (fun K hK => ?_) ?_
 ·
  skip
  simp -dsimp -implicitDefEqProofs (maxDischargeDepth := 6)
  exact hK _ _ ⟨rfl, rfl⟩
 rintro a σ ⟨rfl, rfl⟩
 refine AWP_cond (igt v1 2147483647) rfl (fun C1 => ?_) (fun C1 => ?_)
 ·
  replace H := ifT C1 H
  refine AWP_sr tok [] [2] (fun a σ => a = [(2, .int .i64 (isub .i64 v1 4294967296))] ∧ σ = hp E0 [] (N0 + 9)) (fun K hK => ?_) ?_
  ·
   skip
   simp -dsimp -implicitDefEqProofs (maxDischargeDepth := 6)
   exact hK _ _ ⟨rfl, rfl⟩
  rintro a σ ⟨rfl, rfl⟩
  replace H := Option.some.inj H; subst H
  refine AWP_kp [2] [(2, .int .i64 (isub .i64 v1 4294967296))] rfl ?_
  refine AWP_ret ?_
  exact ⟨[.int .i64 (isub .i64 v1 4294967296)], by simp, 4, by simp [encL_nil]⟩
 ·
  replace H := ifF C1 H
  refine AWP_skip ?_
  show K1 _ _
  refine keepE (l := [3]) (x := [(3, .int .i64 v1)]) rfl fun a' ha => ?_
  refine hK1 _ _ ?_; rw [ha]
  refine Rc.mk ?_
  refine AWP_sq [3] fun K2 hK2 => ?_
  refine AWP_sr tok [] [3, 11] (fun a σ => a = [(3, .int .i64 v1), (11, .bool (ilt v1 (-2147483648)))] ∧ σ = hp E0 [] (N0 + 8)) (fun K hK => ?_) ?_
  ·
   skip
   simp -dsimp -implicitDefEqProofs (maxDischargeDepth := 6)
   exact hK _ _ ⟨rfl, rfl⟩
  rintro a σ ⟨rfl, rfl⟩
  refine AWP_cond (ilt v1 (-2147483648)) rfl (fun C2 => ?_) (fun C2 => ?_)
  ·
   replace H := ifT C2 H
   refine AWP_sr tok [] [2] (fun a σ => a = [(2, .int .i64 (iadd .i64 v1 4294967296))] ∧ σ = hp E0 [] (N0 + 11)) (fun K hK => ?_) ?_
   ·
    skip
    simp -dsimp -implicitDefEqProofs (maxDischargeDepth := 6)
    exact hK _ _ ⟨rfl, rfl⟩
   rintro a σ ⟨rfl, rfl⟩
   replace H := Option.some.inj H; subst H
   refine AWP_kp [2] [(2, .int .i64 (iadd .i64 v1 4294967296))] rfl ?_
   refine AWP_ret ?_
   exact ⟨[.int .i64 (iadd .i64 v1 4294967296)], by simp, 4, by simp [encL_nil]⟩
  ·
   replace H := ifF C2 H
   refine AWP_skip ?_
   show K2 _ _
   refine keepE (l := [3]) (x := [(3, .int .i64 v1)]) rfl fun a' ha => ?_
   refine hK2 _ _ ?_; rw [ha]
   refine Rc.mk ?_
   refine AWP_sr tok [] [2] (fun a σ => a = [(2, .int .i64 v1)] ∧ σ = hp E0 [] (N0 + 10)) (fun K hK => ?_) ?_
   ·
    skip
    simp -dsimp -implicitDefEqProofs (maxDischargeDepth := 6)
    exact hK _ _ ⟨rfl, rfl⟩
   rintro a σ ⟨rfl, rfl⟩
   replace H := Option.some.inj H; subst H
   refine AWP_kp [2] [(2, .int .i64 v1)] rfl ?_
   refine AWP_ret ?_
   exact ⟨[.int .i64 v1], by simp, 4, by simp [encL_nil]⟩
theorem c106 {p0 : (List gInstr)} {p1 : Int} {p2 : Int} {r : (List gInstr)} (H : s_l43Write p0 p1 p2 = some r) {σ : AHeap} {w0 : Nat} (q0 : σ.objs w0 = some ⟨47, 5, encL rInstr p0⟩) : ACalls Tryd.prog G 106 [.sl w0 0 p0.length, .int .i64 p1, .int .i64 p2] σ (fun v σ' => ∃ M : Nat, σ.next ≤ M ∧ v = .fsl (encL rInstr r) ∧ σ' = hp σ.objs [(w0, none)] M) := by
 refine ACalls_fr (L := [(w0, some ⟨47, 5, encL rInstr p0⟩)]) (Q1 := fun v σ' => ∃ M : Nat, σ.next ≤ M ∧ v = .fsl (encL rInstr r) ∧ σ' = hp E0 [(w0, none)] M) (by simp [q0]) (fun hlt => ?_) ?_ ⟨_, Tryd.func106, rfl, rfl⟩
 rotate_left
 ·
  rintro v σ1 ⟨M, h0, rfl, rfl⟩
  exact ⟨_, M, rfl, by simp, by simp; try omega, M, h0, rfl, rfl⟩
 generalize σ.next = N0 at hlt ⊢
 have lw0 : w0 < N0 := hlt _ (.head _) rfl
 refine ACalls_fn tok Tryd.func106 (by kernel_rfl) rfl Tryd.ntmps106 Tryd.results106 rfl ?_
 simp only [argsA, Nat.reduceAdd, hp_next]
 unfold s_l43Write at H
 refine AWP_sr tok [] [0, 1, 2] (fun a σ => a = [(0, .sl w0 0 p0.length), (1, .int .i64 p1), (2, .int .i64 p2)] ∧ σ = hp E0 [(w0, some ⟨47, 5, encL rInstr p0⟩)] (N0 + 1)) (fun K hK => ?_) ?_
 ·
  skip
  simp -dsimp -implicitDefEqProofs (maxDischargeDepth := 6)
  exact hK _ _ ⟨rfl, rfl⟩
 rintro a σ ⟨rfl, rfl⟩
 refine AWP_sq [0, 1, 2] fun K1 hK1 => ?_
 refine AWP_sr tok [] [0, 1, 2, 9] (fun a σ => a = [(0, .sl w0 0 p0.length), (1, .int .i64 p1), (2, .int .i64 p2), (9, .bool (ilt p1 p2))] ∧ σ = hp E0 [(w0, some ⟨47, 5, encL rInstr p0⟩)] (N0 + 4)) (fun K hK => ?_) ?_
 ·
  skip
  simp -dsimp -implicitDefEqProofs (maxDischargeDepth := 6)
  exact hK _ _ ⟨rfl, rfl⟩
 rintro a σ ⟨rfl, rfl⟩
 refine AWP_cond (ilt p1 p2) rfl (fun C1 => ?_) (fun C1 => ?_)
 ·
  replace H := ifT C1 H
  refine AWP_sr tok [] [6] (fun a σ => a = [(6, .sl w0 0 p0.length)] ∧ σ = hp E0 [(w0, some ⟨47, 5, encL rInstr p0⟩)] (N0 + 6)) (fun K hK => ?_) ?_
  ·
   skip
   simp -dsimp -implicitDefEqProofs (maxDischargeDepth := 6)
   exact hK _ _ ⟨rfl, rfl⟩
  rintro a σ ⟨rfl, rfl⟩
  replace H := Option.some.inj H; subst H
  refine AWP_kp [6] [(6, .sl w0 0 p0.length)] rfl ?_
  refine gFrz AWP_ref 4 [w0] [] [(6, .fsl (encL rInstr p0))] (by simp) (cutD (by simp)) ?_
  refine AWP_ret ?_
  refine ⟨[.fsl (encL rInstr p0)], by simp, N0 + 6, by omega, ?_, ?_⟩
  ·
   simp [encL_nil]
  ·
   symm; first | exact hp_tail (L := []) | (simp only [List.set_set]; exact hp_tail (L := []))
 ·
  replace H := ifF C1 H
  refine AWP_skip ?_
  show K1 _ _
  refine keepE (l := [0, 1, 2]) (x := [(0, .sl w0 0 p0.length), (1, .int .i64 p1), (2, .int .i64 p2)]) rfl fun a' ha => ?_
  refine hK1 _ _ ?_; rw [ha]
  refine Rc.mk ?_
  obtain ⟨l1, hl1, H⟩ := bindE H
  have q0 : ∀ σ i, buildSliceA T 29 true i 1 [(0, .agg [.int .i64 16, .int .i64 0, .int .i64 2, .int .i64 7, .int .i64 (imul .i64 4 (isub .i64 p1 p2))])] σ = some (.fsl (encL rInstr ([(⟨16, 0, 2, 7, imul .i64 4 (isub .i64 p1 p2)⟩ : gInstr)] : List gInstr)), σ) := fun _ _ => rfl
  refine AWP_sr tok [6] [6] (fun a σ => a = [(6, .sl (N0 + 11) 0 l1.length)] ∧ σ = hp E0 [(N0 + 11, some ⟨47, 5, encL rInstr l1⟩)] (N0 + 13)) (fun K hK => ?_) ?_
  ·
   skip
   have e0 := nq (a := w0) (b := N0 + 11) (by omega)
   simp -dsimp -implicitDefEqProofs (maxDischargeDepth := 6) [e0, q0, app29 hl1]
   exact hK _ _ ⟨rfl, rfl⟩
  rintro a σ ⟨rfl, rfl⟩
  refine gFrz AWP_ref 4 [N0 + 11] [] [(6, .fsl (encL rInstr l1))] (by simp) (cutD (by simp)) ?_
  replace H := Option.some.inj H; subst H
  refine AWP_kp [6] [(6, .fsl (encL rInstr l1))] rfl ?_
  refine AWP_ret ?_
  refine ⟨[.fsl (encL rInstr l1)], by simp, N0 + 13, by omega, ?_, ?_⟩
  ·
   simp [encL_nil]
  ·
   symm; first | exact hp_tail (L := []) | (simp only [List.set_set]; exact hp_tail (L := []))
theorem c76_o {p0 : Int} {p1 : Int} {r : (List gInstr)} (H : s_l43Const_o p0 p1 = some r) {σ : AHeap} : ACalls Tryd.prog G 76 [.int .i64 p0, .int .i64 p1] σ (fun v σ' => ∃ M n0 : Nat, σ.next ≤ M ∧ σ.next ≤ n0 ∧ n0 < M ∧ v = .sl n0 0 r.length ∧ σ' = hp σ.objs [(n0, some ⟨47, 5, encL rInstr r⟩)] M) := by
 refine ACalls_fr (L := []) (Q1 := fun v σ' => ∃ M n0 : Nat, σ.next ≤ M ∧ σ.next ≤ n0 ∧ n0 < M ∧ v = .sl n0 0 r.length ∧ σ' = hp E0 [(n0, some ⟨47, 5, encL rInstr r⟩)] M) (by simp []) (fun hlt => ?_) ?_ ⟨_, Tryd.func76, rfl, rfl⟩
 rotate_left
 ·
  rintro v σ1 ⟨M, n0, h0, h1, h2, rfl, rfl⟩
  exact ⟨_, M, rfl, by simp, by simp; try omega, M, n0, h0, h1, h2, rfl, rfl⟩
 generalize σ.next = N0 at hlt ⊢
 refine ACalls_fn tok Tryd.func76 (by kernel_rfl) rfl Tryd.ntmps76 Tryd.results76 rfl ?_
 simp only [argsA, Nat.reduceAdd, hp_next]
 unfold s_l43Const_o at H
 refine AWP_sr tok [] [0, 1] (fun a σ => a = [(0, .int .i64 p0), (1, .int .i64 p1)] ∧ σ = hp E0 [] (N0 + 1)) (fun K hK => ?_) ?_
 ·
  skip
  simp -dsimp -implicitDefEqProofs (maxDischargeDepth := 6)
  exact hK _ _ ⟨rfl, rfl⟩
 rintro a σ ⟨rfl, rfl⟩
 refine AWP_sq [0, 1] fun K1 hK1 => ?_
 obtain ⟨r1, hr1, H⟩ := bindE H
 refine AWP_sr tok [] [0, 1, 9] (fun a σ => a = [(0, .int .i64 p0), (1, .int .i64 p1), (9, .bool r1)] ∧ σ = hp E0 [] (N0 + 3)) (fun K hK => ?_) ?_
 ·
  skip
  simp -dsimp -implicitDefEqProofs (maxDischargeDepth := 6)
  refine (c65 hr1).app ?_; try simp -dsimp -implicitDefEqProofs (maxDischargeDepth := 6)
  exact hK _ _ ⟨rfl, rfl⟩
 rintro a σ ⟨rfl, rfl⟩
 refine AWP_cond r1 rfl (fun C1 => ?_) (fun C1 => ?_)
 ·
  replace H := ifT C1 H
  obtain ⟨l2, hl2, H⟩ := bindE H
  have q0 : ∀ σ i, buildSliceA T 29 false i 1 [(0, .agg [.int .i64 12, .int .i64 p0, .int .i64 0, .int .i64 0, .int .i64 p1])] σ = some (.sl i 0 (List.length l2), σ.put i ⟨47, 5, encL rInstr l2⟩) := by rw [← Option.some.inj hl2]; intro _ _; rfl
  refine AWP_sr tok [] [4] (fun a σ => a = [(4, .sl (N0 + 6) 0 l2.length)] ∧ σ = hp E0 [(N0 + 6, some ⟨47, 5, encL rInstr l2⟩)] (N0 + 8)) (fun K hK => ?_) ?_
  ·
   skip
   simp -dsimp -implicitDefEqProofs (maxDischargeDepth := 6) [q0]
   exact hK _ _ ⟨rfl, rfl⟩
  rintro a σ ⟨rfl, rfl⟩
  replace H := Option.some.inj H; subst H
  refine AWP_kp [4] [(4, .sl (N0 + 6) 0 l2.length)] rfl ?_
  refine AWP_ret ?_
  refine ⟨[.sl (N0 + 6) 0 l2.length], by simp, N0 + 8, N0 + 6, by omega, by omega, by omega, ?_, ?_⟩
  ·
   simp [encL_nil]
  ·
   first | rfl | simp [List.set_set]
 ·
  replace H := ifF C1 H
  refine AWP_skip ?_
  show K1 _ _
  refine keepE (l := [0, 1]) (x := [(0, .int .i64 p0), (1, .int .i64 p1)]) rfl fun a' ha => ?_
  refine hK1 _ _ ?_; rw [ha]
  refine Rc.mk ?_
  obtain ⟨r3, hr3, H⟩ := bindE H
  obtain ⟨r4, hr4, H⟩ := bindE H
  obtain ⟨r5, hr5, H⟩ := bindE H
  refine AWP_sr tok [] [0, 1, 5] (fun a σ => a = [(0, .int .i64 p0), (1, .int .i64 p1), (5, .int .i64 r5)] ∧ σ = hp E0 [] (N0 + 8)) (fun K hK => ?_) ?_
  ·
   skip
   simp -dsimp -implicitDefEqProofs (maxDischargeDepth := 6)
   refine (c131 hr3).app ?_; try simp -dsimp -implicitDefEqProofs (maxDischargeDepth := 6)
   refine (c130 hr4).app ?_; try simp -dsimp -implicitDefEqProofs (maxDischargeDepth := 6)
   refine (c129 hr5).app ?_; try simp -dsimp -implicitDefEqProofs (maxDischargeDepth := 6)
   exact hK _ _ ⟨rfl, rfl⟩
  rintro a σ ⟨rfl, rfl⟩
  obtain ⟨r6, hr6, H⟩ := bindE H
  obtain ⟨r7, hr7, H⟩ := bindE H
  obtain ⟨r8, hr8, H⟩ := bindE H
  refine AWP_sr tok [] [0, 5, 6] (fun a σ => a = [(0, .int .i64 p0), (5, .int .i64 r5), (6, .int .i64 r8)] ∧ σ = hp E0 [] (N0 + 15)) (fun K hK => ?_) ?_
  ·
   skip
   simp -dsimp -implicitDefEqProofs (maxDischargeDepth := 6)
   refine (c102 hr6).app ?_; try simp -dsimp -implicitDefEqProofs (maxDischargeDepth := 6)
   refine (c131 hr7).app ?_; try simp -dsimp -implicitDefEqProofs (maxDischargeDepth := 6)
   refine (c130 hr8).app ?_; try simp -dsimp -implicitDefEqProofs (maxDischargeDepth := 6)
   exact hK _ _ ⟨rfl, rfl⟩
  rintro a σ ⟨rfl, rfl⟩
  obtain ⟨l9, hl9, H⟩ := bindE H
  have q1 : ∀ σ i, buildSliceA T 29 false i 1 [(0, .agg [.int .i64 19, .int .i64 p0, .int .i64 0, .int .i64 0, .int .i64 r8])] σ = some (.sl i 0 (List.length l9), σ.put i ⟨47, 5, encL rInstr l9⟩) := by rw [← Option.some.inj hl9]; intro _ _; rfl
  refine AWP_sr tok [] [0, 5, 7] (fun a σ => a = [(0, .int .i64 p0), (5, .int .i64 r5), (7, .sl (N0 + 18) 0 l9.length)] ∧ σ = hp E0 [(N0 + 18, some ⟨47, 5, encL rInstr l9⟩)] (N0 + 20)) (fun K hK => ?_) ?_
  ·
   skip
   simp -dsimp -implicitDefEqProofs (maxDischargeDepth := 6) [q1]
   exact hK _ _ ⟨rfl, rfl⟩
  rintro a σ ⟨rfl, rfl⟩
  obtain ⟨l10, hl10, H⟩ := bindE H
  have q2 : ∀ σ i, buildSliceA T 29 true i 1 [(0, .agg [.int .i64 12, .int .i64 p0, .int .i64 p0, .int .i64 0, .int .i64 r5])] σ = some (.fsl (encL rInstr ([(⟨12, p0, p0, 0, r5⟩ : gInstr)] : List gInstr)), σ) := fun _ _ => rfl
  refine AWP_sr tok [5] [4] (fun a σ => a = [(4, .sl (N0 + 26) 0 l10.length)] ∧ σ = hp E0 [(N0 + 26, some ⟨47, 5, encL rInstr l10⟩)] (N0 + 28)) (fun K hK => ?_) ?_
  ·
   skip
   simp -dsimp -implicitDefEqProofs (maxDischargeDepth := 6) [q2, app29 hl10]
   exact hK _ _ ⟨rfl, rfl⟩
  rintro a σ ⟨rfl, rfl⟩
  replace H := Option.some.inj H; subst H
  refine AWP_kp [4] [(4, .sl (N0 + 26) 0 l10.length)] rfl ?_
  refine AWP_ret ?_
  refine ⟨[.sl (N0 + 26) 0 l10.length], by simp, N0 + 28, N0 + 26, by omega, by omega, by omega, ?_, ?_⟩
  ·
   simp [encL_nil]
  ·
   first | rfl | simp [List.set_set]
theorem c107 {p0 : Int} {p1 : Int} {p2 : Int} {r : (List gInstr)} (H : s_l43Read p0 p1 p2 = some r) : APure Tryd.prog G 107 [.int .i64 p0, .int .i64 p1, .int .i64 p2] (.fsl (encL rInstr r)) := by
 refine APure_fn (fun N0 => ?_) (by simp)
 refine ACalls_fn tok Tryd.func107 (by kernel_rfl) rfl Tryd.ntmps107 Tryd.results107 rfl ?_
 simp only [argsA, Nat.reduceAdd, hp_next]
 unfold s_l43Read at H
 refine AWP_sr tok [] [0, 1, 2] (fun a σ => a = [(0, .int .i64 p0), (1, .int .i64 p1), (2, .int .i64 p2)] ∧ σ = hp E0 [] (N0 + 1)) (fun K hK => ?_) ?_
 ·
  skip
  simp -dsimp -implicitDefEqProofs (maxDischargeDepth := 6)
  exact hK _ _ ⟨rfl, rfl⟩
 rintro a σ ⟨rfl, rfl⟩
 refine AWP_sq [0, 1, 2] fun K1 hK1 => ?_
 refine AWP_sr tok [] [0, 1, 2, 9] (fun a σ => a = [(0, .int .i64 p0), (1, .int .i64 p1), (2, .int .i64 p2), (9, .bool (ilt p0 p1))] ∧ σ = hp E0 [] (N0 + 4)) (fun K hK => ?_) ?_
 ·
  skip
  simp -dsimp -implicitDefEqProofs (maxDischargeDepth := 6)
  exact hK _ _ ⟨rfl, rfl⟩
 rintro a σ ⟨rfl, rfl⟩
 refine AWP_cond (ilt p0 p1) rfl (fun C1 => ?_) (fun C1 => ?_)
 ·
  replace H := ifT C1 H
  have q0 : ∀ σ i, buildSliceA T 29 true i 0 [] σ = some (.esl, σ) := fun _ _ => rfl
  refine AWP_sr tok [0] [6] (fun a σ => a = [(6, .esl)] ∧ σ = hp E0 [] (N0 + 6)) (fun K hK => ?_) ?_
  ·
   skip
   simp -dsimp -implicitDefEqProofs (maxDischargeDepth := 6) [q0]
   exact hK _ _ ⟨rfl, rfl⟩
  rintro a σ ⟨rfl, rfl⟩
  replace H := Option.some.inj H; subst H
  refine AWP_kp [6] [(6, .esl)] rfl ?_
  refine AWP_ret ?_
  exact ⟨[.esl], by simp, 4, by simp [encL_nil]⟩
 ·
  replace H := ifF C1 H
  refine AWP_skip ?_
  show K1 _ _
  refine keepE (l := [0, 1, 2]) (x := [(0, .int .i64 p0), (1, .int .i64 p1), (2, .int .i64 p2)]) rfl fun a' ha => ?_
  refine hK1 _ _ ?_; rw [ha]
  refine Rc.mk ?_
  have q1 : ∀ σ i, buildSliceA T 29 true i 1 [(0, .agg [.int .i64 14, .int .i64 p2, .int .i64 2, .int .i64 0, .int .i64 (imul .i64 4 (isub .i64 p0 p1))])] σ = some (.fsl (encL rInstr ([(⟨14, p2, 2, 0, imul .i64 4 (isub .i64 p0 p1)⟩ : gInstr)] : List gInstr)), σ) := fun _ _ => rfl
  refine AWP_sr tok [6] [6] (fun a σ => a = [(6, .fsl (encL rInstr ([(⟨14, p2, 2, 0, imul .i64 4 (isub .i64 p0 p1)⟩ : gInstr)] : List gInstr)))] ∧ σ = hp E0 [] (N0 + 12)) (fun K hK => ?_) ?_
  ·
   skip
   simp -dsimp -implicitDefEqProofs (maxDischargeDepth := 6) [q1]
   exact hK _ _ ⟨rfl, rfl⟩
  rintro a σ ⟨rfl, rfl⟩
  replace H := Option.some.inj H; subst H
  refine AWP_kp [6] [(6, .fsl (encL rInstr ([(⟨14, p2, 2, 0, imul .i64 4 (isub .i64 p0 p1)⟩ : gInstr)] : List gInstr)))] rfl ?_
  refine AWP_ret ?_
  exact ⟨[.fsl (encL rInstr ([(⟨14, p2, 2, 0, imul .i64 4 (isub .i64 p0 p1)⟩ : gInstr)] : List gInstr))], by simp, 4, by simp [encL_nil]⟩
theorem c108 {p0 : Int} {p1 : Int} {r : gInstr} (H : s_l43Move p0 p1 = some r) : APure Tryd.prog G 108 [.int .i64 p0, .int .i64 p1] (.agg [.int .i64 r.Op, .int .i64 r.Rd, .int .i64 r.Rs, .int .i64 r.Rt, .int .i64 r.Imm]) := by
 refine APure_fn (fun N0 => ?_) (by simp)
 refine ACalls_fn tok Tryd.func108 (by kernel_rfl) rfl Tryd.ntmps108 Tryd.results108 rfl ?_
 simp only [argsA, Nat.reduceAdd, hp_next]
 unfold s_l43Move at H
 refine AWP_sr tok [] [0, 1, 4] (fun a σ => a = [(0, .int .i64 p0), (1, .int .i64 p1), (4, .ptr N0 0 0)] ∧ σ = hp E0 [(N0, some ⟨47, 5, [[.int .i64 0, .int .i64 0, .int .i64 0, .int .i64 0, .int .i64 0]]⟩)] (N0 + 1)) (fun K hK => ?_) ?_
 ·
  skip
  simp -dsimp -implicitDefEqProofs (maxDischargeDepth := 6)
  exact hK _ _ ⟨rfl, rfl⟩
 rintro a σ ⟨rfl, rfl⟩
 refine AWP_sr tok [] [4] (fun a σ => a = [(4, .ptr N0 0 0)] ∧ σ = hp E0 [(N0, some ⟨47, 5, [[.int .i64 12, .int .i64 p0, .int .i64 p1, .int .i64 0, .int .i64 0]]⟩)] (N0 + 5)) (fun K hK => ?_) ?_
 ·
  skip
  simp -dsimp -implicitDefEqProofs (maxDischargeDepth := 6)
  exact hK _ _ ⟨rfl, rfl⟩
 rintro a σ ⟨rfl, rfl⟩
 replace H := Option.some.inj H; subst H
 refine AWP_kp [4] [(4, .ptr N0 0 0)] rfl ?_
 refine AWP_ret ?_
 exact ⟨[.agg [.int .i64 12, .int .i64 p0, .int .i64 p1, .int .i64 0, .int .i64 0]], by simp, 4, by simp [encL_nil]⟩
theorem c107_o {p0 : Int} {p1 : Int} {p2 : Int} {r : (List gInstr)} (H : s_l43Read_o p0 p1 p2 = some r) {σ : AHeap} : ACalls Tryd.prog G 107 [.int .i64 p0, .int .i64 p1, .int .i64 p2] σ (fun v σ' => ∃ M n0 : Nat, σ.next ≤ M ∧ σ.next ≤ n0 ∧ n0 < M ∧ v = .sl n0 0 r.length ∧ σ' = hp σ.objs [(n0, some ⟨47, 5, encL rInstr r⟩)] M) := by
 refine ACalls_fr (L := []) (Q1 := fun v σ' => ∃ M n0 : Nat, σ.next ≤ M ∧ σ.next ≤ n0 ∧ n0 < M ∧ v = .sl n0 0 r.length ∧ σ' = hp E0 [(n0, some ⟨47, 5, encL rInstr r⟩)] M) (by simp []) (fun hlt => ?_) ?_ ⟨_, Tryd.func107, rfl, rfl⟩
 rotate_left
 ·
  rintro v σ1 ⟨M, n0, h0, h1, h2, rfl, rfl⟩
  exact ⟨_, M, rfl, by simp, by simp; try omega, M, n0, h0, h1, h2, rfl, rfl⟩
 generalize σ.next = N0 at hlt ⊢
 refine ACalls_fn tok Tryd.func107 (by kernel_rfl) rfl Tryd.ntmps107 Tryd.results107 rfl ?_
 simp only [argsA, Nat.reduceAdd, hp_next]
 unfold s_l43Read_o at H
 refine AWP_sr tok [] [0, 1, 2] (fun a σ => a = [(0, .int .i64 p0), (1, .int .i64 p1), (2, .int .i64 p2)] ∧ σ = hp E0 [] (N0 + 1)) (fun K hK => ?_) ?_
 ·
  skip
  simp -dsimp -implicitDefEqProofs (maxDischargeDepth := 6)
  exact hK _ _ ⟨rfl, rfl⟩
 rintro a σ ⟨rfl, rfl⟩
 refine AWP_sq [0, 1, 2] fun K1 hK1 => ?_
 refine AWP_sr tok [] [0, 1, 2, 9] (fun a σ => a = [(0, .int .i64 p0), (1, .int .i64 p1), (2, .int .i64 p2), (9, .bool (ilt p0 p1))] ∧ σ = hp E0 [] (N0 + 4)) (fun K hK => ?_) ?_
 ·
  skip
  simp -dsimp -implicitDefEqProofs (maxDischargeDepth := 6)
  exact hK _ _ ⟨rfl, rfl⟩
 rintro a σ ⟨rfl, rfl⟩
 refine AWP_cond (ilt p0 p1) rfl (fun C1 => ?_) (fun C1 => ?_)
 ·
  replace H := ifT C1 H
  have q0 : ∀ σ i, buildSliceA T 29 true i 0 [] σ = some (.esl, σ) := fun _ _ => rfl
  refine AWP_sr tok [0] [6] (fun a σ => a = [(6, .esl)] ∧ σ = hp E0 [] (N0 + 6)) (fun K hK => ?_) ?_
  ·
   skip
   simp -dsimp -implicitDefEqProofs (maxDischargeDepth := 6) [q0]
   exact hK _ _ ⟨rfl, rfl⟩
  rintro a σ ⟨rfl, rfl⟩
  replace H := Option.some.inj H; subst H
  refine AWP_kp [6] [(6, .esl)] rfl ?_
  refine gNilS AWP_ref 6 47 5 [(N0 + 6, some ⟨47, 5, encL rInstr ([] : List gInstr)⟩)] [(6, .sl (N0 + 6) 0 ([] : List gInstr).length)] (by simp (disch := omega)) (by simp (disch := omega) [encL_nil]) [6] rfl ?_
  refine AWP_ret ?_
  refine ⟨[.sl (N0 + 6) 0 ([] : List gInstr).length], by simp, N0 + 7, N0 + 6, by omega, by omega, by omega, ?_, ?_⟩
  ·
   simp [encL_nil]
  ·
   first | rfl | simp [List.set_set]
 ·
  replace H := ifF C1 H
  refine AWP_skip ?_
  show K1 _ _
  refine keepE (l := [0, 1, 2]) (x := [(0, .int .i64 p0), (1, .int .i64 p1), (2, .int .i64 p2)]) rfl fun a' ha => ?_
  refine hK1 _ _ ?_; rw [ha]
  refine Rc.mk ?_
  obtain ⟨l1, hl1, H⟩ := bindE H
  have q1 : ∀ σ i, buildSliceA T 29 false i 1 [(0, .agg [.int .i64 14, .int .i64 p2, .int .i64 2, .int .i64 0, .int .i64 (imul .i64 4 (isub .i64 p0 p1))])] σ = some (.sl i 0 (List.length l1), σ.put i ⟨47, 5, encL rInstr l1⟩) := by rw [← Option.some.inj hl1]; intro _ _; rfl
  refine AWP_sr tok [] [6] (fun a σ => a = [(6, .sl (N0 + 10) 0 l1.length)] ∧ σ = hp E0 [(N0 + 10, some ⟨47, 5, encL rInstr l1⟩)] (N0 + 12)) (fun K hK => ?_) ?_
  ·
   skip
   simp -dsimp -implicitDefEqProofs (maxDischargeDepth := 6) [q1]
   exact hK _ _ ⟨rfl, rfl⟩
  rintro a σ ⟨rfl, rfl⟩
  replace H := Option.some.inj H; subst H
  refine AWP_kp [6] [(6, .sl (N0 + 10) 0 l1.length)] rfl ?_
  refine AWP_ret ?_
  refine ⟨[.sl (N0 + 10) 0 l1.length], by simp, N0 + 12, N0 + 10, by omega, by omega, by omega, ?_, ?_⟩
  ·
   simp [encL_nil]
  ·
   first | rfl | simp [List.set_set]
theorem c143 {p0 : Int} {r : Int} (H : s_l43Op p0 = some r) : APure Tryd.prog G 143 [.int .i64 p0] (.int .i64 r) := by
 refine APure_fn (fun N0 => ?_) (by simp)
 refine ACalls_fn tok Tryd.func143 (by kernel_rfl) rfl Tryd.ntmps143 Tryd.results143 rfl ?_
 simp only [argsA, Nat.reduceAdd, hp_next]
 unfold s_l43Op at H
 refine AWP_sr tok [] [0] (fun a σ => a = [(0, .int .i64 p0)] ∧ σ = hp E0 [] (N0 + 1)) (fun K hK => ?_) ?_
 ·
  skip
  simp -dsimp -implicitDefEqProofs (maxDischargeDepth := 6)
  exact hK _ _ ⟨rfl, rfl⟩
 rintro a σ ⟨rfl, rfl⟩
 have q0 : ∀ σ i, buildSliceA T 24 true i 12 [(0, .int .i64 7), (1, .int .i64 8), (2, .int .i64 6), (3, .int .i64 8), (4, .int .i64 11), (5, .int .i64 9), (6, .int .i64 10), (7, .int .i64 1), (8, .int .i64 2), (9, .int .i64 3), (10, .int .i64 4), (11, .int .i64 5)] σ = some (.fsl (encL rI ([7, 8, 6, 8, 11, 9, 10, 1, 2, 3, 4, 5] : List Int)), σ) := fun _ _ => rfl
 refine AWP_sr tok [0] [0, 3] (fun a σ => a = [(0, .int .i64 p0), (3, .fsl (encL rI ([7, 8, 6, 8, 11, 9, 10, 1, 2, 3, 4, 5] : List Int)))] ∧ σ = hp E0 [] (N0 + 3)) (fun K hK => ?_) ?_
 ·
  skip
  simp -dsimp -implicitDefEqProofs (maxDischargeDepth := 6) [q0]
  exact hK _ _ ⟨rfl, rfl⟩
 rintro a σ ⟨rfl, rfl⟩
 obtain ⟨v1, hv1, H⟩ := bindE H
 refine AWP_sr tok [] [2] (fun a σ => a = [(2, .int .i64 v1)] ∧ σ = hp E0 [] (N0 + 9)) (fun K hK => ?_) ?_
 ·
  skip
  simp -dsimp -implicitDefEqProofs (maxDischargeDepth := 6) [ix24 hv1]
  exact hK _ _ ⟨rfl, rfl⟩
 rintro a σ ⟨rfl, rfl⟩
 replace H := Option.some.inj H; subst H
 refine AWP_kp [2] [(2, .int .i64 v1)] rfl ?_
 refine AWP_ret ?_
 exact ⟨[.int .i64 v1], by simp, 4, by simp [encL_nil]⟩
theorem c109 {p0 : gQuad} {p1 : Int} {r : (List gInstr)} (H : s_l43Bin p0 p1 = some r) : APure Tryd.prog G 109 [.agg [.int .i64 p0.Op, .int .i64 p0.Dst, .int .i64 p0.A, .int .i64 p0.B, .int .i64 p0.N], .int .i64 p1] (.fsl (encL rInstr r)) := by
 refine APure_fn (fun N0 => ?_) (by simp)
 refine ACalls_fn tok Tryd.func109 (by kernel_rfl) rfl Tryd.ntmps109 Tryd.results109 rfl ?_
 simp only [argsA, Nat.reduceAdd, hp_next]
 unfold s_l43Bin at H
 refine AWP_sr tok [0] [1, 2] (fun a σ => a = [(1, .int .i64 p1), (2, .fptr [.int .i64 p0.Op, .int .i64 p0.Dst, .int .i64 p0.A, .int .i64 p0.B, .int .i64 p0.N] 0)] ∧ σ = hp E0 [] (N0 + 2)) (fun K hK => ?_) ?_
 ·
  skip
  simp -dsimp -implicitDefEqProofs (maxDischargeDepth := 6)
  exact hK _ _ ⟨rfl, rfl⟩
 rintro a σ ⟨rfl, rfl⟩
 obtain ⟨r1, hr1, H⟩ := bindE H
 obtain ⟨r2, hr2, H⟩ := bindE H
 obtain ⟨l3, hl3, H⟩ := bindE H
 refine AWP_sd tok tokM [] [3, 8] [0, 1, 2, 4, 5, 6, 3, 7, 8, 9] [1, 2, 5] (fun a σ => ∃ M1 o1 : Nat, N0 + 12 ≤ M1 ∧ N0 + 12 ≤ o1 ∧ o1 < M1 ∧ a = [(1, .int .i64 p1), (2, .fptr [.int .i64 p0.Op, .int .i64 p0.Dst, .int .i64 p0.A, .int .i64 p0.B, .int .i64 p0.N] 0), (5, .sl (N0 + 10) 0 l3.length)] ∧ σ = hp E0 [(N0 + 10, some ⟨47, 5, encL rInstr l3⟩)] M1) (by decide) (fun K hK => ?_) ?_
 ·
  simp only [pickL, nthO_succ, nthO_zero]
  simp -dsimp -implicitDefEqProofs (maxDischargeDepth := 6) [app29 hl3]
  refine (c107_o (H := hr1) ).mono ?_; rintro _ _ ⟨M1, o1, fM1_0, fM1_1, fM1_2, rfl, rfl⟩; simp only [hp_next] at fM1_0 fM1_1 fM1_2
  have eM1_0 := nq (a := o1) (b := N0 + 10) (by omega)
  try simp -dsimp -implicitDefEqProofs (maxDischargeDepth := 6) [app29 hl3, eM1_0, hp_over_some, hp_over_none]
  refine Pc.mk (c107 hr2) ?_; try simp -dsimp -implicitDefEqProofs (maxDischargeDepth := 6) [app29 hl3, eM1_0, hp_over_some, hp_over_none]
  exact hK _ _ ⟨M1, o1, (by omega), (by omega), (by omega), rfl, rfl⟩
 rintro a σ ⟨M1, o1, fM1_0, fM1_1, fM1_2, rfl, rfl⟩
 obtain ⟨r4, hr4, H⟩ := bindE H
 refine AWP_sr tok [] [1, 2, 5, 6] (fun a σ => a = [(1, .int .i64 p1), (2, .fptr [.int .i64 p0.Op, .int .i64 p0.Dst, .int .i64 p0.A, .int .i64 p0.B, .int .i64 p0.N] 0), (5, .sl (N0 + 10) 0 l3.length), (6, .int .i64 r4)] ∧ σ = hp E0 [(N0 + 10, some ⟨47, 5, encL rInstr l3⟩)] (M1 + 5)) (fun K hK => ?_) ?_
 ·
  skip
  simp -dsimp -implicitDefEqProofs (maxDischargeDepth := 6)
  refine (c105 hr4).app ?_; try simp -dsimp -implicitDefEqProofs (maxDischargeDepth := 6)
  exact hK _ _ ⟨rfl, rfl⟩
 rintro a σ ⟨rfl, rfl⟩
 obtain ⟨r5, hr5, H⟩ := bindE H
 obtain ⟨r6, hr6, H⟩ := bindE H
 obtain ⟨r7, hr7, H⟩ := bindE H
 obtain ⟨l8, hl8, H⟩ := bindE H
 have q0 : ∀ σ i, buildSliceA T 29 true i 1 [(0, .agg [.int .i64 r5, .int .i64 r4, .int .i64 r6, .int .i64 r7, .int .i64 0])] σ = some (.fsl (encL rInstr ([(⟨r5, r4, r6, r7, 0⟩ : gInstr)] : List gInstr)), σ) := fun _ _ => rfl
 refine AWP_sd tok tokM [14] [15] [0, 1, 2, 3, 4, 5, 6, 7, 8, 9, 10, 11, 12, 13, 14, 15, 16] [1, 2, 5, 6] (fun a σ => a = [(1, .int .i64 p1), (2, .fptr [.int .i64 p0.Op, .int .i64 p0.Dst, .int .i64 p0.A, .int .i64 p0.B, .int .i64 p0.N] 0), (5, .sl (M1 + 20) 0 l8.length), (6, .int .i64 r4)] ∧ σ = hp E0 [(M1 + 20, some ⟨47, 5, encL rInstr l8⟩)] (M1 + 22)) (by decide) (fun K hK => ?_) ?_
 ·
  simp only [pickL, nthO_succ, nthO_zero]
  have e0 := nq (a := N0 + 10) (b := M1 + 20) (by omega)
  have e1 := nq (a := N0) (b := M1 + 10) (by omega)
  simp -dsimp -implicitDefEqProofs (maxDischargeDepth := 6) [e0, e1, q0, app29 hl8]
  refine Pc.mk (c143 hr5) ?_; try simp -dsimp -implicitDefEqProofs (maxDischargeDepth := 6) [e0, e1, q0, app29 hl8]
  refine Pc.mk (c105 hr6) ?_; try simp -dsimp -implicitDefEqProofs (maxDischargeDepth := 6) [e0, e1, q0, app29 hl8]
  refine Pc.mk (c105 hr7) ?_; try simp -dsimp -implicitDefEqProofs (maxDischargeDepth := 6) [e0, e1, q0, app29 hl8]
  exact hK _ _ ⟨rfl, rfl⟩
 rintro a σ ⟨rfl, rfl⟩
 obtain ⟨j1, hj1, H⟩ := bindE H
 refine AWP_seq (AWP_named fun K1 hK1 => ?_)
 have hJ1 : ∀ a σ, Rc G 50 N0 (fun a σ => ∃ M2 o2 : Nat, N0 ≤ M2 ∧ N0 ≤ o2 ∧ o2 < M2 ∧ a = [(1, .int .i64 p1), (2, .fptr [.int .i64 p0.Op, .int .i64 p0.Dst, .int .i64 p0.A, .int .i64 p0.B, .int .i64 p0.N] 0), (5, .sl o2 0 j1.length)] ∧ σ = hp E0 [(o2, some ⟨47, 5, encL rInstr j1⟩)] M2) (a.keep [1, 2, 5]) σ → K1 a σ := by
  rintro a σ ⟨b, τ, hr, M2, o2, fM2_0, fM2_1, fM2_2, rfl, rfl⟩
  refine hK1 _ _ (AWP_keep [1, 2, 5] (AWP_ref hr ?_))
  obtain ⟨r10, hr10, H⟩ := bindE H
  refine AWP_sr tok [] [4] (fun a σ => ∃ M3 : Nat, M2 + 6 ≤ M3 ∧ a = [(4, .fsl (encL rInstr r10))] ∧ σ = hp E0 [] M3) (fun K hK => ?_) ?_
  ·
   skip
   simp -dsimp -implicitDefEqProofs (maxDischargeDepth := 6)
   refine (c106 (H := hr10) (by simp [])).mono ?_; rintro _ _ ⟨M3, fM3_0, rfl, rfl⟩; simp only [hp_next] at fM3_0
   try simp -dsimp -implicitDefEqProofs (maxDischargeDepth := 6) [hp_over_some, hp_over_none]
   exact hK _ _ ⟨M3, (by omega), rfl, rfl⟩
  rintro a σ ⟨M3, fM3_0, rfl, rfl⟩
  replace H := Option.some.inj H; subst H
  refine AWP_kp [4] [(4, .fsl (encL rInstr r10))] rfl ?_
  refine AWP_ret ?_
  exact ⟨[.fsl (encL rInstr r10)], by simp, 4, by simp [encL_nil]⟩
 replace H := hj1
 refine AWP_sr tok [] [1, 2, 5, 6, 38] (fun a σ => a = [(1, .int .i64 p1), (2, .fptr [.int .i64 p0.Op, .int .i64 p0.Dst, .int .i64 p0.A, .int .i64 p0.B, .int .i64 p0.N] 0), (5, .sl (M1 + 20) 0 l8.length), (6, .int .i64 r4), (38, .bool (ieq p0.N 4))] ∧ σ = hp E0 [(M1 + 20, some ⟨47, 5, encL rInstr l8⟩)] (M1 + 25)) (fun K hK => ?_) ?_
 ·
  skip
  simp -dsimp -implicitDefEqProofs (maxDischargeDepth := 6)
  exact hK _ _ ⟨rfl, rfl⟩
 rintro a σ ⟨rfl, rfl⟩
 refine AWP_cond (ieq p0.N 4) rfl (fun C1 => ?_) (fun C1 => ?_)
 ·
  replace H := ifT C1 H
  obtain ⟨l11, hl11, H⟩ := bindE H
  have q1 : ∀ σ i, buildSliceA T 29 true i 1 [(0, .agg [.int .i64 13, .int .i64 r4, .int .i64 r4, .int .i64 0, .int .i64 1])] σ = some (.fsl (encL rInstr ([(⟨13, r4, r4, 0, 1⟩ : gInstr)] : List gInstr)), σ) := fun _ _ => rfl
  refine AWP_rt tok [4] [1, 2, 5] (fun a σ => a = [(1, .int .i64 p1), (2, .fptr [.int .i64 p0.Op, .int .i64 p0.Dst, .int .i64 p0.A, .int .i64 p0.B, .int .i64 p0.N] 0), (5, .sl (M1 + 30) 0 l11.length)] ∧ σ = hp E0 [(M1 + 30, some ⟨47, 5, encL rInstr l11⟩)] (M1 + 32)) (fun K hK => ?_) ?_
  ·
   skip
   simp -dsimp -implicitDefEqProofs (maxDischargeDepth := 6) [q1, app29 hl11]
   exact hK _ _ ⟨rfl, rfl⟩
  rintro a σ ⟨ha, rfl⟩
  replace H := Option.some.inj H; subst H
  refine hJ1 _ _ ?_; rw [ha]
  exact Rc.fin (AHeap.Sub.refl _) ⟨M1 + 32, (M1 + 30), (by omega), (by omega), (by omega), rfl, rfl⟩
 ·
  replace H := ifF C1 H
  refine AWP_skip ?_
  show K1 _ _
  refine keepE (l := [1, 2, 5]) (x := [(1, .int .i64 p1), (2, .fptr [.int .i64 p0.Op, .int .i64 p0.Dst, .int .i64 p0.A, .int .i64 p0.B, .int .i64 p0.N] 0), (5, .sl (M1 + 20) 0 l8.length)]) rfl fun a' ha => ?_
  replace H := Option.some.inj H; subst H
  refine hJ1 _ _ ?_; rw [ha]
  exact Rc.fin (AHeap.Sub.refl _) ⟨M1 + 25, (M1 + 20), (by omega), (by omega), (by omega), rfl, rfl⟩
theorem c110 {p0 : gQuad} {p1 : Int} {p2 : Int} {r : (List gInstr)} (H : s_l43Zero p0 p1 p2 = some r) : APure Tryd.prog G 110 [.agg [.int .i64 p0.Op, .int .i64 p0.Dst, .int .i64 p0.A, .int .i64 p0.B, .int .i64 p0.N], .int .i64 p1, .int .i64 p2] (.fsl (encL rInstr r)) := by
 refine APure_fn (fun N0 => ?_) (by simp)
 refine ACalls_fn tok Tryd.func110 (by kernel_rfl) rfl Tryd.ntmps110 Tryd.results110 rfl ?_
 simp only [argsA, Nat.reduceAdd, hp_next]
 unfold s_l43Zero at H
 refine AWP_sr tok [0] [1, 2, 3] (fun a σ => a = [(1, .int .i64 p1), (2, .int .i64 p2), (3, .fptr [.int .i64 p0.Op, .int .i64 p0.Dst, .int .i64 p0.A, .int .i64 p0.B, .int .i64 p0.N] 0)] ∧ σ = hp E0 [] (N0 + 2)) (fun K hK => ?_) ?_
 ·
  skip
  simp -dsimp -implicitDefEqProofs (maxDischargeDepth := 6)
  exact hK _ _ ⟨rfl, rfl⟩
 rintro a σ ⟨rfl, rfl⟩
 obtain ⟨r1, hr1, H⟩ := bindE H
 obtain ⟨r2, hr2, H⟩ := bindE H
 obtain ⟨l3, hl3, H⟩ := bindE H
 have q0 : ∀ σ i, buildSliceA T 29 true i 1 [(0, .agg [.int .i64 18, .int .i64 0, .int .i64 r2, .int .i64 0, .int .i64 8])] σ = some (.fsl (encL rInstr ([(⟨18, 0, r2, 0, 8⟩ : gInstr)] : List gInstr)), σ) := fun _ _ => rfl
 refine AWP_sd tok tokM [9] [3, 10] [0, 1, 2, 4, 5, 6, 3, 7, 8, 9, 10, 11] [2, 7] (fun a σ => ∃ M1 o1 : Nat, N0 + 14 ≤ M1 ∧ N0 + 14 ≤ o1 ∧ o1 < M1 ∧ a = [(2, .int .i64 p2), (7, .sl (N0 + 12) 0 l3.length)] ∧ σ = hp E0 [(N0 + 12, some ⟨47, 5, encL rInstr l3⟩)] M1) (by decide) (fun K hK => ?_) ?_
 ·
  simp only [pickL, nthO_succ, nthO_zero]
  simp -dsimp -implicitDefEqProofs (maxDischargeDepth := 6) [q0, app29 hl3]
  refine (c107_o (H := hr1) ).mono ?_; rintro _ _ ⟨M1, o1, fM1_0, fM1_1, fM1_2, rfl, rfl⟩; simp only [hp_next] at fM1_0 fM1_1 fM1_2
  have eM1_0 := nq (a := o1) (b := N0 + 12) (by omega)
  try simp -dsimp -implicitDefEqProofs (maxDischargeDepth := 6) [q0, app29 hl3, eM1_0, hp_over_some, hp_over_none]
  refine Pc.mk (c105 hr2) ?_; try simp -dsimp -implicitDefEqProofs (maxDischargeDepth := 6) [q0, app29 hl3, eM1_0, hp_over_some, hp_over_none]
  exact hK _ _ ⟨M1, o1, (by omega), (by omega), (by omega), rfl, rfl⟩
 rintro a σ ⟨M1, o1, fM1_0, fM1_1, fM1_2, rfl, rfl⟩
 obtain ⟨l4, hl4, H⟩ := bindE H
 have q1 : ∀ σ i, buildSliceA T 29 true i 1 [(0, .agg [.int .i64 20, .int .i64 0, .int .i64 0, .int .i64 0, .int .i64 (isub .i64 p2 (imul .i64 4 (ilen l3)))])] σ = some (.fsl (encL rInstr ([(⟨20, 0, 0, 0, isub .i64 p2 (imul .i64 4 (ilen l3))⟩ : gInstr)] : List gInstr)), σ) := fun _ _ => rfl
 refine AWP_sr tok [7] [6] (fun a σ => a = [(6, .sl (M1 + 8) 0 l4.length)] ∧ σ = hp E0 [(M1 + 8, some ⟨47, 5, encL rInstr l4⟩)] (M1 + 10)) (fun K hK => ?_) ?_
 ·
  skip
  have e0 := nq (a := N0 + 12) (b := M1 + 8) (by omega)
  have e1 := nq (a := N0 + 4) (b := M1) (by omega)
  simp -dsimp -implicitDefEqProofs (maxDischargeDepth := 6) [e0, e1, q1, app29 hl4]
  exact hK _ _ ⟨rfl, rfl⟩
 rintro a σ ⟨rfl, rfl⟩
 refine gFrz AWP_ref 4 [M1 + 8] [] [(6, .fsl (encL rInstr l4))] (by simp) (cutD (by simp)) ?_
 replace H := Option.some.inj H; subst H
 refine AWP_kp [6] [(6, .fsl (encL rInstr l4))] rfl ?_
 refine AWP_ret ?_
 exact ⟨[.fsl (encL rInstr l4)], by simp, 4, by simp [encL_nil]⟩
theorem c113 {p0 : Int} {r : gInstr} (H : s_l43Box p0 = some r) : APure Tryd.prog G 113 [.int .i64 p0] (.agg [.int .i64 r.Op, .int .i64 r.Rd, .int .i64 r.Rs, .int .i64 r.Rt, .int .i64 r.Imm]) := by
 refine APure_fn (fun N0 => ?_) (by simp)
 refine ACalls_fn tok Tryd.func113 (by kernel_rfl) rfl Tryd.ntmps113 Tryd.results113 rfl ?_
 simp only [argsA, Nat.reduceAdd, hp_next]
 unfold s_l43Box at H
 refine AWP_sr tok [] [0, 2] (fun a σ => a = [(0, .int .i64 p0), (2, .ptr N0 0 0)] ∧ σ = hp E0 [(N0, some ⟨47, 5, [[.int .i64 0, .int .i64 0, .int .i64 0, .int .i64 0, .int .i64 0]]⟩)] (N0 + 1)) (fun K hK => ?_) ?_
 ·
  skip
  simp -dsimp -implicitDefEqProofs (maxDischargeDepth := 6)
  exact hK _ _ ⟨rfl, rfl⟩
 rintro a σ ⟨rfl, rfl⟩
 refine AWP_sr tok [] [2] (fun a σ => a = [(2, .ptr N0 0 0)] ∧ σ = hp E0 [(N0, some ⟨47, 5, [[.int .i64 12, .int .i64 11, .int .i64 0, .int .i64 0, .int .i64 p0]]⟩)] (N0 + 4)) (fun K hK => ?_) ?_
 ·
  skip
  simp -dsimp -implicitDefEqProofs (maxDischargeDepth := 6)
  exact hK _ _ ⟨rfl, rfl⟩
 rintro a σ ⟨rfl, rfl⟩
 replace H := Option.some.inj H; subst H
 refine AWP_kp [2] [(2, .ptr N0 0 0)] rfl ?_
 refine AWP_ret ?_
 exact ⟨[.agg [.int .i64 12, .int .i64 11, .int .i64 0, .int .i64 0, .int .i64 p0]], by simp, 4, by simp [encL_nil]⟩
theorem c112_o {p0 : Int} {p1 : Int} {r : (List gInstr)} (H : s_l43Give_o p0 p1 = some r) {σ : AHeap} : ACalls Tryd.prog G 112 [.int .i64 p0, .int .i64 p1] σ (fun v σ' => ∃ M n0 : Nat, σ.next ≤ M ∧ σ.next ≤ n0 ∧ n0 < M ∧ v = .sl n0 0 r.length ∧ σ' = hp σ.objs [(n0, some ⟨47, 5, encL rInstr r⟩)] M) := by
 refine ACalls_fr (L := []) (Q1 := fun v σ' => ∃ M n0 : Nat, σ.next ≤ M ∧ σ.next ≤ n0 ∧ n0 < M ∧ v = .sl n0 0 r.length ∧ σ' = hp E0 [(n0, some ⟨47, 5, encL rInstr r⟩)] M) (by simp []) (fun hlt => ?_) ?_ ⟨_, Tryd.func112, rfl, rfl⟩
 rotate_left
 ·
  rintro v σ1 ⟨M, n0, h0, h1, h2, rfl, rfl⟩
  exact ⟨_, M, rfl, by simp, by simp; try omega, M, n0, h0, h1, h2, rfl, rfl⟩
 generalize σ.next = N0 at hlt ⊢
 refine ACalls_fn tok Tryd.func112 (by kernel_rfl) rfl Tryd.ntmps112 Tryd.results112 rfl ?_
 simp only [argsA, Nat.reduceAdd, hp_next]
 unfold s_l43Give_o at H
 refine AWP_sr tok [] [0, 1] (fun a σ => a = [(0, .int .i64 p0), (1, .int .i64 p1)] ∧ σ = hp E0 [] (N0 + 1)) (fun K hK => ?_) ?_
 ·
  skip
  simp -dsimp -implicitDefEqProofs (maxDischargeDepth := 6)
  exact hK _ _ ⟨rfl, rfl⟩
 rintro a σ ⟨rfl, rfl⟩
 obtain ⟨r1, hr1, H⟩ := bindE H
 obtain ⟨r2, hr2, H⟩ := bindE H
 obtain ⟨r3, hr3, H⟩ := bindE H
 obtain ⟨l4, hl4, H⟩ := bindE H
 have q0 : ∀ σ i, buildSliceA T 29 true i 1 [(0, .agg [.int .i64 r3.Op, .int .i64 r3.Rd, .int .i64 r3.Rs, .int .i64 r3.Rt, .int .i64 r3.Imm])] σ = some (.fsl (encL rInstr ([r3] : List gInstr)), σ) := fun _ _ => rfl
 refine AWP_sr tok [7] [4] (fun a σ => ∃ M1 o1 : Nat, N0 + 11 ≤ M1 ∧ N0 + 11 ≤ o1 ∧ o1 < M1 ∧ a = [(4, .sl (N0 + 9) 0 l4.length)] ∧ σ = hp E0 [(N0 + 9, some ⟨47, 5, encL rInstr l4⟩)] M1) (fun K hK => ?_) ?_
 ·
  skip
  simp -dsimp -implicitDefEqProofs (maxDischargeDepth := 6) [q0, app29 hl4]
  refine (c107_o (H := hr1) ).mono ?_; rintro _ _ ⟨M1, o1, fM1_0, fM1_1, fM1_2, rfl, rfl⟩; simp only [hp_next] at fM1_0 fM1_1 fM1_2
  have eM1_0 := nq (a := o1) (b := N0 + 9) (by omega)
  try simp -dsimp -implicitDefEqProofs (maxDischargeDepth := 6) [q0, app29 hl4, eM1_0, hp_over_some, hp_over_none]
  refine (c105 hr2).app ?_; try simp -dsimp -implicitDefEqProofs (maxDischargeDepth := 6) [q0, app29 hl4, eM1_0, hp_over_some, hp_over_none]
  refine (c108 hr3).app ?_; try simp -dsimp -implicitDefEqProofs (maxDischargeDepth := 6) [q0, app29 hl4, eM1_0, hp_over_some, hp_over_none]
  exact hK _ _ ⟨M1, o1, (by omega), (by omega), (by omega), rfl, rfl⟩
 rintro a σ ⟨M1, o1, fM1_0, fM1_1, fM1_2, rfl, rfl⟩
 replace H := Option.some.inj H; subst H
 refine AWP_kp [4] [(4, .sl (N0 + 9) 0 l4.length)] rfl ?_
 refine AWP_ret ?_
 refine ⟨[.sl (N0 + 9) 0 l4.length], by simp, M1, N0 + 9, by omega, by omega, by omega, ?_, ?_⟩
 ·
  simp [encL_nil]
 ·
  first | rfl | simp [List.set_set]
theorem c111 {p0 : (List gInstr)} {p1 : Int} {r : (List gInstr)} (H : s_l43Call p0 p1 = some r) {σ : AHeap} {w0 : Nat} (q0 : σ.objs w0 = some ⟨47, 5, encL rInstr p0⟩) : ACalls Tryd.prog G 111 [.sl w0 0 p0.length, .int .i64 p1] σ (fun v σ' => ∃ M : Nat, σ.next ≤ M ∧ v = .fsl (encL rInstr r) ∧ σ' = hp σ.objs [(w0, none)] M) := by
 refine ACalls_fr (L := [(w0, some ⟨47, 5, encL rInstr p0⟩)]) (Q1 := fun v σ' => ∃ M : Nat, σ.next ≤ M ∧ v = .fsl (encL rInstr r) ∧ σ' = hp E0 [(w0, none)] M) (by simp [q0]) (fun hlt => ?_) ?_ ⟨_, Tryd.func111, rfl, rfl⟩
 rotate_left
 ·
  rintro v σ1 ⟨M, h0, rfl, rfl⟩
  exact ⟨_, M, rfl, by simp, by simp; try omega, M, h0, rfl, rfl⟩
 generalize σ.next = N0 at hlt ⊢
 have lw0 : w0 < N0 := hlt _ (.head _) rfl
 refine ACalls_fn tok Tryd.func111 (by kernel_rfl) rfl Tryd.ntmps111 Tryd.results111 rfl ?_
 simp only [argsA, Nat.reduceAdd, hp_next]
 unfold s_l43Call at H
 refine AWP_sr tok [] [0, 1] (fun a σ => a = [(0, .sl w0 0 p0.length), (1, .int .i64 p1)] ∧ σ = hp E0 [(w0, some ⟨47, 5, encL rInstr p0⟩)] (N0 + 1)) (fun K hK => ?_) ?_
 ·
  skip
  simp -dsimp -implicitDefEqProofs (maxDischargeDepth := 6)
  exact hK _ _ ⟨rfl, rfl⟩
 rintro a σ ⟨rfl, rfl⟩
 obtain ⟨l1, hl1, H⟩ := bindE H
 have q0 : ∀ σ i, buildSliceA T 29 true i 1 [(0, .agg [.int .i64 12, .int .i64 17, .int .i64 0, .int .i64 0, .int .i64 p1])] σ = some (.fsl (encL rInstr ([(⟨12, 17, 0, 0, p1⟩ : gInstr)] : List gInstr)), σ) := fun _ _ => rfl
 refine AWP_sr tok [3] [0] (fun a σ => a = [(0, .sl (N0 + 5) 0 l1.length)] ∧ σ = hp E0 [(N0 + 5, some ⟨47, 5, encL rInstr l1⟩)] (N0 + 7)) (fun K hK => ?_) ?_
 ·
  skip
  have e0 := nq (a := w0) (b := N0 + 5) (by omega)
  simp -dsimp -implicitDefEqProofs (maxDischargeDepth := 6) [e0, q0, app29 hl1]
  exact hK _ _ ⟨rfl, rfl⟩
 rintro a σ ⟨rfl, rfl⟩
 obtain ⟨l2, hl2, H⟩ := bindE H
 have q1 : ∀ σ i, buildSliceA T 29 true i 1 [(0, .agg [.int .i64 15, .int .i64 1, .int .i64 0, .int .i64 0, .int .i64 0])] σ = some (.fsl (encL rInstr ([(⟨15, 1, 0, 0, 0⟩ : gInstr)] : List gInstr)), σ) := fun _ _ => rfl
 refine AWP_sr tok [2] [4] (fun a σ => a = [(4, .sl (N0 + 10) 0 l2.length)] ∧ σ = hp E0 [(N0 + 10, some ⟨47, 5, encL rInstr l2⟩)] (N0 + 12)) (fun K hK => ?_) ?_
 ·
  skip
  simp -dsimp -implicitDefEqProofs (maxDischargeDepth := 6) [q1, app29 hl2]
  exact hK _ _ ⟨rfl, rfl⟩
 rintro a σ ⟨rfl, rfl⟩
 refine gFrz AWP_ref 4 [N0 + 10] [] [(4, .fsl (encL rInstr l2))] (by simp) (cutD (by simp)) ?_
 replace H := Option.some.inj H; subst H
 refine AWP_kp [4] [(4, .fsl (encL rInstr l2))] rfl ?_
 refine AWP_ret ?_
 refine ⟨[.fsl (encL rInstr l2)], by simp, N0 + 12, by omega, ?_, ?_⟩
 ·
  simp [encL_nil]
 ·
  symm; first | exact hp_tail (L := []) | (simp only [List.set_set]; exact hp_tail (L := []))
theorem c111_o {p0 : (List gInstr)} {p1 : Int} {r : (List gInstr)} (H : s_l43Call_o p0 p1 = some r) {σ : AHeap} {w0 : Nat} (q0 : σ.objs w0 = some ⟨47, 5, encL rInstr p0⟩) : ACalls Tryd.prog G 111 [.sl w0 0 p0.length, .int .i64 p1] σ (fun v σ' => ∃ M n0 : Nat, σ.next ≤ M ∧ σ.next ≤ n0 ∧ n0 < M ∧ v = .sl n0 0 r.length ∧ σ' = hp σ.objs [(n0, some ⟨47, 5, encL rInstr r⟩), (w0, none)] M) := by
 refine ACalls_fr (L := [(w0, some ⟨47, 5, encL rInstr p0⟩)]) (Q1 := fun v σ' => ∃ M n0 : Nat, σ.next ≤ M ∧ σ.next ≤ n0 ∧ n0 < M ∧ v = .sl n0 0 r.length ∧ σ' = hp E0 [(n0, some ⟨47, 5, encL rInstr r⟩), (w0, none)] M) (by simp [q0]) (fun hlt => ?_) ?_ ⟨_, Tryd.func111, rfl, rfl⟩
 rotate_left
 ·
  rintro v σ1 ⟨M, n0, h0, h1, h2, rfl, rfl⟩
  exact ⟨_, M, rfl, by simp, by simp; try omega, M, n0, h0, h1, h2, rfl, rfl⟩
 generalize σ.next = N0 at hlt ⊢
 have lw0 : w0 < N0 := hlt _ (.head _) rfl
 refine ACalls_fn tok Tryd.func111 (by kernel_rfl) rfl Tryd.ntmps111 Tryd.results111 rfl ?_
 simp only [argsA, Nat.reduceAdd, hp_next]
 unfold s_l43Call_o at H
 refine AWP_sr tok [] [0, 1] (fun a σ => a = [(0, .sl w0 0 p0.length), (1, .int .i64 p1)] ∧ σ = hp E0 [(w0, some ⟨47, 5, encL rInstr p0⟩)] (N0 + 1)) (fun K hK => ?_) ?_
 ·
  skip
  simp -dsimp -implicitDefEqProofs (maxDischargeDepth := 6)
  exact hK _ _ ⟨rfl, rfl⟩
 rintro a σ ⟨rfl, rfl⟩
 obtain ⟨l1, hl1, H⟩ := bindE H
 have q0 : ∀ σ i, buildSliceA T 29 true i 1 [(0, .agg [.int .i64 12, .int .i64 17, .int .i64 0, .int .i64 0, .int .i64 p1])] σ = some (.fsl (encL rInstr ([(⟨12, 17, 0, 0, p1⟩ : gInstr)] : List gInstr)), σ) := fun _ _ => rfl
 refine AWP_sr tok [3] [0] (fun a σ => a = [(0, .sl (N0 + 5) 0 l1.length)] ∧ σ = hp E0 [(N0 + 5, some ⟨47, 5, encL rInstr l1⟩)] (N0 + 7)) (fun K hK => ?_) ?_
 ·
  skip
  have e0 := nq (a := w0) (b := N0 + 5) (by omega)
  simp -dsimp -implicitDefEqProofs (maxDischargeDepth := 6) [e0, q0, app29 hl1]
  exact hK _ _ ⟨rfl, rfl⟩
 rintro a σ ⟨rfl, rfl⟩
 obtain ⟨l2, hl2, H⟩ := bindE H
 have q1 : ∀ σ i, buildSliceA T 29 true i 1 [(0, .agg [.int .i64 15, .int .i64 1, .int .i64 0, .int .i64 0, .int .i64 0])] σ = some (.fsl (encL rInstr ([(⟨15, 1, 0, 0, 0⟩ : gInstr)] : List gInstr)), σ) := fun _ _ => rfl
 refine AWP_sr tok [2] [4] (fun a σ => a = [(4, .sl (N0 + 10) 0 l2.length)] ∧ σ = hp E0 [(N0 + 10, some ⟨47, 5, encL rInstr l2⟩)] (N0 + 12)) (fun K hK => ?_) ?_
 ·
  skip
  simp -dsimp -implicitDefEqProofs (maxDischargeDepth := 6) [q1, app29 hl2]
  exact hK _ _ ⟨rfl, rfl⟩
 rintro a σ ⟨rfl, rfl⟩
 replace H := Option.some.inj H; subst H
 refine AWP_kp [4] [(4, .sl (N0 + 10) 0 l2.length)] rfl ?_
 refine AWP_ret ?_
 refine ⟨[.sl (N0 + 10) 0 l2.length], by simp, N0 + 12, N0 + 10, by omega, by omega, by omega, ?_, ?_⟩
 ·
  simp [encL_nil]
 ·
  symm; first | exact hp_tail (L := [(N0 + 10, some ⟨47, 5, encL rInstr l2⟩)]) | (simp only [List.set_set]; exact hp_tail (L := [(N0 + 10, some ⟨47, 5, encL rInstr l2⟩)]))
theorem c66 {p0 : gQuad} {p1 : Int} {p2 : Int} {r : (List gInstr)} (H : s_l43Quad p0 p1 p2 = some r) : APure Tryd.prog G 66 [.agg [.int .i64 p0.Op, .int .i64 p0.Dst, .int .i64 p0.A, .int .i64 p0.B, .int .i64 p0.N], .int .i64 p1, .int .i64 p2] (.fsl (encL rInstr r)) := by
 refine APure_fn (fun N0 => ?_) (by simp)
 refine ACalls_fn tok Tryd.func66 (by kernel_rfl) rfl Tryd.ntmps66 Tryd.results66 rfl ?_
 simp only [argsA, Nat.reduceAdd, hp_next]
 unfold s_l43Quad at H
 refine AWP_sr tok [0] [1, 2, 3] (fun a σ => a = [(1, .int .i64 p1), (2, .int .i64 p2), (3, .fptr [.int .i64 p0.Op, .int .i64 p0.Dst, .int .i64 p0.A, .int .i64 p0.B, .int .i64 p0.N] 0)] ∧ σ = hp E0 [] (N0 + 2)) (fun K hK => ?_) ?_
 ·
  skip
  simp -dsimp -implicitDefEqProofs (maxDischargeDepth := 6)
  exact hK _ _ ⟨rfl, rfl⟩
 rintro a σ ⟨rfl, rfl⟩
 obtain ⟨r1, hr1, H⟩ := bindE H
 refine AWP_sr tok [] [1, 2, 3, 7] (fun a σ => a = [(1, .int .i64 p1), (2, .int .i64 p2), (3, .fptr [.int .i64 p0.Op, .int .i64 p0.Dst, .int .i64 p0.A, .int .i64 p0.B, .int .i64 p0.N] 0), (7, .int .i64 r1)] ∧ σ = hp E0 [] (N0 + 7)) (fun K hK => ?_) ?_
 ·
  skip
  simp -dsimp -implicitDefEqProofs (maxDischargeDepth := 6)
  refine (c105 hr1).app ?_; try simp -dsimp -implicitDefEqProofs (maxDischargeDepth := 6)
  exact hK _ _ ⟨rfl, rfl⟩
 rintro a σ ⟨rfl, rfl⟩
 refine AWP_sq [] fun K1 hK1 => ?_
 refine AWP_sr tok [] [1, 2, 3, 7, 14] (fun a σ => a = [(1, .int .i64 p1), (2, .int .i64 p2), (3, .fptr [.int .i64 p0.Op, .int .i64 p0.Dst, .int .i64 p0.A, .int .i64 p0.B, .int .i64 p0.N] 0), (7, .int .i64 r1), (14, .int .i64 p0.Op)] ∧ σ = hp E0 [] (N0 + 9)) (fun K hK => ?_) ?_
 ·
  skip
  simp -dsimp -implicitDefEqProofs (maxDischargeDepth := 6)
  exact hK _ _ ⟨rfl, rfl⟩
 rintro a σ ⟨rfl, rfl⟩
 refine AWP_block (AWP_thenB ?_)
 refine AWP_sr tok [] [1, 2, 3, 7, 14, 15] (fun a σ => a = [(1, .int .i64 p1), (2, .int .i64 p2), (3, .fptr [.int .i64 p0.Op, .int .i64 p0.Dst, .int .i64 p0.A, .int .i64 p0.B, .int .i64 p0.N] 0), (7, .int .i64 r1), (14, .int .i64 p0.Op), (15, .bool (ieq p0.Op 1))] ∧ σ = hp E0 [] (N0 + 11)) (fun K hK => ?_) ?_
 ·
  skip
  simp -dsimp -implicitDefEqProofs (maxDischargeDepth := 6)
  exact hK _ _ ⟨rfl, rfl⟩
 rintro a σ ⟨rfl, rfl⟩
 refine AWP_cond (ieq p0.Op 1) rfl (fun C1 => ?_) (fun C1 => ?_)
 ·
  replace H := ifT C1 H
  obtain ⟨r2, hr2, H⟩ := bindE H
  obtain ⟨r3, hr3, H⟩ := bindE H
  refine AWP_sd tok tokM [] [3, 7] [0, 1, 2, 4, 5, 6, 3, 7, 8] [6] (fun a σ => ∃ M1 o1 : Nat, ∃ M2 : Nat, N0 + 20 ≤ M1 ∧ N0 + 20 ≤ o1 ∧ o1 < M1 ∧ M1 ≤ M2 ∧ a = [(6, .fsl (encL rInstr r3))] ∧ σ = hp E0 [] M2) (by decide) (fun K hK => ?_) ?_
  ·
   simp only [pickL, nthO_succ, nthO_zero]
   simp -dsimp -implicitDefEqProofs (maxDischargeDepth := 6)
   refine (c76_o (H := hr2) ).mono ?_; rintro _ _ ⟨M1, o1, fM1_0, fM1_1, fM1_2, rfl, rfl⟩; simp only [hp_next] at fM1_0 fM1_1 fM1_2
   try simp -dsimp -implicitDefEqProofs (maxDischargeDepth := 6) [hp_over_some, hp_over_none]
   refine (c106 (H := hr3) (by simp [hp_over_some, hp_over_none])).mono ?_; rintro _ _ ⟨M2, fM2_0, rfl, rfl⟩; simp only [hp_next] at fM2_0
   try simp -dsimp -implicitDefEqProofs (maxDischargeDepth := 6) [hp_over_some, hp_over_none, hp_over_some, hp_over_none]
   exact hK _ _ ⟨M1, o1, M2, (by omega), (by omega), (by omega), (by omega), rfl, rfl⟩
  rintro a σ ⟨M1, o1, M2, fM1_0, fM1_1, fM1_2, fM2_0, rfl, rfl⟩
  replace H := Option.some.inj H; subst H
  refine AWP_kp [6] [(6, .fsl (encL rInstr r3))] rfl ?_
  refine AWP_ret ?_
  exact ⟨[.fsl (encL rInstr r3)], by simp, 4, by simp [encL_nil]⟩
 ·
  replace H := ifF C1 H
  refine AWP_sr tok [] [1, 2, 3, 7, 14, 25] (fun a σ => a = [(1, .int .i64 p1), (2, .int .i64 p2), (3, .fptr [.int .i64 p0.Op, .int .i64 p0.Dst, .int .i64 p0.A, .int .i64 p0.B, .int .i64 p0.N] 0), (7, .int .i64 r1), (14, .int .i64 p0.Op), (25, .bool (ieq p0.Op 2))] ∧ σ = hp E0 [] (N0 + 13)) (fun K hK => ?_) ?_
  ·
   skip
   simp -dsimp -implicitDefEqProofs (maxDischargeDepth := 6)
   exact hK _ _ ⟨rfl, rfl⟩
  rintro a σ ⟨rfl, rfl⟩
  refine AWP_cond (ieq p0.Op 2) rfl (fun C2 => ?_) (fun C2 => ?_)
  ·
   replace H := ifT C2 H
   obtain ⟨r4, hr4, H⟩ := bindE H
   obtain ⟨r5, hr5, H⟩ := bindE H
   obtain ⟨r6, hr6, H⟩ := bindE H
   obtain ⟨l7, hl7, H⟩ := bindE H
   obtain ⟨r8, hr8, H⟩ := bindE H
   have q0 : ∀ σ i, buildSliceA T 29 true i 1 [(0, .agg [.int .i64 r6.Op, .int .i64 r6.Rd, .int .i64 r6.Rs, .int .i64 r6.Rt, .int .i64 r6.Imm])] σ = some (.fsl (encL rInstr ([r6] : List gInstr)), σ) := fun _ _ => rfl
   refine AWP_sd tok tokM [10] [3, 11, 15] [0, 1, 2, 4, 5, 6, 7, 12, 13, 14, 3, 8, 9, 10, 11, 15, 16] [6] (fun a σ => ∃ M3 o2 : Nat, ∃ M4 : Nat, N0 + 30 ≤ M3 ∧ N0 + 30 ≤ o2 ∧ o2 < M3 ∧ M3 ≤ M4 ∧ a = [(6, .fsl (encL rInstr r8))] ∧ σ = hp E0 [] M4) (by decide) (fun K hK => ?_) ?_
   ·
    simp only [pickL, nthO_succ, nthO_zero]
    simp -dsimp -implicitDefEqProofs (maxDischargeDepth := 6) [q0, app29 hl7]
    refine (c107_o (H := hr4) ).mono ?_; rintro _ _ ⟨M3, o2, fM3_0, fM3_1, fM3_2, rfl, rfl⟩; simp only [hp_next] at fM3_0 fM3_1 fM3_2
    have eM3_0 := nq (a := o2) (b := N0 + 24) (by omega)
    try simp -dsimp -implicitDefEqProofs (maxDischargeDepth := 6) [q0, app29 hl7, eM3_0, hp_over_some, hp_over_none]
    refine Pc.mk (c105 hr5) ?_; try simp -dsimp -implicitDefEqProofs (maxDischargeDepth := 6) [q0, app29 hl7, eM3_0, hp_over_some, hp_over_none]
    refine Pc.mk (c108 hr6) ?_; try simp -dsimp -implicitDefEqProofs (maxDischargeDepth := 6) [q0, app29 hl7, eM3_0, hp_over_some, hp_over_none]
    refine (c106 (H := hr8) (by simp [q0, app29 hl7, eM3_0, hp_over_some, hp_over_none])).mono ?_; rintro _ _ ⟨M4, fM4_0, rfl, rfl⟩; simp only [hp_next] at fM4_0
    try simp -dsimp -implicitDefEqProofs (maxDischargeDepth := 6) [q0, app29 hl7, eM3_0, hp_over_some, hp_over_none, hp_over_some, hp_over_none]
    exact hK _ _ ⟨M3, o2, M4, (by omega), (by omega), (by omega), (by omega), rfl, rfl⟩
   rintro a σ ⟨M3, o2, M4, fM3_0, fM3_1, fM3_2, fM4_0, rfl, rfl⟩
   refine gFrz AWP_ref 4 [] [] [(6, .fsl (encL rInstr r8))] (by simp) (cutD (by simp)) ?_
   replace H := Option.some.inj H; subst H
   refine AWP_kp [6] [(6, .fsl (encL rInstr r8))] rfl ?_
   refine AWP_ret ?_
   exact ⟨[.fsl (encL rInstr r8)], by simp, 4, by simp [encL_nil]⟩
  ·
   replace H := ifF C2 H
   refine AWP_sr tok [] [1, 2, 3, 7, 14, 43] (fun a σ => a = [(1, .int .i64 p1), (2, .int .i64 p2), (3, .fptr [.int .i64 p0.Op, .int .i64 p0.Dst, .int .i64 p0.A, .int .i64 p0.B, .int .i64 p0.N] 0), (7, .int .i64 r1), (14, .int .i64 p0.Op), (43, .bool (ieq p0.Op 3))] ∧ σ = hp E0 [] (N0 + 15)) (fun K hK => ?_) ?_
   ·
    skip
    simp -dsimp -implicitDefEqProofs (maxDischargeDepth := 6)
    exact hK _ _ ⟨rfl, rfl⟩
   rintro a σ ⟨rfl, rfl⟩
   refine AWP_cond (ieq p0.Op 3) rfl (fun C3 => ?_) (fun C3 => ?_)
   ·
    replace H := ifT C3 H
    obtain ⟨r9, hr9, H⟩ := bindE H
    refine AWP_sr tok [] [6] (fun a σ => a = [(6, .fsl (encL rInstr r9))] ∧ σ = hp E0 [] (N0 + 19)) (fun K hK => ?_) ?_
    ·
     skip
     simp -dsimp -implicitDefEqProofs (maxDischargeDepth := 6)
     refine (c109 hr9).app ?_; try simp -dsimp -implicitDefEqProofs (maxDischargeDepth := 6)
     exact hK _ _ ⟨rfl, rfl⟩
    rintro a σ ⟨rfl, rfl⟩
    replace H := Option.some.inj H; subst H
    refine AWP_kp [6] [(6, .fsl (encL rInstr r9))] rfl ?_
    refine AWP_ret ?_
    exact ⟨[.fsl (encL rInstr r9)], by simp, 4, by simp [encL_nil]⟩
   ·
    replace H := ifF C3 H
    refine AWP_sr tok [] [1, 2, 3, 7, 14, 48] (fun a σ => a = [(1, .int .i64 p1), (2, .int .i64 p2), (3, .fptr [.int .i64 p0.Op, .int .i64 p0.Dst, .int .i64 p0.A, .int .i64 p0.B, .int .i64 p0.N] 0), (7, .int .i64 r1), (14, .int .i64 p0.Op), (48, .bool (ieq p0.Op 4))] ∧ σ = hp E0 [] (N0 + 17)) (fun K hK => ?_) ?_
    ·
     skip
     simp -dsimp -implicitDefEqProofs (maxDischargeDepth := 6)
     exact hK _ _ ⟨rfl, rfl⟩
    rintro a σ ⟨rfl, rfl⟩
    refine AWP_cond (ieq p0.Op 4) rfl (fun C4 => ?_) (fun C4 => ?_)
    ·
     replace H := ifT C4 H
     have q1 : ∀ σ i, buildSliceA T 29 true i 1 [(0, .agg [.int .i64 20, .int .i64 0, .int .i64 0, .int .i64 0, .int .i64 p2])] σ = some (.fsl (encL rInstr ([(⟨20, 0, 0, 0, p2⟩ : gInstr)] : List gInstr)), σ) := fun _ _ => rfl
     refine AWP_sr tok [2] [6] (fun a σ => a = [(6, .fsl (encL rInstr ([(⟨20, 0, 0, 0, p2⟩ : gInstr)] : List gInstr)))] ∧ σ = hp E0 [] (N0 + 21)) (fun K hK => ?_) ?_
     ·
      skip
      simp -dsimp -implicitDefEqProofs (maxDischargeDepth := 6) [q1]
      exact hK _ _ ⟨rfl, rfl⟩
     rintro a σ ⟨rfl, rfl⟩
     replace H := Option.some.inj H; subst H
     refine AWP_kp [6] [(6, .fsl (encL rInstr ([(⟨20, 0, 0, 0, p2⟩ : gInstr)] : List gInstr)))] rfl ?_
     refine AWP_ret ?_
     exact ⟨[.fsl (encL rInstr ([(⟨20, 0, 0, 0, p2⟩ : gInstr)] : List gInstr))], by simp, 4, by simp [encL_nil]⟩
    ·
     replace H := ifF C4 H
     refine AWP_sr tok [] [1, 2, 3, 7, 14, 53] (fun a σ => a = [(1, .int .i64 p1), (2, .int .i64 p2), (3, .fptr [.int .i64 p0.Op, .int .i64 p0.Dst, .int .i64 p0.A, .int .i64 p0.B, .int .i64 p0.N] 0), (7, .int .i64 r1), (14, .int .i64 p0.Op), (53, .bool (ieq p0.Op 5))] ∧ σ = hp E0 [] (N0 + 19)) (fun K hK => ?_) ?_
     ·
      skip
      simp -dsimp -implicitDefEqProofs (maxDischargeDepth := 6)
      exact hK _ _ ⟨rfl, rfl⟩
     rintro a σ ⟨rfl, rfl⟩
     refine AWP_cond (ieq p0.Op 5) rfl (fun C5 => ?_) (fun C5 => ?_)
     ·
      replace H := ifT C5 H
      obtain ⟨r10, hr10, H⟩ := bindE H
      refine AWP_sr tok [] [6] (fun a σ => a = [(6, .fsl (encL rInstr r10))] ∧ σ = hp E0 [] (N0 + 24)) (fun K hK => ?_) ?_
      ·
       skip
       simp -dsimp -implicitDefEqProofs (maxDischargeDepth := 6)
       refine (c110 hr10).app ?_; try simp -dsimp -implicitDefEqProofs (maxDischargeDepth := 6)
       exact hK _ _ ⟨rfl, rfl⟩
      rintro a σ ⟨rfl, rfl⟩
      replace H := Option.some.inj H; subst H
      refine AWP_kp [6] [(6, .fsl (encL rInstr r10))] rfl ?_
      refine AWP_ret ?_
      exact ⟨[.fsl (encL rInstr r10)], by simp, 4, by simp [encL_nil]⟩
     ·
      replace H := ifF C5 H
      refine AWP_sr tok [] [1, 3, 7, 14, 59] (fun a σ => a = [(1, .int .i64 p1), (3, .fptr [.int .i64 p0.Op, .int .i64 p0.Dst, .int .i64 p0.A, .int .i64 p0.B, .int .i64 p0.N] 0), (7, .int .i64 r1), (14, .int .i64 p0.Op), (59, .bool (ieq p0.Op 6))] ∧ σ = hp E0 [] (N0 + 21)) (fun K hK => ?_) ?_
      ·
       skip
       simp -dsimp -implicitDefEqProofs (maxDischargeDepth := 6)
       exact hK _ _ ⟨rfl, rfl⟩
      rintro a σ ⟨rfl, rfl⟩
      refine AWP_cond (ieq p0.Op 6) rfl (fun C6 => ?_) (fun C6 => ?_)
      ·
       replace H := ifT C6 H
       obtain ⟨r11, hr11, H⟩ := bindE H
       obtain ⟨r12, hr12, H⟩ := bindE H
       obtain ⟨l13, hl13, H⟩ := bindE H
       obtain ⟨r14, hr14, H⟩ := bindE H
       have q2 : ∀ σ i, buildSliceA T 29 true i 1 [(0, .agg [.int .i64 r12.Op, .int .i64 r12.Rd, .int .i64 r12.Rs, .int .i64 r12.Rt, .int .i64 r12.Imm])] σ = some (.fsl (encL rInstr ([r12] : List gInstr)), σ) := fun _ _ => rfl
       refine AWP_sd tok tokM [7] [3, 8, 9] [0, 1, 2, 4, 5, 3, 6, 7, 8, 9, 10] [6] (fun a σ => ∃ M5 o3 : Nat, ∃ M6 : Nat, N0 + 32 ≤ M5 ∧ N0 + 32 ≤ o3 ∧ o3 < M5 ∧ M5 ≤ M6 ∧ a = [(6, .fsl (encL rInstr r14))] ∧ σ = hp E0 [] M6) (by decide) (fun K hK => ?_) ?_
       ·
        simp only [pickL, nthO_succ, nthO_zero]
        simp -dsimp -implicitDefEqProofs (maxDischargeDepth := 6) [q2, app29 hl13]
        refine (c112_o (H := hr11) ).mono ?_; rintro _ _ ⟨M5, o3, fM5_0, fM5_1, fM5_2, rfl, rfl⟩; simp only [hp_next] at fM5_0 fM5_1 fM5_2
        have eM5_0 := nq (a := o3) (b := N0 + 29) (by omega)
        try simp -dsimp -implicitDefEqProofs (maxDischargeDepth := 6) [q2, app29 hl13, eM5_0, hp_over_some, hp_over_none]
        refine Pc.mk (c113 hr12) ?_; try simp -dsimp -implicitDefEqProofs (maxDischargeDepth := 6) [q2, app29 hl13, eM5_0, hp_over_some, hp_over_none]
        refine (c111 (H := hr14) (by simp [q2, app29 hl13, eM5_0, hp_over_some, hp_over_none])).mono ?_; rintro _ _ ⟨M6, fM6_0, rfl, rfl⟩; simp only [hp_next] at fM6_0
        try simp -dsimp -implicitDefEqProofs (maxDischargeDepth := 6) [q2, app29 hl13, eM5_0, hp_over_some, hp_over_none, hp_over_some, hp_over_none]
        exact hK _ _ ⟨M5, o3, M6, (by omega), (by omega), (by omega), (by omega), rfl, rfl⟩
       rintro a σ ⟨M5, o3, M6, fM5_0, fM5_1, fM5_2, fM6_0, rfl, rfl⟩
       refine gFrz AWP_ref 4 [] [] [(6, .fsl (encL rInstr r14))] (by simp) (cutD (by simp)) ?_
       replace H := Option.some.inj H; subst H
       refine AWP_kp [6] [(6, .fsl (encL rInstr r14))] rfl ?_
       refine AWP_ret ?_
       exact ⟨[.fsl (encL rInstr r14)], by simp, 4, by simp [encL_nil]⟩
      ·
       replace H := ifF C6 H
       refine AWP_sr tok [] [1, 3, 7, 14, 71] (fun a σ => a = [(1, .int .i64 p1), (3, .fptr [.int .i64 p0.Op, .int .i64 p0.Dst, .int .i64 p0.A, .int .i64 p0.B, .int .i64 p0.N] 0), (7, .int .i64 r1), (14, .int .i64 p0.Op), (71, .bool (ieq p0.Op 7))] ∧ σ = hp E0 [] (N0 + 23)) (fun K hK => ?_) ?_
       ·
        skip
        simp -dsimp -implicitDefEqProofs (maxDischargeDepth := 6)
        exact hK _ _ ⟨rfl, rfl⟩
       rintro a σ ⟨rfl, rfl⟩
       refine AWP_cond (ieq p0.Op 7) rfl (fun C7 => ?_) (fun C7 => ?_)
       ·
        replace H := ifT C7 H
        obtain ⟨r15, hr15, H⟩ := bindE H
        obtain ⟨l16, hl16, H⟩ := bindE H
        obtain ⟨r17, hr17, H⟩ := bindE H
        have q3 : ∀ σ i, buildSliceA T 29 false i 1 [(0, .agg [.int .i64 r15.Op, .int .i64 r15.Rd, .int .i64 r15.Rs, .int .i64 r15.Rt, .int .i64 r15.Imm])] σ = some (.sl i 0 (List.length l16), σ.put i ⟨47, 5, encL rInstr l16⟩) := by rw [← Option.some.inj hl16]; intro _ _; rfl
        refine AWP_sr tok [] [1, 3, 7, 8] (fun a σ => ∃ M7 o4 : Nat, N0 + 29 ≤ M7 ∧ N0 + 29 ≤ o4 ∧ o4 < M7 ∧ a = [(1, .int .i64 p1), (3, .fptr [.int .i64 p0.Op, .int .i64 p0.Dst, .int .i64 p0.A, .int .i64 p0.B, .int .i64 p0.N] 0), (7, .int .i64 r1), (8, .sl o4 0 r17.length)] ∧ σ = hp E0 [(o4, some ⟨47, 5, encL rInstr r17⟩)] M7) (fun K hK => ?_) ?_
        ·
         skip
         simp -dsimp -implicitDefEqProofs (maxDischargeDepth := 6) [q3]
         refine (c113 hr15).app ?_; try simp -dsimp -implicitDefEqProofs (maxDischargeDepth := 6) [q3]
         refine (c111_o (H := hr17) (by simp [q3])).mono ?_; rintro _ _ ⟨M7, o4, fM7_0, fM7_1, fM7_2, rfl, rfl⟩; simp only [hp_next] at fM7_0 fM7_1 fM7_2
         have eM7_0 := nq (a := o4) (b := N0 + 26) (by omega)
         try simp -dsimp -implicitDefEqProofs (maxDischargeDepth := 6) [q3, eM7_0, hp_over_some, hp_over_none]
         exact hK _ _ ⟨M7, o4, (by omega), (by omega), (by omega), rfl, rfl⟩
        rintro a σ ⟨M7, o4, fM7_0, fM7_1, fM7_2, rfl, rfl⟩
        obtain ⟨r18, hr18, H⟩ := bindE H
        obtain ⟨l19, hl19, H⟩ := bindE H
        obtain ⟨r20, hr20, H⟩ := bindE H
        have q4 : ∀ σ i, buildSliceA T 29 true i 1 [(0, .agg [.int .i64 r18.Op, .int .i64 r18.Rd, .int .i64 r18.Rs, .int .i64 r18.Rt, .int .i64 r18.Imm])] σ = some (.fsl (encL rInstr ([r18] : List gInstr)), σ) := fun _ _ => rfl
        refine AWP_sd tok tokM [3] [4, 8] [0, 1, 2, 3, 5, 6, 7, 4, 8, 9] [6] (fun a σ => ∃ M8 : Nat, M7 + 10 ≤ M8 ∧ a = [(6, .fsl (encL rInstr r20))] ∧ σ = hp E0 [] M8) (by decide) (fun K hK => ?_) ?_
        ·
         simp only [pickL, nthO_succ, nthO_zero]
         have e0 := nq (a := o4) (b := M7 + 4) (by omega)
         simp -dsimp -implicitDefEqProofs (maxDischargeDepth := 6) [e0, q4, app29 hl19]
         refine Pc.mk (c108 hr18) ?_; try simp -dsimp -implicitDefEqProofs (maxDischargeDepth := 6) [e0, q4, app29 hl19]
         refine (c106 (H := hr20) (by simp [e0, q4, app29 hl19])).mono ?_; rintro _ _ ⟨M8, fM8_0, rfl, rfl⟩; simp only [hp_next] at fM8_0
         try simp -dsimp -implicitDefEqProofs (maxDischargeDepth := 6) [e0, q4, app29 hl19, hp_over_some, hp_over_none]
         exact hK _ _ ⟨M8, (by omega), rfl, rfl⟩
        rintro a σ ⟨M8, fM8_0, rfl, rfl⟩
        refine gFrz AWP_ref 4 [] [] [(6, .fsl (encL rInstr r20))] (by simp) (cutD (by simp)) ?_
        replace H := Option.some.inj H; subst H
        refine AWP_kp [6] [(6, .fsl (encL rInstr r20))] rfl ?_
        refine AWP_ret ?_
        exact ⟨[.fsl (encL rInstr r20)], by simp, 4, by simp [encL_nil]⟩
       ·
        replace H := ifF C7 H
        refine AWP_sr tok [] [1, 3, 14, 87] (fun a σ => a = [(1, .int .i64 p1), (3, .fptr [.int .i64 p0.Op, .int .i64 p0.Dst, .int .i64 p0.A, .int .i64 p0.B, .int .i64 p0.N] 0), (14, .int .i64 p0.Op), (87, .bool (ieq p0.Op 8))] ∧ σ = hp E0 [] (N0 + 25)) (fun K hK => ?_) ?_
        ·
         skip
         simp -dsimp -implicitDefEqProofs (maxDischargeDepth := 6)
         exact hK _ _ ⟨rfl, rfl⟩
        rintro a σ ⟨rfl, rfl⟩
        refine AWP_cond (ieq p0.Op 8) rfl (fun C8 => ?_) (fun C8 => ?_)
        ·
         replace H := ifT C8 H
         obtain ⟨l21, hl21, H⟩ := bindE H
         obtain ⟨r22, hr22, H⟩ := bindE H
         have q5 : ∀ σ i, buildSliceA T 29 false i 0 [] σ = some (.sl i 0 (List.length l21), σ.put i ⟨47, 5, encL rInstr l21⟩) := by rw [← Option.some.inj hl21]; intro _ _; rfl
         refine AWP_sr tok [] [6] (fun a σ => ∃ M9 : Nat, N0 + 28 ≤ M9 ∧ a = [(6, .fsl (encL rInstr r22))] ∧ σ = hp E0 [] M9) (fun K hK => ?_) ?_
         ·
          skip
          simp -dsimp -implicitDefEqProofs (maxDischargeDepth := 6) [q5]
          refine (c111 (H := hr22) (by simp [q5])).mono ?_; rintro _ _ ⟨M9, fM9_0, rfl, rfl⟩; simp only [hp_next] at fM9_0
          try simp -dsimp -implicitDefEqProofs (maxDischargeDepth := 6) [q5, hp_over_some, hp_over_none]
          exact hK _ _ ⟨M9, (by omega), rfl, rfl⟩
         rintro a σ ⟨M9, fM9_0, rfl, rfl⟩
         replace H := Option.some.inj H; subst H
         refine AWP_kp [6] [(6, .fsl (encL rInstr r22))] rfl ?_
         refine AWP_ret ?_
         exact ⟨[.fsl (encL rInstr r22)], by simp, 4, by simp [encL_nil]⟩
        ·
         replace H := ifF C8 H
         refine AWP_sr tok [] [1, 3, 91] (fun a σ => a = [(1, .int .i64 p1), (3, .fptr [.int .i64 p0.Op, .int .i64 p0.Dst, .int .i64 p0.A, .int .i64 p0.B, .int .i64 p0.N] 0), (91, .bool (ieq p0.Op 9))] ∧ σ = hp E0 [] (N0 + 27)) (fun K hK => ?_) ?_
         ·
          skip
          simp -dsimp -implicitDefEqProofs (maxDischargeDepth := 6)
          exact hK _ _ ⟨rfl, rfl⟩
         rintro a σ ⟨rfl, rfl⟩
         refine AWP_cond (ieq p0.Op 9) rfl (fun C9 => ?_) (fun C9 => ?_)
         ·
          replace H := ifT C9 H
          obtain ⟨r23, hr23, H⟩ := bindE H
          obtain ⟨r24, hr24, H⟩ := bindE H
          refine AWP_sr tok [] [6] (fun a σ => ∃ M10 o5 : Nat, ∃ M11 : Nat, N0 + 33 ≤ M10 ∧ N0 + 33 ≤ o5 ∧ o5 < M10 ∧ M10 ≤ M11 ∧ a = [(6, .fsl (encL rInstr r24))] ∧ σ = hp E0 [] M11) (fun K hK => ?_) ?_
          ·
           skip
           simp -dsimp -implicitDefEqProofs (maxDischargeDepth := 6)
           refine (c112_o (H := hr23) ).mono ?_; rintro _ _ ⟨M10, o5, fM10_0, fM10_1, fM10_2, rfl, rfl⟩; simp only [hp_next] at fM10_0 fM10_1 fM10_2
           try simp -dsimp -implicitDefEqProofs (maxDischargeDepth := 6) [hp_over_some, hp_over_none]
           refine (c111 (H := hr24) (by simp [hp_over_some, hp_over_none])).mono ?_; rintro _ _ ⟨M11, fM11_0, rfl, rfl⟩; simp only [hp_next] at fM11_0
           try simp -dsimp -implicitDefEqProofs (maxDischargeDepth := 6) [hp_over_some, hp_over_none, hp_over_some, hp_over_none]
           exact hK _ _ ⟨M10, o5, M11, (by omega), (by omega), (by omega), (by omega), rfl, rfl⟩
          rintro a σ ⟨M10, o5, M11, fM10_0, fM10_1, fM10_2, fM11_0, rfl, rfl⟩
          replace H := Option.some.inj H; subst H
          refine AWP_kp [6] [(6, .fsl (encL rInstr r24))] rfl ?_
          refine AWP_ret ?_
          exact ⟨[.fsl (encL rInstr r24)], by simp, 4, by simp [encL_nil]⟩
         ·
          replace H := ifF C9 H
          refine AWP_skip ?_
          show K1 _ _
          refine keepE (l := []) (x := []) rfl fun a' ha => ?_
          refine hK1 _ _ ?_; rw [ha]
          refine Rc.mk ?_
          obtain ⟨l25, hl25, H⟩ := bindE H
          obtain ⟨r26, hr26, H⟩ := bindE H
          have q6 : ∀ σ i, buildSliceA T 29 false i 0 [] σ = some (.sl i 0 (List.length l25), σ.put i ⟨47, 5, encL rInstr l25⟩) := by rw [← Option.some.inj hl25]; intro _ _; rfl
          refine AWP_sr tok [] [6] (fun a σ => ∃ M12 : Nat, N0 + 30 ≤ M12 ∧ a = [(6, .fsl (encL rInstr r26))] ∧ σ = hp E0 [] M12) (fun K hK => ?_) ?_
          ·
           skip
           simp -dsimp -implicitDefEqProofs (maxDischargeDepth := 6) [q6]
           refine (c111 (H := hr26) (by simp [q6])).mono ?_; rintro _ _ ⟨M12, fM12_0, rfl, rfl⟩; simp only [hp_next] at fM12_0
           try simp -dsimp -implicitDefEqProofs (maxDischargeDepth := 6) [q6, hp_over_some, hp_over_none]
           exact hK _ _ ⟨M12, (by omega), rfl, rfl⟩
          rintro a σ ⟨M12, fM12_0, rfl, rfl⟩
          replace H := Option.some.inj H; subst H
          refine AWP_kp [6] [(6, .fsl (encL rInstr r26))] rfl ?_
          refine AWP_ret ?_
          exact ⟨[.fsl (encL rInstr r26)], by simp, 4, by simp [encL_nil]⟩
theorem c114 {p0 : Int} {r : Bool} (H : i_isReg p0 = some r) : APure Tryd.prog G 114 [.int .i64 p0] (.bool r) := by
 refine APure_fn (fun N0 => ?_) (by simp)
 refine ACalls_fn tok Tryd.func114 (by kernel_rfl) rfl Tryd.ntmps114 Tryd.results114 rfl ?_
 simp only [argsA, Nat.reduceAdd, hp_next]
 unfold i_isReg at H
 refine AWP_sr tok [] [0] (fun a σ => a = [(0, .int .i64 p0)] ∧ σ = hp E0 [] (N0 + 1)) (fun K hK => ?_) ?_
 ·
  skip
  simp -dsimp -implicitDefEqProofs (maxDischargeDepth := 6)
  exact hK _ _ ⟨rfl, rfl⟩
 rintro a σ ⟨rfl, rfl⟩
 obtain ⟨g1, hg1, H⟩ := bindE H
 refine AWP_sr tok [] [2] (fun a σ => a = [(2, .bool g1)] ∧ σ = hp E0 [] (N0 + 8)) (fun K hK => ?_) ?_
 ·
  skip
  simp -dsimp -implicitDefEqProofs (maxDischargeDepth := 6)
  cases hbg1 : ige p0 0
  ·
   replace hg1 := ifF hbg1 hg1
   replace hg1 := Option.some.inj hg1; subst hg1
   try simp -dsimp -implicitDefEqProofs (maxDischargeDepth := 6) [hbg1]
   exact hK _ _ ⟨rfl, rfl⟩
  ·
   replace hg1 := ifT hbg1 hg1
   replace hg1 := Option.some.inj hg1; subst hg1
   try simp -dsimp -implicitDefEqProofs (maxDischargeDepth := 6) [hbg1]
   exact hK _ _ ⟨rfl, rfl⟩
 rintro a σ ⟨rfl, rfl⟩
 replace H := Option.some.inj H; subst H
 refine AWP_kp [2] [(2, .bool g1)] rfl ?_
 refine AWP_ret ?_
 exact ⟨[.bool g1], by simp, 4, by simp [encL_nil]⟩
theorem c73 {p0 : Int} {r : Bool} (H : i_WordValid p0 = some r) : APure Tryd.prog G 73 [.int .i64 p0] (.bool r) := by
 refine APure_fn (fun N0 => ?_) (by simp)
 refine ACalls_fn tok Tryd.func73 (by kernel_rfl) rfl Tryd.ntmps73 Tryd.results73 rfl ?_
 simp only [argsA, Nat.reduceAdd, hp_next]
 unfold i_WordValid at H
 refine AWP_sr tok [] [0] (fun a σ => a = [(0, .int .i64 p0)] ∧ σ = hp E0 [] (N0 + 1)) (fun K hK => ?_) ?_
 ·
  skip
  simp -dsimp -implicitDefEqProofs (maxDischargeDepth := 6)
  exact hK _ _ ⟨rfl, rfl⟩
 rintro a σ ⟨rfl, rfl⟩
 obtain ⟨g1, hg1, H⟩ := bindE H
 refine AWP_sr tok [] [2] (fun a σ => a = [(2, .bool g1)] ∧ σ = hp E0 [] (N0 + 8)) (fun K hK => ?_) ?_
 ·
  skip
  simp -dsimp -implicitDefEqProofs (maxDischargeDepth := 6)
  cases hbg1 : ige p0 (-2147483648)
  ·
   replace hg1 := ifF hbg1 hg1
   replace hg1 := Option.some.inj hg1; subst hg1
   try simp -dsimp -implicitDefEqProofs (maxDischargeDepth := 6) [hbg1]
   exact hK _ _ ⟨rfl, rfl⟩
  ·
   replace hg1 := ifT hbg1 hg1
   replace hg1 := Option.some.inj hg1; subst hg1
   try simp -dsimp -implicitDefEqProofs (maxDischargeDepth := 6) [hbg1]
   exact hK _ _ ⟨rfl, rfl⟩
 rintro a σ ⟨rfl, rfl⟩
 replace H := Option.some.inj H; subst H
 refine AWP_kp [2] [(2, .bool g1)] rfl ?_
 refine AWP_ret ?_
 exact ⟨[.bool g1], by simp, 4, by simp [encL_nil]⟩
theorem c99 {p0 : Int} {r : Bool} (H : i_OpValid p0 = some r) : APure Tryd.prog G 99 [.int .i64 p0] (.bool r) := by
 refine APure_fn (fun N0 => ?_) (by simp)
 refine ACalls_fn tok Tryd.func99 (by kernel_rfl) rfl Tryd.ntmps99 Tryd.results99 rfl ?_
 simp only [argsA, Nat.reduceAdd, hp_next]
 unfold i_OpValid at H
 refine AWP_sr tok [] [0] (fun a σ => a = [(0, .int .i64 p0)] ∧ σ = hp E0 [] (N0 + 1)) (fun K hK => ?_) ?_
 ·
  skip
  simp -dsimp -implicitDefEqProofs (maxDischargeDepth := 6)
  exact hK _ _ ⟨rfl, rfl⟩
 rintro a σ ⟨rfl, rfl⟩
 obtain ⟨g1, hg1, H⟩ := bindE H
 refine AWP_sr tok [] [2] (fun a σ => a = [(2, .bool g1)] ∧ σ = hp E0 [] (N0 + 8)) (fun K hK => ?_) ?_
 ·
  skip
  simp -dsimp -implicitDefEqProofs (maxDischargeDepth := 6)
  cases hbg1 : ige p0 1
  ·
   replace hg1 := ifF hbg1 hg1
   replace hg1 := Option.some.inj hg1; subst hg1
   try simp -dsimp -implicitDefEqProofs (maxDischargeDepth := 6) [hbg1]
   exact hK _ _ ⟨rfl, rfl⟩
  ·
   replace hg1 := ifT hbg1 hg1
   replace hg1 := Option.some.inj hg1; subst hg1
   try simp -dsimp -implicitDefEqProofs (maxDischargeDepth := 6) [hbg1]
   exact hK _ _ ⟨rfl, rfl⟩
 rintro a σ ⟨rfl, rfl⟩
 replace H := Option.some.inj H; subst H
 refine AWP_kp [2] [(2, .bool g1)] rfl ?_
 refine AWP_ret ?_
 exact ⟨[.bool g1], by simp, 4, by simp [encL_nil]⟩
theorem c67 {p0 : gQuad} {p1 : Int} {r : Bool} (H : i_QuadValid p0 p1 = some r) : APure Tryd.prog G 67 [.agg [.int .i64 p0.Op, .int .i64 p0.Dst, .int .i64 p0.A, .int .i64 p0.B, .int .i64 p0.N], .int .i64 p1] (.bool r) := by
 refine APure_fn (fun N0 => ?_) (by simp)
 refine ACalls_fn tok Tryd.func67 (by kernel_rfl) rfl Tryd.ntmps67 Tryd.results67 rfl ?_
 simp only [argsA, Nat.reduceAdd, hp_next]
 unfold i_QuadValid at H
 refine AWP_sr tok [0] [1, 2] (fun a σ => a = [(1, .int .i64 p1), (2, .fptr [.int .i64 p0.Op, .int .i64 p0.Dst, .int .i64 p0.A, .int .i64 p0.B, .int .i64 p0.N] 0)] ∧ σ = hp E0 [] (N0 + 2)) (fun K hK => ?_) ?_
 ·
  skip
  simp -dsimp -implicitDefEqProofs (maxDischargeDepth := 6)
  exact hK _ _ ⟨rfl, rfl⟩
 rintro a σ ⟨rfl, rfl⟩
 obtain ⟨r1, hr1, H⟩ := bindE H
 obtain ⟨r2, hr2, H⟩ := bindE H
 obtain ⟨r3, hr3, H⟩ := bindE H
 refine AWP_sd tok tokM [] [] [0, 1, 2, 3, 4, 5, 6, 7, 8, 9, 10, 11, 12, 13, 14] [1, 2, 5, 6, 7, 8] (fun a σ => a = [(1, .int .i64 p1), (2, .fptr [.int .i64 p0.Op, .int .i64 p0.Dst, .int .i64 p0.A, .int .i64 p0.B, .int .i64 p0.N] 0), (5, .bool r1), (6, .bool r2), (7, .bool r3), (8, .int .i64 p0.N)] ∧ σ = hp E0 [] (N0 + 17)) (by decide) (fun K hK => ?_) ?_
 ·
  simp only [pickL, nthO_succ, nthO_zero]
  simp -dsimp -implicitDefEqProofs (maxDischargeDepth := 6)
  refine Pc.mk (c114 hr1) ?_; try simp -dsimp -implicitDefEqProofs (maxDischargeDepth := 6)
  refine Pc.mk (c114 hr2) ?_; try simp -dsimp -implicitDefEqProofs (maxDischargeDepth := 6)
  refine Pc.mk (c114 hr3) ?_; try simp -dsimp -implicitDefEqProofs (maxDischargeDepth := 6)
  exact hK _ _ ⟨rfl, rfl⟩
 rintro a σ ⟨rfl, rfl⟩
 refine AWP_sq [] fun K1 hK1 => ?_
 refine AWP_sr tok [] [1, 2, 5, 6, 7, 8, 21] (fun a σ => a = [(1, .int .i64 p1), (2, .fptr [.int .i64 p0.Op, .int .i64 p0.Dst, .int .i64 p0.A, .int .i64 p0.B, .int .i64 p0.N] 0), (5, .bool r1), (6, .bool r2), (7, .bool r3), (8, .int .i64 p0.N), (21, .int .i64 p0.Op)] ∧ σ = hp E0 [] (N0 + 19)) (fun K hK => ?_) ?_
 ·
  skip
  simp -dsimp -implicitDefEqProofs (maxDischargeDepth := 6)
  exact hK _ _ ⟨rfl, rfl⟩
 rintro a σ ⟨rfl, rfl⟩
 refine AWP_block (AWP_thenB ?_)
 refine AWP_sr tok [] [1, 2, 5, 6, 7, 8, 21, 22] (fun a σ => a = [(1, .int .i64 p1), (2, .fptr [.int .i64 p0.Op, .int .i64 p0.Dst, .int .i64 p0.A, .int .i64 p0.B, .int .i64 p0.N] 0), (5, .bool r1), (6, .bool r2), (7, .bool r3), (8, .int .i64 p0.N), (21, .int .i64 p0.Op), (22, .bool (ieq p0.Op 1))] ∧ σ = hp E0 [] (N0 + 21)) (fun K hK => ?_) ?_
 ·
  skip
  simp -dsimp -implicitDefEqProofs (maxDischargeDepth := 6)
  exact hK _ _ ⟨rfl, rfl⟩
 rintro a σ ⟨rfl, rfl⟩
 refine AWP_cond (ieq p0.Op 1) rfl (fun C1 => ?_) (fun C1 => ?_)
 ·
  replace H := ifT C1 H
  obtain ⟨g4, hg4, H⟩ := bindE H
  obtain ⟨g6, hg6, H⟩ := bindE H
  refine AWP_sr tok [] [4] (fun a σ => a = [(4, .bool g6)] ∧ σ = hp E0 [] (N0 + 35)) (fun K hK => ?_) ?_
  ·
   skip
   simp -dsimp -implicitDefEqProofs (maxDischargeDepth := 6)
   cases hbg4 : eqD p0 (⟨1, p0.Dst, 0, 0, p0.N⟩ : gQuad)
   ·
    replace hg4 := ifF hbg4 hg4
    replace hg4 := Option.some.inj hg4; subst hg4
    try simp -dsimp -implicitDefEqProofs (maxDischargeDepth := 6) [hbg4]
    replace hg6 := ifF rfl hg6
    replace hg6 := Option.some.inj hg6; subst hg6
    try simp -dsimp -implicitDefEqProofs (maxDischargeDepth := 6) [hbg4]
    exact hK _ _ ⟨rfl, rfl⟩
   ·
    replace hg4 := ifT hbg4 hg4
    replace hg4 := Option.some.inj hg4; subst hg4
    try simp -dsimp -implicitDefEqProofs (maxDischargeDepth := 6) [hbg4]
    cases hbg6 : r1
    ·
     replace hg6 := ifF hbg6 hg6
     replace hg6 := Option.some.inj hg6; subst hg6
     try simp -dsimp -implicitDefEqProofs (maxDischargeDepth := 6) [hbg4, hbg6]
     exact hK _ _ ⟨rfl, rfl⟩
    ·
     replace hg6 := ifT hbg6 hg6
     obtain ⟨r5, hr5, hg6⟩ := bindE hg6
     replace hg6 := Option.some.inj hg6; subst hg6
     try simp -dsimp -implicitDefEqProofs (maxDischargeDepth := 6) [hbg4, hbg6]
     refine (c73 hr5).app ?_; try simp -dsimp -implicitDefEqProofs (maxDischargeDepth := 6) [hbg4, hbg6]
     exact hK _ _ ⟨rfl, rfl⟩
  rintro a σ ⟨rfl, rfl⟩
  replace H := Option.some.inj H; subst H
  refine AWP_kp [4] [(4, .bool g6)] rfl ?_
  refine AWP_ret ?_
  exact ⟨[.bool g6], by simp, 4, by simp [encL_nil]⟩
 ·
  replace H := ifF C1 H
  refine AWP_sr tok [] [1, 2, 5, 6, 7, 8, 21, 37] (fun a σ => a = [(1, .int .i64 p1), (2, .fptr [.int .i64 p0.Op, .int .i64 p0.Dst, .int .i64 p0.A, .int .i64 p0.B, .int .i64 p0.N] 0), (5, .bool r1), (6, .bool r2), (7, .bool r3), (8, .int .i64 p0.N), (21, .int .i64 p0.Op), (37, .bool (ieq p0.Op 2))] ∧ σ = hp E0 [] (N0 + 23)) (fun K hK => ?_) ?_
  ·
   skip
   simp -dsimp -implicitDefEqProofs (maxDischargeDepth := 6)
   exact hK _ _ ⟨rfl, rfl⟩
  rintro a σ ⟨rfl, rfl⟩
  refine AWP_cond (ieq p0.Op 2) rfl (fun C2 => ?_) (fun C2 => ?_)
  ·
   replace H := ifT C2 H
   obtain ⟨g7, hg7, H⟩ := bindE H
   obtain ⟨g8, hg8, H⟩ := bindE H
   refine AWP_sr tok [] [4] (fun a σ => a = [(4, .bool g8)] ∧ σ = hp E0 [] (N0 + 37)) (fun K hK => ?_) ?_
   ·
    skip
    simp -dsimp -implicitDefEqProofs (maxDischargeDepth := 6)
    cases hbg7 : eqD p0 (⟨2, p0.Dst, p0.A, 0, 0⟩ : gQuad)
    ·
     replace hg7 := ifF hbg7 hg7
     replace hg7 := Option.some.inj hg7; subst hg7
     try simp -dsimp -implicitDefEqProofs (maxDischargeDepth := 6) [hbg7]
     replace hg8 := ifF rfl hg8
     replace hg8 := Option.some.inj hg8; subst hg8
     try simp -dsimp -implicitDefEqProofs (maxDischargeDepth := 6) [hbg7]
     exact hK _ _ ⟨rfl, rfl⟩
    ·
     replace hg7 := ifT hbg7 hg7
     replace hg7 := Option.some.inj hg7; subst hg7
     try simp -dsimp -implicitDefEqProofs (maxDischargeDepth := 6) [hbg7]
     cases hbg8 : r1
     ·
      replace hg8 := ifF hbg8 hg8
      replace hg8 := Option.some.inj hg8; subst hg8
      try simp -dsimp -implicitDefEqProofs (maxDischargeDepth := 6) [hbg7, hbg8]
      exact hK _ _ ⟨rfl, rfl⟩
     ·
      replace hg8 := ifT hbg8 hg8
      replace hg8 := Option.some.inj hg8; subst hg8
      try simp -dsimp -implicitDefEqProofs (maxDischargeDepth := 6) [hbg7, hbg8]
      exact hK _ _ ⟨rfl, rfl⟩
   rintro a σ ⟨rfl, rfl⟩
   replace H := Option.some.inj H; subst H
   refine AWP_kp [4] [(4, .bool g8)] rfl ?_
   refine AWP_ret ?_
   exact ⟨[.bool g8], by simp, 4, by simp [encL_nil]⟩
  ·
   replace H := ifF C2 H
   refine AWP_sr tok [] [1, 2, 5, 6, 7, 8, 21, 52] (fun a σ => a = [(1, .int .i64 p1), (2, .fptr [.int .i64 p0.Op, .int .i64 p0.Dst, .int .i64 p0.A, .int .i64 p0.B, .int .i64 p0.N] 0), (5, .bool r1), (6, .bool r2), (7, .bool r3), (8, .int .i64 p0.N), (21, .int .i64 p0.Op), (52, .bool (ieq p0.Op 3))] ∧ σ = hp E0 [] (N0 + 25)) (fun K hK => ?_) ?_
   ·
    skip
    simp -dsimp -implicitDefEqProofs (maxDischargeDepth := 6)
    exact hK _ _ ⟨rfl, rfl⟩
   rintro a σ ⟨rfl, rfl⟩
   refine AWP_cond (ieq p0.Op 3) rfl (fun C3 => ?_) (fun C3 => ?_)
   ·
    replace H := ifT C3 H
    obtain ⟨g9, hg9, H⟩ := bindE H
    obtain ⟨g10, hg10, H⟩ := bindE H
    obtain ⟨g12, hg12, H⟩ := bindE H
    refine AWP_sr tok [] [4] (fun a σ => a = [(4, .bool g12)] ∧ σ = hp E0 [] (N0 + 37)) (fun K hK => ?_) ?_
    ·
     skip
     simp -dsimp -implicitDefEqProofs (maxDischargeDepth := 6)
     cases hbg9 : r1
     ·
      replace hg9 := ifF hbg9 hg9
      replace hg9 := Option.some.inj hg9; subst hg9
      try simp -dsimp -implicitDefEqProofs (maxDischargeDepth := 6) [hbg9]
      replace hg10 := ifF rfl hg10
      replace hg10 := Option.some.inj hg10; subst hg10
      try simp -dsimp -implicitDefEqProofs (maxDischargeDepth := 6) [hbg9]
      replace hg12 := ifF rfl hg12
      replace hg12 := Option.some.inj hg12; subst hg12
      try simp -dsimp -implicitDefEqProofs (maxDischargeDepth := 6) [hbg9]
      exact hK _ _ ⟨rfl, rfl⟩
     ·
      replace hg9 := ifT hbg9 hg9
      replace hg9 := Option.some.inj hg9; subst hg9
      try simp -dsimp -implicitDefEqProofs (maxDischargeDepth := 6) [hbg9]
      cases hbg10 : r2
      ·
       replace hg10 := ifF hbg10 hg10
       replace hg10 := Option.some.inj hg10; subst hg10
       try simp -dsimp -implicitDefEqProofs (maxDischargeDepth := 6) [hbg9, hbg10]
       replace hg12 := ifF rfl hg12
       replace hg12 := Option.some.inj hg12; subst hg12
       try simp -dsimp -implicitDefEqProofs (maxDischargeDepth := 6) [hbg9, hbg10]
       exact hK _ _ ⟨rfl, rfl⟩
      ·
       replace hg10 := ifT hbg10 hg10
       replace hg10 := Option.some.inj hg10; subst hg10
       try simp -dsimp -implicitDefEqProofs (maxDischargeDepth := 6) [hbg9, hbg10]
       cases hbg12 : r3
       ·
        replace hg12 := ifF hbg12 hg12
        replace hg12 := Option.some.inj hg12; subst hg12
        try simp -dsimp -implicitDefEqProofs (maxDischargeDepth := 6) [hbg9, hbg10, hbg12]
        exact hK _ _ ⟨rfl, rfl⟩
       ·
        replace hg12 := ifT hbg12 hg12
        obtain ⟨r11, hr11, hg12⟩ := bindE hg12
        replace hg12 := Option.some.inj hg12; subst hg12
        try simp -dsimp -implicitDefEqProofs (maxDischargeDepth := 6) [hbg9, hbg10, hbg12]
        refine (c99 hr11).app ?_; try simp -dsimp -implicitDefEqProofs (maxDischargeDepth := 6) [hbg9, hbg10, hbg12]
        exact hK _ _ ⟨rfl, rfl⟩
    rintro a σ ⟨rfl, rfl⟩
    replace H := Option.some.inj H; subst H
    refine AWP_kp [4] [(4, .bool g12)] rfl ?_
    refine AWP_ret ?_
    exact ⟨[.bool g12], by simp, 4, by simp [encL_nil]⟩
   ·
    replace H := ifF C3 H
    refine AWP_sr tok [] [1, 2, 5, 6, 8, 21, 65] (fun a σ => a = [(1, .int .i64 p1), (2, .fptr [.int .i64 p0.Op, .int .i64 p0.Dst, .int .i64 p0.A, .int .i64 p0.B, .int .i64 p0.N] 0), (5, .bool r1), (6, .bool r2), (8, .int .i64 p0.N), (21, .int .i64 p0.Op), (65, .bool (ieq p0.Op 4))] ∧ σ = hp E0 [] (N0 + 27)) (fun K hK => ?_) ?_
    ·
     skip
     simp -dsimp -implicitDefEqProofs (maxDischargeDepth := 6)
     exact hK _ _ ⟨rfl, rfl⟩
    rintro a σ ⟨rfl, rfl⟩
    refine AWP_cond (ieq p0.Op 4) rfl (fun C4 => ?_) (fun C4 => ?_)
    ·
     replace H := ifT C4 H
     obtain ⟨g13, hg13, H⟩ := bindE H
     obtain ⟨g14, hg14, H⟩ := bindE H
     refine AWP_sr tok [] [4] (fun a σ => a = [(4, .bool g14)] ∧ σ = hp E0 [] (N0 + 41)) (fun K hK => ?_) ?_
     ·
      skip
      simp -dsimp -implicitDefEqProofs (maxDischargeDepth := 6)
      cases hbg13 : eqD p0 (⟨4, 0, 0, 0, p0.N⟩ : gQuad)
      ·
       replace hg13 := ifF hbg13 hg13
       replace hg13 := Option.some.inj hg13; subst hg13
       try simp -dsimp -implicitDefEqProofs (maxDischargeDepth := 6) [hbg13]
       replace hg14 := ifF rfl hg14
       replace hg14 := Option.some.inj hg14; subst hg14
       try simp -dsimp -implicitDefEqProofs (maxDischargeDepth := 6) [hbg13]
       exact hK _ _ ⟨rfl, rfl⟩
      ·
       replace hg13 := ifT hbg13 hg13
       replace hg13 := Option.some.inj hg13; subst hg13
       try simp -dsimp -implicitDefEqProofs (maxDischargeDepth := 6) [hbg13]
       cases hbg14 : (ige p0.N 0)
       ·
        replace hg14 := ifF hbg14 hg14
        replace hg14 := Option.some.inj hg14; subst hg14
        try simp -dsimp -implicitDefEqProofs (maxDischargeDepth := 6) [hbg13, hbg14]
        exact hK _ _ ⟨rfl, rfl⟩
       ·
        replace hg14 := ifT hbg14 hg14
        replace hg14 := Option.some.inj hg14; subst hg14
        try simp -dsimp -implicitDefEqProofs (maxDischargeDepth := 6) [hbg13, hbg14]
        exact hK _ _ ⟨rfl, rfl⟩
     rintro a σ ⟨rfl, rfl⟩
     replace H := Option.some.inj H; subst H
     refine AWP_kp [4] [(4, .bool g14)] rfl ?_
     refine AWP_ret ?_
     exact ⟨[.bool g14], by simp, 4, by simp [encL_nil]⟩
    ·
     replace H := ifF C4 H
     refine AWP_sr tok [] [1, 2, 5, 6, 8, 21, 80] (fun a σ => a = [(1, .int .i64 p1), (2, .fptr [.int .i64 p0.Op, .int .i64 p0.Dst, .int .i64 p0.A, .int .i64 p0.B, .int .i64 p0.N] 0), (5, .bool r1), (6, .bool r2), (8, .int .i64 p0.N), (21, .int .i64 p0.Op), (80, .bool (ieq p0.Op 5))] ∧ σ = hp E0 [] (N0 + 29)) (fun K hK => ?_) ?_
     ·
      skip
      simp -dsimp -implicitDefEqProofs (maxDischargeDepth := 6)
      exact hK _ _ ⟨rfl, rfl⟩
     rintro a σ ⟨rfl, rfl⟩
     refine AWP_cond (ieq p0.Op 5) rfl (fun C5 => ?_) (fun C5 => ?_)
     ·
      replace H := ifT C5 H
      obtain ⟨g15, hg15, H⟩ := bindE H
      obtain ⟨g16, hg16, H⟩ := bindE H
      obtain ⟨g17, hg17, H⟩ := bindE H
      refine AWP_sr tok [] [4] (fun a σ => a = [(4, .bool g17)] ∧ σ = hp E0 [] (N0 + 48)) (fun K hK => ?_) ?_
      ·
       skip
       simp -dsimp -implicitDefEqProofs (maxDischargeDepth := 6)
       cases hbg15 : eqD p0 (⟨5, 0, p0.A, 0, p0.N⟩ : gQuad)
       ·
        replace hg15 := ifF hbg15 hg15
        replace hg15 := Option.some.inj hg15; subst hg15
        try simp -dsimp -implicitDefEqProofs (maxDischargeDepth := 6) [hbg15]
        replace hg16 := ifF rfl hg16
        replace hg16 := Option.some.inj hg16; subst hg16
        try simp -dsimp -implicitDefEqProofs (maxDischargeDepth := 6) [hbg15]
        replace hg17 := ifF rfl hg17
        replace hg17 := Option.some.inj hg17; subst hg17
        try simp -dsimp -implicitDefEqProofs (maxDischargeDepth := 6) [hbg15]
        exact hK _ _ ⟨rfl, rfl⟩
       ·
        replace hg15 := ifT hbg15 hg15
        replace hg15 := Option.some.inj hg15; subst hg15
        try simp -dsimp -implicitDefEqProofs (maxDischargeDepth := 6) [hbg15]
        cases hbg16 : r2
        ·
         replace hg16 := ifF hbg16 hg16
         replace hg16 := Option.some.inj hg16; subst hg16
         try simp -dsimp -implicitDefEqProofs (maxDischargeDepth := 6) [hbg15, hbg16]
         replace hg17 := ifF rfl hg17
         replace hg17 := Option.some.inj hg17; subst hg17
         try simp -dsimp -implicitDefEqProofs (maxDischargeDepth := 6) [hbg15, hbg16]
         exact hK _ _ ⟨rfl, rfl⟩
        ·
         replace hg16 := ifT hbg16 hg16
         replace hg16 := Option.some.inj hg16; subst hg16
         try simp -dsimp -implicitDefEqProofs (maxDischargeDepth := 6) [hbg15, hbg16]
         cases hbg17 : (ige p0.N 0)
         ·
          replace hg17 := ifF hbg17 hg17
          replace hg17 := Option.some.inj hg17; subst hg17
          try simp -dsimp -implicitDefEqProofs (maxDischargeDepth := 6) [hbg15, hbg16, hbg17]
          exact hK _ _ ⟨rfl, rfl⟩
         ·
          replace hg17 := ifT hbg17 hg17
          replace hg17 := Option.some.inj hg17; subst hg17
          try simp -dsimp -implicitDefEqProofs (maxDischargeDepth := 6) [hbg15, hbg16, hbg17]
          exact hK _ _ ⟨rfl, rfl⟩
      rintro a σ ⟨rfl, rfl⟩
      replace H := Option.some.inj H; subst H
      refine AWP_kp [4] [(4, .bool g17)] rfl ?_
      refine AWP_ret ?_
      exact ⟨[.bool g17], by simp, 4, by simp [encL_nil]⟩
     ·
      replace H := ifF C5 H
      refine AWP_sr tok [] [2, 5, 6, 8, 21, 100] (fun a σ => a = [(2, .fptr [.int .i64 p0.Op, .int .i64 p0.Dst, .int .i64 p0.A, .int .i64 p0.B, .int .i64 p0.N] 0), (5, .bool r1), (6, .bool r2), (8, .int .i64 p0.N), (21, .int .i64 p0.Op), (100, .bool (ieq p0.Op 6))] ∧ σ = hp E0 [] (N0 + 31)) (fun K hK => ?_) ?_
      ·
       skip
       simp -dsimp -implicitDefEqProofs (maxDischargeDepth := 6)
       exact hK _ _ ⟨rfl, rfl⟩
      rintro a σ ⟨rfl, rfl⟩
      refine AWP_cond (ieq p0.Op 6) rfl (fun C6 => ?_) (fun C6 => ?_)
      ·
       replace H := ifT C6 H
       obtain ⟨g18, hg18, H⟩ := bindE H
       obtain ⟨g19, hg19, H⟩ := bindE H
       obtain ⟨g20, hg20, H⟩ := bindE H
       refine AWP_sr tok [] [4] (fun a σ => a = [(4, .bool g20)] ∧ σ = hp E0 [] (N0 + 49)) (fun K hK => ?_) ?_
       ·
        skip
        simp -dsimp -implicitDefEqProofs (maxDischargeDepth := 6)
        cases hbg18 : eqD p0 (⟨6, 0, p0.A, 0, p0.N⟩ : gQuad)
        ·
         replace hg18 := ifF hbg18 hg18
         replace hg18 := Option.some.inj hg18; subst hg18
         try simp -dsimp -implicitDefEqProofs (maxDischargeDepth := 6) [hbg18]
         replace hg19 := ifF rfl hg19
         replace hg19 := Option.some.inj hg19; subst hg19
         try simp -dsimp -implicitDefEqProofs (maxDischargeDepth := 6) [hbg18]
         replace hg20 := ifF rfl hg20
         replace hg20 := Option.some.inj hg20; subst hg20
         try simp -dsimp -implicitDefEqProofs (maxDischargeDepth := 6) [hbg18]
         exact hK _ _ ⟨rfl, rfl⟩
        ·
         replace hg18 := ifT hbg18 hg18
         replace hg18 := Option.some.inj hg18; subst hg18
         try simp -dsimp -implicitDefEqProofs (maxDischargeDepth := 6) [hbg18]
         cases hbg19 : r2
         ·
          replace hg19 := ifF hbg19 hg19
          replace hg19 := Option.some.inj hg19; subst hg19
          try simp -dsimp -implicitDefEqProofs (maxDischargeDepth := 6) [hbg18, hbg19]
          replace hg20 := ifF rfl hg20
          replace hg20 := Option.some.inj hg20; subst hg20
          try simp -dsimp -implicitDefEqProofs (maxDischargeDepth := 6) [hbg18, hbg19]
          exact hK _ _ ⟨rfl, rfl⟩
         ·
          replace hg19 := ifT hbg19 hg19
          replace hg19 := Option.some.inj hg19; subst hg19
          try simp -dsimp -implicitDefEqProofs (maxDischargeDepth := 6) [hbg18, hbg19]
          cases hbg20 : (ige p0.N 0)
          ·
           replace hg20 := ifF hbg20 hg20
           replace hg20 := Option.some.inj hg20; subst hg20
           try simp -dsimp -implicitDefEqProofs (maxDischargeDepth := 6) [hbg18, hbg19, hbg20]
           exact hK _ _ ⟨rfl, rfl⟩
          ·
           replace hg20 := ifT hbg20 hg20
           replace hg20 := Option.some.inj hg20; subst hg20
           try simp -dsimp -implicitDefEqProofs (maxDischargeDepth := 6) [hbg18, hbg19, hbg20]
           exact hK _ _ ⟨rfl, rfl⟩
       rintro a σ ⟨rfl, rfl⟩
       replace H := Option.some.inj H; subst H
       refine AWP_kp [4] [(4, .bool g20)] rfl ?_
       refine AWP_ret ?_
       exact ⟨[.bool g20], by simp, 4, by simp [encL_nil]⟩
      ·
       replace H := ifF C6 H
       refine AWP_sr tok [] [2, 5, 6, 8, 21, 119] (fun a σ => a = [(2, .fptr [.int .i64 p0.Op, .int .i64 p0.Dst, .int .i64 p0.A, .int .i64 p0.B, .int .i64 p0.N] 0), (5, .bool r1), (6, .bool r2), (8, .int .i64 p0.N), (21, .int .i64 p0.Op), (119, .bool (ieq p0.Op 7))] ∧ σ = hp E0 [] (N0 + 33)) (fun K hK => ?_) ?_
       ·
        skip
        simp -dsimp -implicitDefEqProofs (maxDischargeDepth := 6)
        exact hK _ _ ⟨rfl, rfl⟩
       rintro a σ ⟨rfl, rfl⟩
       refine AWP_cond (ieq p0.Op 7) rfl (fun C7 => ?_) (fun C7 => ?_)
       ·
        replace H := ifT C7 H
        obtain ⟨g21, hg21, H⟩ := bindE H
        obtain ⟨g22, hg22, H⟩ := bindE H
        obtain ⟨g23, hg23, H⟩ := bindE H
        refine AWP_sr tok [] [4] (fun a σ => a = [(4, .bool g23)] ∧ σ = hp E0 [] (N0 + 51)) (fun K hK => ?_) ?_
        ·
         skip
         simp -dsimp -implicitDefEqProofs (maxDischargeDepth := 6)
         cases hbg21 : eqD p0 (⟨7, p0.Dst, 0, 0, p0.N⟩ : gQuad)
         ·
          replace hg21 := ifF hbg21 hg21
          replace hg21 := Option.some.inj hg21; subst hg21
          try simp -dsimp -implicitDefEqProofs (maxDischargeDepth := 6) [hbg21]
          replace hg22 := ifF rfl hg22
          replace hg22 := Option.some.inj hg22; subst hg22
          try simp -dsimp -implicitDefEqProofs (maxDischargeDepth := 6) [hbg21]
          replace hg23 := ifF rfl hg23
          replace hg23 := Option.some.inj hg23; subst hg23
          try simp -dsimp -implicitDefEqProofs (maxDischargeDepth := 6) [hbg21]
          exact hK _ _ ⟨rfl, rfl⟩
         ·
          replace hg21 := ifT hbg21 hg21
          replace hg21 := Option.some.inj hg21; subst hg21
          try simp -dsimp -implicitDefEqProofs (maxDischargeDepth := 6) [hbg21]
          cases hbg22 : r1
          ·
           replace hg22 := ifF hbg22 hg22
           replace hg22 := Option.some.inj hg22; subst hg22
           try simp -dsimp -implicitDefEqProofs (maxDischargeDepth := 6) [hbg21, hbg22]
           replace hg23 := ifF rfl hg23
           replace hg23 := Option.some.inj hg23; subst hg23
           try simp -dsimp -implicitDefEqProofs (maxDischargeDepth := 6) [hbg21, hbg22]
           exact hK _ _ ⟨rfl, rfl⟩
          ·
           replace hg22 := ifT hbg22 hg22
           replace hg22 := Option.some.inj hg22; subst hg22
           try simp -dsimp -implicitDefEqProofs (maxDischargeDepth := 6) [hbg21, hbg22]
           cases hbg23 : (ige p0.N 0)
           ·
            replace hg23 := ifF hbg23 hg23
            replace hg23 := Option.some.inj hg23; subst hg23
            try simp -dsimp -implicitDefEqProofs (maxDischargeDepth := 6) [hbg21, hbg22, hbg23]
            exact hK _ _ ⟨rfl, rfl⟩
           ·
            replace hg23 := ifT hbg23 hg23
            replace hg23 := Option.some.inj hg23; subst hg23
            try simp -dsimp -implicitDefEqProofs (maxDischargeDepth := 6) [hbg21, hbg22, hbg23]
            exact hK _ _ ⟨rfl, rfl⟩
        rintro a σ ⟨rfl, rfl⟩
        replace H := Option.some.inj H; subst H
        refine AWP_kp [4] [(4, .bool g23)] rfl ?_
        refine AWP_ret ?_
        exact ⟨[.bool g23], by simp, 4, by simp [encL_nil]⟩
       ·
        replace H := ifF C7 H
        refine AWP_sr tok [] [2, 6, 21, 138] (fun a σ => a = [(2, .fptr [.int .i64 p0.Op, .int .i64 p0.Dst, .int .i64 p0.A, .int .i64 p0.B, .int .i64 p0.N] 0), (6, .bool r2), (21, .int .i64 p0.Op), (138, .bool (ieq p0.Op 9))] ∧ σ = hp E0 [] (N0 + 35)) (fun K hK => ?_) ?_
        ·
         skip
         simp -dsimp -implicitDefEqProofs (maxDischargeDepth := 6)
         exact hK _ _ ⟨rfl, rfl⟩
        rintro a σ ⟨rfl, rfl⟩
        refine AWP_cond (ieq p0.Op 9) rfl (fun C8 => ?_) (fun C8 => ?_)
        ·
         replace H := ifT C8 H
         obtain ⟨g24, hg24, H⟩ := bindE H
         refine AWP_sr tok [] [4] (fun a σ => a = [(4, .bool g24)] ∧ σ = hp E0 [] (N0 + 44)) (fun K hK => ?_) ?_
         ·
          skip
          simp -dsimp -implicitDefEqProofs (maxDischargeDepth := 6)
          cases hbg24 : eqD p0 (⟨9, 0, p0.A, 0, 0⟩ : gQuad)
          ·
           replace hg24 := ifF hbg24 hg24
           replace hg24 := Option.some.inj hg24; subst hg24
           try simp -dsimp -implicitDefEqProofs (maxDischargeDepth := 6) [hbg24]
           exact hK _ _ ⟨rfl, rfl⟩
          ·
           replace hg24 := ifT hbg24 hg24
           replace hg24 := Option.some.inj hg24; subst hg24
           try simp -dsimp -implicitDefEqProofs (maxDischargeDepth := 6) [hbg24]
           exact hK _ _ ⟨rfl, rfl⟩
         rintro a σ ⟨rfl, rfl⟩
         replace H := Option.some.inj H; subst H
         refine AWP_kp [4] [(4, .bool g24)] rfl ?_
         refine AWP_ret ?_
         exact ⟨[.bool g24], by simp, 4, by simp [encL_nil]⟩
        ·
         replace H := ifF C8 H
         obtain ⟨j1, hj1, H⟩ := bindE H
         refine AWP_seq (AWP_named fun K2 hK2 => ?_)
         have hJ1 : ∀ a σ, Rc G 156 N0 (fun a σ => ∃ M1 : Nat, N0 ≤ M1 ∧ a = [(2, .fptr [.int .i64 p0.Op, .int .i64 p0.Dst, .int .i64 p0.A, .int .i64 p0.B, .int .i64 p0.N] 0), (148, .bool j1)] ∧ σ = hp E0 [] M1) (a.keep [2, 148]) σ → K2 a σ := by
          rintro a σ ⟨b, τ, hr, M1, fM1_0, rfl, rfl⟩
          refine hK2 _ _ (AWP_keep [2, 148] (AWP_ref hr ?_))
          refine AWP_cond j1 rfl (fun C9 => ?_) (fun C9 => ?_)
          ·
           replace H := ifT C9 H
           refine AWP_sr tok [] [4] (fun a σ => a = [(4, .bool (eqD p0 (⟨p0.Op, 0, 0, 0, 0⟩ : gQuad)))] ∧ σ = hp E0 [] (M1 + 6)) (fun K hK => ?_) ?_
           ·
            skip
            simp -dsimp -implicitDefEqProofs (maxDischargeDepth := 6)
            exact hK _ _ ⟨rfl, rfl⟩
           rintro a σ ⟨rfl, rfl⟩
           replace H := Option.some.inj H; subst H
           refine AWP_kp [4] [(4, .bool (eqD p0 (⟨p0.Op, 0, 0, 0, 0⟩ : gQuad)))] rfl ?_
           refine AWP_ret ?_
           exact ⟨[.bool (eqD p0 (⟨p0.Op, 0, 0, 0, 0⟩ : gQuad))], by simp, 4, by simp [encL_nil]⟩
          ·
           replace H := ifF C9 H
           refine AWP_skip ?_
           show K1 _ _
           refine keepE (l := []) (x := []) rfl fun a' ha => ?_
           refine hK1 _ _ ?_; rw [ha]
           refine Rc.mk ?_
           refine AWP_sr tok [] [4] (fun a σ => a = [(4, .bool false)] ∧ σ = hp E0 [] (M1 + 1)) (fun K hK => ?_) ?_
           ·
            skip
            simp -dsimp -implicitDefEqProofs (maxDischargeDepth := 6)
            exact hK _ _ ⟨rfl, rfl⟩
           rintro a σ ⟨rfl, rfl⟩
           replace H := Option.some.inj H; subst H
           refine AWP_kp [4] [(4, .bool false)] rfl ?_
           refine AWP_ret ?_
           exact ⟨[.bool false], by simp, 4, by simp [encL_nil]⟩
         replace H := hj1
         refine AWP_sr tok [] [2, 21, 148] (fun a σ => a = [(2, .fptr [.int .i64 p0.Op, .int .i64 p0.Dst, .int .i64 p0.A, .int .i64 p0.B, .int .i64 p0.N] 0), (21, .int .i64 p0.Op), (148, .bool (ieq p0.Op 8))] ∧ σ = hp E0 [] (N0 + 37)) (fun K hK => ?_) ?_
         ·
          skip
          simp -dsimp -implicitDefEqProofs (maxDischargeDepth := 6)
          exact hK _ _ ⟨rfl, rfl⟩
         rintro a σ ⟨rfl, rfl⟩
         refine AWP_cond (ieq p0.Op 8) rfl (fun C10 => ?_) (fun C10 => ?_)
         ·
          replace H := ifT C10 H
          refine AWP_skip ?_
          show K2 _ _
          refine keepE (l := [2, 148]) (x := [(2, .fptr [.int .i64 p0.Op, .int .i64 p0.Dst, .int .i64 p0.A, .int .i64 p0.B, .int .i64 p0.N] 0), (148, .bool (ieq p0.Op 8))]) rfl fun a' ha => ?_
          replace H := Option.some.inj H; subst H
          refine hJ1 _ _ ?_; rw [ha]
          exact Rc.fin (AHeap.Sub.refl _) ⟨N0 + 37, (by omega), rfl, rfl⟩
         ·
          replace H := ifF C10 H
          refine AWP_rt tok [] [2, 148] (fun a σ => a = [(2, .fptr [.int .i64 p0.Op, .int .i64 p0.Dst, .int .i64 p0.A, .int .i64 p0.B, .int .i64 p0.N] 0), (148, .bool (ieq p0.Op 10))] ∧ σ = hp E0 [] (N0 + 39)) (fun K hK => ?_) ?_
          ·
           skip
           simp -dsimp -implicitDefEqProofs (maxDischargeDepth := 6)
           exact hK _ _ ⟨rfl, rfl⟩
          rintro a σ ⟨ha, rfl⟩
          replace H := Option.some.inj H; subst H
          refine hJ1 _ _ ?_; rw [ha]
          exact Rc.fin (AHeap.Sub.refl _) ⟨N0 + 39, (by omega), rfl, rfl⟩
theorem c119 {p0 : Int} {p1 : Int} {p2 : Int} {r : gInstr} (H : i_addi p0 p1 p2 = some r) : APure Tryd.prog G 119 [.int .i64 p0, .int .i64 p1, .int .i64 p2] (.agg [.int .i64 r.Op, .int .i64 r.Rd, .int .i64 r.Rs, .int .i64 r.Rt, .int .i64 r.Imm]) := by
 refine APure_fn (fun N0 => ?_) (by simp)
 refine ACalls_fn tok Tryd.func119 (by kernel_rfl) rfl Tryd.ntmps119 Tryd.results119 rfl ?_
 simp only [argsA, Nat.reduceAdd, hp_next]
 unfold i_addi at H
 refine AWP_sr tok [] [0, 1, 2, 6] (fun a σ => a = [(0, .int .i64 p0), (1, .int .i64 p1), (2, .int .i64 p2), (6, .ptr N0 0 0)] ∧ σ = hp E0 [(N0, some ⟨47, 5, [[.int .i64 0, .int .i64 0, .int .i64 0, .int .i64 0, .int .i64 0]]⟩)] (N0 + 1)) (fun K hK => ?_) ?_
 ·
  skip
  simp -dsimp -implicitDefEqProofs (maxDischargeDepth := 6)
  exact hK _ _ ⟨rfl, rfl⟩
 rintro a σ ⟨rfl, rfl⟩
 refine AWP_sr tok [] [6] (fun a σ => a = [(6, .ptr N0 0 0)] ∧ σ = hp E0 [(N0, some ⟨47, 5, [[.int .i64 12, .int .i64 p0, .int .i64 p1, .int .i64 0, .int .i64 p2]]⟩)] (N0 + 6)) (fun K hK => ?_) ?_
 ·
  skip
  simp -dsimp -implicitDefEqProofs (maxDischargeDepth := 6)
  exact hK _ _ ⟨rfl, rfl⟩
 rintro a σ ⟨rfl, rfl⟩
 replace H := Option.some.inj H; subst H
 refine AWP_kp [6] [(6, .ptr N0 0 0)] rfl ?_
 refine AWP_ret ?_
 exact ⟨[.agg [.int .i64 12, .int .i64 p0, .int .i64 p1, .int .i64 0, .int .i64 p2]], by simp, 4, by simp [encL_nil]⟩
end Go.Proofs.YtoklfbdcghgmlaaDoor
