/- The contracts of functions of the program, part 0: each computes what its mirror computes. No conditions. -/
import Derived.Test.YtoklfbdcghgmlaaNYH
import Derived.Test.YtoklfbdcghgmlaaNYM
set_option linter.unusedSimpArgs false
set_option linter.unusedVariables false
set_option maxRecDepth 20000
set_option maxHeartbeats 4000000
namespace Go.Proofs.Ytoklfbdcghgmlaa
open Go Go.Abs Go.RowKit

theorem c83 {p0 : Int} {p1 : Int} {p2 : Int} {r : Bool} (H : s_l6In p0 p1 p2 = some r) : APure Try.prog G 83 [.int .i64 p0, .int .i64 p1, .int .i64 p2] (.bool r) := by
 refine APure_fn (fun N0 => ?_) (by simp)
 refine ACalls_fn tok Try.func83 (by kernel_rfl) rfl Try.ntmps83 Try.results83 rfl ?_
 simp only [argsA, Nat.reduceAdd, hp_next]
 unfold s_l6In at H
 refine AWP_sr tok [] [0, 1, 2] (fun a σ => a = [(0, .int .i64 p0), (1, .int .i64 p1), (2, .int .i64 p2)] ∧ σ = hp E0 [] (N0 + 1)) (fun K hK => ?_) ?_
 ·
  skip
  simp -dsimp -implicitDefEqProofs (maxDischargeDepth := 6)
  exact hK _ _ ⟨rfl, rfl⟩
 rintro a σ ⟨rfl, rfl⟩
 obtain ⟨g1, hg1, H⟩ := bindE H
 refine AWP_sr tok [] [6] (fun a σ => a = [(6, .bool g1)] ∧ σ = hp E0 [] (N0 + 10)) (fun K hK => ?_) ?_
 ·
  skip
  simp -dsimp -implicitDefEqProofs (maxDischargeDepth := 6)
  cases hbg1 : ige p0 p1
  ·
   replace hg1 := ifF hbg1 hg1
   replace hg1 := Option.some.inj hg1; subst hg1
   try simp -dsimp -implicitDefEqProofs (maxDischargeDepth := 6) [hbg1]
   exact hK _ _ ⟨rfl, rfl⟩
  ·
   replace hg1 := ifT hbg1 hg1
   replace hg1 := Option.some.inj hg1; subst hg1
   try simp -dsimp -implicitDefEqProofs (maxDischargeDepth := 6) [hbg1]
   exact hK _ _ ⟨rfl, rfl⟩
 rintro a σ ⟨rfl, rfl⟩
 replace H := Option.some.inj H; subst H
 refine AWP_kp [6] [(6, .bool g1)] rfl ?_
 refine AWP_ret ?_
 exact ⟨[.bool g1], by simp, 4, by simp [encL_nil]⟩
theorem c81 {p0 : Int} {r : Bool} (H : s_WordValid p0 = some r) : APure Try.prog G 81 [.int .i64 p0] (.bool r) := by
 refine APure_fn (fun N0 => ?_) (by simp)
 refine ACalls_fn tok Try.func81 (by kernel_rfl) rfl Try.ntmps81 Try.results81 rfl ?_
 simp only [argsA, Nat.reduceAdd, hp_next]
 unfold s_WordValid at H
 refine AWP_sr tok [] [0] (fun a σ => a = [(0, .int .i64 p0)] ∧ σ = hp E0 [] (N0 + 1)) (fun K hK => ?_) ?_
 ·
  skip
  simp -dsimp -implicitDefEqProofs (maxDischargeDepth := 6)
  exact hK _ _ ⟨rfl, rfl⟩
 rintro a σ ⟨rfl, rfl⟩
 obtain ⟨r1, hr1, H⟩ := bindE H
 refine AWP_sr tok [] [2] (fun a σ => a = [(2, .bool r1)] ∧ σ = hp E0 [] (N0 + 4)) (fun K hK => ?_) ?_
 ·
  skip
  simp -dsimp -implicitDefEqProofs (maxDischargeDepth := 6)
  refine (c83 hr1).app ?_; try simp -dsimp -implicitDefEqProofs (maxDischargeDepth := 6)
  exact hK _ _ ⟨rfl, rfl⟩
 rintro a σ ⟨rfl, rfl⟩
 replace H := Option.some.inj H; subst H
 refine AWP_kp [2] [(2, .bool r1)] rfl ?_
 refine AWP_ret ?_
 exact ⟨[.bool r1], by simp, 4, by simp [encL_nil]⟩
theorem c80 {p0 : (List Int)} {p1 : Int} {r : Bool} (H : s_l4Words p0 p1 = some r) : APure Try.prog G 80 [.fsl (encL rI p0), .int .i64 p1] (.bool r) := by
 refine APure_fn (fun N0 => ?_) (by simp)
 refine ACalls_fn tok Try.func80 (by kernel_rfl) rfl Try.ntmps80 Try.results80 rfl ?_
 simp only [argsA, Nat.reduceAdd, hp_next]
 unfold s_l4Words at H
 refine AWP_sr tok [] [0, 1] (fun a σ => a = [(0, .fsl (encL rI p0)), (1, .int .i64 p1)] ∧ σ = hp E0 [] (N0 + 1)) (fun K hK => ?_) ?_
 ·
  skip
  simp -dsimp -implicitDefEqProofs (maxDischargeDepth := 6)
  exact hK _ _ ⟨rfl, rfl⟩
 rintro a σ ⟨rfl, rfl⟩
 refine AWP_sq [0] fun K1 hK1 => ?_
 refine AWP_sr tok [] [0, 9] (fun a σ => a = [(0, .fsl (encL rI p0)), (9, .bool (ine (ilen p0) p1))] ∧ σ = hp E0 [] (N0 + 5)) (fun K hK => ?_) ?_
 ·
  skip
  simp -dsimp -implicitDefEqProofs (maxDischargeDepth := 6)
  exact hK _ _ ⟨rfl, rfl⟩
 rintro a σ ⟨rfl, rfl⟩
 refine AWP_cond (ine (ilen p0) p1) rfl (fun C1 => ?_) (fun C1 => ?_)
 ·
  replace H := ifT C1 H
  refine AWP_sr tok [] [4] (fun a σ => a = [(4, .bool false)] ∧ σ = hp E0 [] (N0 + 6)) (fun K hK => ?_) ?_
  ·
   skip
   simp -dsimp -implicitDefEqProofs (maxDischargeDepth := 6)
   exact hK _ _ ⟨rfl, rfl⟩
  rintro a σ ⟨rfl, rfl⟩
  replace H := Option.some.inj H; subst H
  refine AWP_kp [4] [(4, .bool false)] rfl ?_
  refine AWP_ret ?_
  exact ⟨[.bool false], by simp, 4, by simp [encL_nil]⟩
 ·
  replace H := ifF C1 H
  refine AWP_skip ?_
  show K1 _ _
  refine keepE (l := [0]) (x := [(0, .fsl (encL rI p0))]) rfl fun a' ha => ?_
  refine hK1 _ _ ?_; rw [ha]
  refine Rc.mk ?_
  refine AWP_sq [] fun K2 hK2 => ?_
  refine AWP_sr tok [] [0, 5] (fun a σ => a = [(0, .fsl (encL rI p0)), (5, .int .i64 0)] ∧ σ = hp E0 [] (N0 + 6)) (fun K hK => ?_) ?_
  ·
   skip
   simp -dsimp -implicitDefEqProofs (maxDischargeDepth := 6)
   exact hK _ _ ⟨rfl, rfl⟩
  rintro a σ ⟨rfl, rfl⟩
  refine AWP_block (AWP_thenB ?_)
  obtain ⟨e1, hse1, H⟩ := bindE H
  refine AWP_lp [0, 5] (fun s a σ => ∃ M1 : Nat, N0 ≤ M1 ∧ a = [(0, .fsl (encL rI p0)), (5, .int .i64 s)] ∧ σ = hp E0 [] M1) (fun e x a σ => match e with | .inl s => x = .exit 0 ∧ Rc G 22 N0 (fun a σ => ∃ M2 : Nat, N0 ≤ M2 ∧ a = [] ∧ σ = hp E0 [] M2) (AAct.keep a []) σ | .inr s => x = .ret ∧ ∃ vs, resA T σ a [.tmp 4] = some vs ∧ ∃ d, thawA (fun _ => true) σ d (tupA vs) = .bool s) hse1 ?_ ?_ ?_
  ·
   refine Rc.kp [0, 5] [(0, .fsl (encL rI p0)), (5, .int .i64 0)] rfl ?_
   exact Rc.fin (AHeap.Sub.refl _) ⟨N0 + 6, (by omega), rfl, rfl⟩
  ·
   clear H hse1
   rintro s1 fl a σ H ⟨M1, fM1_0, rfl, rfl⟩ K3 O3 hK3 hO3
   unfold s_l4Words_L1 at H; dsimp only at H
   refine AWP_sq [0, 5] fun K4 hK4 => ?_
   refine AWP_sr tok [] [0, 5, 13] (fun a σ => a = [(0, .fsl (encL rI p0)), (5, .int .i64 s1), (13, .bool (ilt s1 (ilen p0)))] ∧ σ = hp E0 [] (M1 + 4)) (fun K hK => ?_) ?_
   ·
    skip
    simp -dsimp -implicitDefEqProofs (maxDischargeDepth := 6)
    exact hK _ _ ⟨rfl, rfl⟩
   rintro a σ ⟨rfl, rfl⟩
   refine AWP_cond (ilt s1 (ilen p0)) rfl (fun C2 => ?_) (fun C2 => ?_)
   ·
    replace H := ifT C2 H
    refine AWP_skip ?_
    show K4 _ _
    refine keepE (l := [0, 5]) (x := [(0, .fsl (encL rI p0)), (5, .int .i64 s1)]) rfl fun a' ha => ?_
    refine hK4 _ _ ?_; rw [ha]
    refine Rc.mk ?_
    refine AWP_sq [0, 5] fun K5 hK5 => ?_
    refine AWP_block (AWP_thenB ?_)
    obtain ⟨v2, hv2, H⟩ := bindE H
    obtain ⟨r3, hr3, H⟩ := bindE H
    refine AWP_sr tok [] [0, 5, 21] (fun a σ => a = [(0, .fsl (encL rI p0)), (5, .int .i64 s1), (21, .bool (bnot r3))] ∧ σ = hp E0 [] (M1 + 10)) (fun K hK => ?_) ?_
    ·
     skip
     simp -dsimp -implicitDefEqProofs (maxDischargeDepth := 6) [ix22 hv2]
     refine (c81 hr3).app ?_; try simp -dsimp -implicitDefEqProofs (maxDischargeDepth := 6) [ix22 hv2]
     exact hK _ _ ⟨rfl, rfl⟩
    rintro a σ ⟨rfl, rfl⟩
    refine AWP_cond (bnot r3) rfl (fun C3 => ?_) (fun C3 => ?_)
    ·
     replace H := ifT C3 H
     refine AWP_sr tok [] [4] (fun a σ => a = [(4, .bool false)] ∧ σ = hp E0 [] (M1 + 11)) (fun K hK => ?_) ?_
     ·
      skip
      simp -dsimp -implicitDefEqProofs (maxDischargeDepth := 6)
      exact hK _ _ ⟨rfl, rfl⟩
     rintro a σ ⟨rfl, rfl⟩
     replace H := Option.some.inj H; subst H
     refine AWP_kp [4] [(4, .bool false)] rfl ?_
     refine AWP_ret (hO3 _ _ _ _ rfl ⟨rfl, ?_⟩)
     exact ⟨[.bool false], by simp, 4, by simp [encL_nil]⟩
    ·
     replace H := ifF C3 H
     refine AWP_skip ?_
     show K5 _ _
     refine keepE (l := [0, 5]) (x := [(0, .fsl (encL rI p0)), (5, .int .i64 s1)]) rfl fun a' ha => ?_
     refine hK5 _ _ ?_; rw [ha]
     refine Rc.mk ?_
     refine AWP_rt tok [] [0, 5] (fun a σ => a = [(0, .fsl (encL rI p0)), (5, .int .i64 (iadd .i64 s1 1))] ∧ σ = hp E0 [] (M1 + 13)) (fun K hK => ?_) ?_
     ·
      skip
      simp -dsimp -implicitDefEqProofs (maxDischargeDepth := 6)
      exact hK _ _ ⟨rfl, rfl⟩
     rintro a σ ⟨ha, rfl⟩
     replace H := Option.some.inj H; subst H
     refine hK3 _ _ _ rfl ?_; rw [ha]
     exact Rc.fin (AHeap.Sub.refl _) ⟨M1 + 13, (by omega), rfl, rfl⟩
   ·
    replace H := ifF C2 H
    replace H := Option.some.inj H; subst H
    refine AWP_exit (hO3 _ _ _ _ rfl ⟨rfl, ?_⟩)
    refine Rc.rw (l := []) (X := []) rfl ?_
    exact Rc.fin (AHeap.Sub.refl _) ⟨M1 + 4, (by omega), rfl, rfl⟩
  ·
   intro x a σ hx
   rcases e1 with ⟨⟩ | r0
   ·
    obtain ⟨rfl, b, τ, hr, M2, fM2_0, rfl, rfl⟩ := hx
    dsimp only at H
    show K2 _ _
    refine hK2 _ _ (Rc_ref hr ?_)
    refine Rc.mk ?_
    refine AWP_sr tok [] [4] (fun a σ => a = [(4, .bool true)] ∧ σ = hp E0 [] (M2 + 1)) (fun K hK => ?_) ?_
    ·
     skip
     simp -dsimp -implicitDefEqProofs (maxDischargeDepth := 6)
     exact hK _ _ ⟨rfl, rfl⟩
    rintro a σ ⟨rfl, rfl⟩
    replace H := Option.some.inj H; subst H
    refine AWP_kp [4] [(4, .bool true)] rfl ?_
    refine AWP_ret ?_
    exact ⟨[.bool true], by simp, 4, by simp [encL_nil]⟩
   ·
    obtain ⟨rfl, hx2⟩ := hx
    dsimp only at H
    replace H := Option.some.inj H; subst H; exact hx2
theorem c42 {p0 : gMachine} {r : Bool} (H : s_MachineValid p0 = some r) : APure Try.prog G 42 [.agg [.fsl (encL rI p0.Regs), .int .i64 p0.Pc, .fsl (encL rI p0.Mem)]] (.bool r) := by
 refine APure_fn (fun N0 => ?_) (by simp)
 refine ACalls_fn tok Try.func42 (by kernel_rfl) rfl Try.ntmps42 Try.results42 rfl ?_
 simp only [argsA, Nat.reduceAdd, hp_next]
 unfold s_MachineValid at H
 refine AWP_sr tok [0] [1] (fun a σ => a = [(1, .fptr [.fsl (encL rI p0.Regs), .int .i64 p0.Pc, .fsl (encL rI p0.Mem)] 0)] ∧ σ = hp E0 [] (N0 + 2)) (fun K hK => ?_) ?_
 ·
  skip
  simp -dsimp -implicitDefEqProofs (maxDischargeDepth := 6)
  exact hK _ _ ⟨rfl, rfl⟩
 rintro a σ ⟨rfl, rfl⟩
 obtain ⟨r1, hr1, H⟩ := bindE H
 obtain ⟨g3, hg3, H⟩ := bindE H
 obtain ⟨g5, hg5, H⟩ := bindE H
 obtain ⟨g6, hg6, H⟩ := bindE H
 obtain ⟨g8, hg8, H⟩ := bindE H
 refine AWP_sr tok [] [2] (fun a σ => a = [(2, .bool g8)] ∧ σ = hp E0 [] (N0 + 32)) (fun K hK => ?_) ?_
 ·
  skip
  simp -dsimp -implicitDefEqProofs (maxDischargeDepth := 6)
  refine (c80 hr1).app ?_; try simp -dsimp -implicitDefEqProofs (maxDischargeDepth := 6)
  cases hbg3 : r1
  ·
   replace hg3 := ifF hbg3 hg3
   replace hg3 := Option.some.inj hg3; subst hg3
   try simp -dsimp -implicitDefEqProofs (maxDischargeDepth := 6) [hbg3]
   replace hg5 := ifF rfl hg5
   replace hg5 := Option.some.inj hg5; subst hg5
   try simp -dsimp -implicitDefEqProofs (maxDischargeDepth := 6) [hbg3]
   replace hg6 := ifF rfl hg6
   replace hg6 := Option.some.inj hg6; subst hg6
   try simp -dsimp -implicitDefEqProofs (maxDischargeDepth := 6) [hbg3]
   replace hg8 := ifF rfl hg8
   replace hg8 := Option.some.inj hg8; subst hg8
   try simp -dsimp -implicitDefEqProofs (maxDischargeDepth := 6) [hbg3]
   exact hK _ _ ⟨rfl, rfl⟩
  ·
   replace hg3 := ifT hbg3 hg3
   obtain ⟨v2, hv2, hg3⟩ := bindE hg3
   replace hg3 := Option.some.inj hg3; subst hg3
   try simp -dsimp -implicitDefEqProofs (maxDischargeDepth := 6) [hbg3, ix22 hv2]
   cases hbg5 : (ieq v2 0)
   ·
    replace hg5 := ifF hbg5 hg5
    replace hg5 := Option.some.inj hg5; subst hg5
    try simp -dsimp -implicitDefEqProofs (maxDischargeDepth := 6) [hbg3, ix22 hv2, hbg5]
    replace hg6 := ifF rfl hg6
    replace hg6 := Option.some.inj hg6; subst hg6
    try simp -dsimp -implicitDefEqProofs (maxDischargeDepth := 6) [hbg3, ix22 hv2, hbg5]
    replace hg8 := ifF rfl hg8
    replace hg8 := Option.some.inj hg8; subst hg8
    try simp -dsimp -implicitDefEqProofs (maxDischargeDepth := 6) [hbg3, ix22 hv2, hbg5]
    exact hK _ _ ⟨rfl, rfl⟩
   ·
    replace hg5 := ifT hbg5 hg5
    obtain ⟨r4, hr4, hg5⟩ := bindE hg5
    replace hg5 := Option.some.inj hg5; subst hg5
    try simp -dsimp -implicitDefEqProofs (maxDischargeDepth := 6) [hbg3, ix22 hv2, hbg5]
    refine (c81 hr4).app ?_; try simp -dsimp -implicitDefEqProofs (maxDischargeDepth := 6) [hbg3, ix22 hv2, hbg5]
    cases hbg6 : r4
    ·
     replace hg6 := ifF hbg6 hg6
     replace hg6 := Option.some.inj hg6; subst hg6
     try simp -dsimp -implicitDefEqProofs (maxDischargeDepth := 6) [hbg3, ix22 hv2, hbg5, hbg6]
     replace hg8 := ifF rfl hg8
     replace hg8 := Option.some.inj hg8; subst hg8
     try simp -dsimp -implicitDefEqProofs (maxDischargeDepth := 6) [hbg3, ix22 hv2, hbg5, hbg6]
     exact hK _ _ ⟨rfl, rfl⟩
    ·
     replace hg6 := ifT hbg6 hg6
     replace hg6 := Option.some.inj hg6; subst hg6
     try simp -dsimp -implicitDefEqProofs (maxDischargeDepth := 6) [hbg3, ix22 hv2, hbg5, hbg6]
     cases hbg8 : (ile (ilen p0.Mem) 10000)
     ·
      replace hg8 := ifF hbg8 hg8
      replace hg8 := Option.some.inj hg8; subst hg8
      try simp -dsimp -implicitDefEqProofs (maxDischargeDepth := 6) [hbg3, ix22 hv2, hbg5, hbg6, hbg8]
      exact hK _ _ ⟨rfl, rfl⟩
     ·
      replace hg8 := ifT hbg8 hg8
      obtain ⟨r7, hr7, hg8⟩ := bindE hg8
      replace hg8 := Option.some.inj hg8; subst hg8
      try simp -dsimp -implicitDefEqProofs (maxDischargeDepth := 6) [hbg3, ix22 hv2, hbg5, hbg6, hbg8]
      refine (c80 hr7).app ?_; try simp -dsimp -implicitDefEqProofs (maxDischargeDepth := 6) [hbg3, ix22 hv2, hbg5, hbg6, hbg8]
      exact hK _ _ ⟨rfl, rfl⟩
 rintro a σ ⟨rfl, rfl⟩
 replace H := Option.some.inj H; subst H
 refine AWP_kp [2] [(2, .bool g8)] rfl ?_
 refine AWP_ret ?_
 exact ⟨[.bool g8], by simp, 4, by simp [encL_nil]⟩
theorem c82 {p0 : gBox} {r : Bool} (H : s_BoxValid p0 = some r) : APure Try.prog G 82 [.agg [.int .i64 p0.Room, .fsl (encL rI p0.Items)]] (.bool r) := by
 refine APure_fn (fun N0 => ?_) (by simp)
 refine ACalls_fn tok Try.func82 (by kernel_rfl) rfl Try.ntmps82 Try.results82 rfl ?_
 simp only [argsA, Nat.reduceAdd, hp_next]
 unfold s_BoxValid at H
 refine AWP_sr tok [0] [1] (fun a σ => a = [(1, .fptr [.int .i64 p0.Room, .fsl (encL rI p0.Items)] 0)] ∧ σ = hp E0 [] (N0 + 2)) (fun K hK => ?_) ?_
 ·
  skip
  simp -dsimp -implicitDefEqProofs (maxDischargeDepth := 6)
  exact hK _ _ ⟨rfl, rfl⟩
 rintro a σ ⟨rfl, rfl⟩
 obtain ⟨r1, hr1, H⟩ := bindE H
 obtain ⟨g2, hg2, H⟩ := bindE H
 obtain ⟨g4, hg4, H⟩ := bindE H
 refine AWP_sr tok [] [2] (fun a σ => a = [(2, .bool g4)] ∧ σ = hp E0 [] (N0 + 22)) (fun K hK => ?_) ?_
 ·
  skip
  simp -dsimp -implicitDefEqProofs (maxDischargeDepth := 6)
  refine (c83 hr1).app ?_; try simp -dsimp -implicitDefEqProofs (maxDischargeDepth := 6)
  cases hbg2 : r1
  ·
   replace hg2 := ifF hbg2 hg2
   replace hg2 := Option.some.inj hg2; subst hg2
   try simp -dsimp -implicitDefEqProofs (maxDischargeDepth := 6) [hbg2]
   replace hg4 := ifF rfl hg4
   replace hg4 := Option.some.inj hg4; subst hg4
   try simp -dsimp -implicitDefEqProofs (maxDischargeDepth := 6) [hbg2]
   exact hK _ _ ⟨rfl, rfl⟩
  ·
   replace hg2 := ifT hbg2 hg2
   replace hg2 := Option.some.inj hg2; subst hg2
   try simp -dsimp -implicitDefEqProofs (maxDischargeDepth := 6) [hbg2]
   cases hbg4 : (ile (ilen p0.Items) p0.Room)
   ·
    replace hg4 := ifF hbg4 hg4
    replace hg4 := Option.some.inj hg4; subst hg4
    try simp -dsimp -implicitDefEqProofs (maxDischargeDepth := 6) [hbg2, hbg4]
    exact hK _ _ ⟨rfl, rfl⟩
   ·
    replace hg4 := ifT hbg4 hg4
    obtain ⟨r3, hr3, hg4⟩ := bindE hg4
    replace hg4 := Option.some.inj hg4; subst hg4
    try simp -dsimp -implicitDefEqProofs (maxDischargeDepth := 6) [hbg2, hbg4]
    refine (c80 hr3).app ?_; try simp -dsimp -implicitDefEqProofs (maxDischargeDepth := 6) [hbg2, hbg4]
    exact hK _ _ ⟨rfl, rfl⟩
 rintro a σ ⟨rfl, rfl⟩
 replace H := Option.some.inj H; subst H
 refine AWP_kp [2] [(2, .bool g4)] rfl ?_
 refine AWP_ret ?_
 exact ⟨[.bool g4], by simp, 4, by simp [encL_nil]⟩
theorem c43 {p0 : (List gBox)} {r : Bool} (H : s_l15Boxes p0 = some r) : APure Try.prog G 43 [.fsl (encL rBox p0)] (.bool r) := by
 refine APure_fn (fun N0 => ?_) (by simp)
 refine ACalls_fn tok Try.func43 (by kernel_rfl) rfl Try.ntmps43 Try.results43 rfl ?_
 simp only [argsA, Nat.reduceAdd, hp_next]
 unfold s_l15Boxes at H
 refine AWP_sr tok [] [0] (fun a σ => a = [(0, .fsl (encL rBox p0))] ∧ σ = hp E0 [] (N0 + 1)) (fun K hK => ?_) ?_
 ·
  skip
  simp -dsimp -implicitDefEqProofs (maxDischargeDepth := 6)
  exact hK _ _ ⟨rfl, rfl⟩
 rintro a σ ⟨rfl, rfl⟩
 refine AWP_sq [0] fun K1 hK1 => ?_
 refine AWP_sr tok [] [0, 3] (fun a σ => a = [(0, .fsl (encL rBox p0)), (3, .int .i64 0)] ∧ σ = hp E0 [] (N0 + 2)) (fun K hK => ?_) ?_
 ·
  skip
  simp -dsimp -implicitDefEqProofs (maxDischargeDepth := 6)
  exact hK _ _ ⟨rfl, rfl⟩
 rintro a σ ⟨rfl, rfl⟩
 refine AWP_block (AWP_thenB ?_)
 obtain ⟨e1, hse1, H⟩ := bindE H
 refine AWP_lp [0, 3] (fun s a σ => ∃ M1 : Nat, N0 ≤ M1 ∧ a = [(0, .fsl (encL rBox p0)), (3, .int .i64 s)] ∧ σ = hp E0 [] M1) (fun e x a σ => match e with | .inl s => x = .exit 0 ∧ Rc G 19 N0 (fun a σ => ∃ M2 : Nat, N0 ≤ M2 ∧ a = [(0, .fsl (encL rBox p0))] ∧ σ = hp E0 [] M2) (AAct.keep a [0]) σ | .inr s => x = .ret ∧ ∃ vs, resA T σ a [.tmp 2] = some vs ∧ ∃ d, thawA (fun _ => true) σ d (tupA vs) = .bool s) hse1 ?_ ?_ ?_
 ·
  refine Rc.kp [0, 3] [(0, .fsl (encL rBox p0)), (3, .int .i64 0)] rfl ?_
  exact Rc.fin (AHeap.Sub.refl _) ⟨N0 + 2, (by omega), rfl, rfl⟩
 ·
  clear H hse1
  rintro s1 fl a σ H ⟨M1, fM1_0, rfl, rfl⟩ K2 O2 hK2 hO2
  unfold s_l15Boxes_L1 at H; dsimp only at H
  refine AWP_sq [0, 3] fun K3 hK3 => ?_
  refine AWP_sr tok [] [0, 3, 7] (fun a σ => a = [(0, .fsl (encL rBox p0)), (3, .int .i64 s1), (7, .bool (ilt s1 (ilen p0)))] ∧ σ = hp E0 [] (M1 + 4)) (fun K hK => ?_) ?_
  ·
   skip
   simp -dsimp -implicitDefEqProofs (maxDischargeDepth := 6)
   exact hK _ _ ⟨rfl, rfl⟩
  rintro a σ ⟨rfl, rfl⟩
  refine AWP_cond (ilt s1 (ilen p0)) rfl (fun C1 => ?_) (fun C1 => ?_)
  ·
   replace H := ifT C1 H
   refine AWP_skip ?_
   show K3 _ _
   refine keepE (l := [0, 3]) (x := [(0, .fsl (encL rBox p0)), (3, .int .i64 s1)]) rfl fun a' ha => ?_
   refine hK3 _ _ ?_; rw [ha]
   refine Rc.mk ?_
   refine AWP_sq [0, 3] fun K4 hK4 => ?_
   refine AWP_block (AWP_thenB ?_)
   obtain ⟨v2, hv2, H⟩ := bindE H
   obtain ⟨r3, hr3, H⟩ := bindE H
   refine AWP_sr tok [] [0, 3, 15] (fun a σ => a = [(0, .fsl (encL rBox p0)), (3, .int .i64 s1), (15, .bool (bnot r3))] ∧ σ = hp E0 [] (M1 + 10)) (fun K hK => ?_) ?_
   ·
    skip
    simp -dsimp -implicitDefEqProofs (maxDischargeDepth := 6) [ix29 hv2]
    refine (c82 hr3).app ?_; try simp -dsimp -implicitDefEqProofs (maxDischargeDepth := 6) [ix29 hv2]
    exact hK _ _ ⟨rfl, rfl⟩
   rintro a σ ⟨rfl, rfl⟩
   refine AWP_cond (bnot r3) rfl (fun C2 => ?_) (fun C2 => ?_)
   ·
    replace H := ifT C2 H
    refine AWP_sr tok [] [2] (fun a σ => a = [(2, .bool false)] ∧ σ = hp E0 [] (M1 + 11)) (fun K hK => ?_) ?_
    ·
     skip
     simp -dsimp -implicitDefEqProofs (maxDischargeDepth := 6)
     exact hK _ _ ⟨rfl, rfl⟩
    rintro a σ ⟨rfl, rfl⟩
    replace H := Option.some.inj H; subst H
    refine AWP_kp [2] [(2, .bool false)] rfl ?_
    refine AWP_ret (hO2 _ _ _ _ rfl ⟨rfl, ?_⟩)
    exact ⟨[.bool false], by simp, 4, by simp [encL_nil]⟩
   ·
    replace H := ifF C2 H
    refine AWP_skip ?_
    show K4 _ _
    refine keepE (l := [0, 3]) (x := [(0, .fsl (encL rBox p0)), (3, .int .i64 s1)]) rfl fun a' ha => ?_
    refine hK4 _ _ ?_; rw [ha]
    refine Rc.mk ?_
    refine AWP_rt tok [] [0, 3] (fun a σ => a = [(0, .fsl (encL rBox p0)), (3, .int .i64 (iadd .i64 s1 1))] ∧ σ = hp E0 [] (M1 + 13)) (fun K hK => ?_) ?_
    ·
     skip
     simp -dsimp -implicitDefEqProofs (maxDischargeDepth := 6)
     exact hK _ _ ⟨rfl, rfl⟩
    rintro a σ ⟨ha, rfl⟩
    replace H := Option.some.inj H; subst H
    refine hK2 _ _ _ rfl ?_; rw [ha]
    exact Rc.fin (AHeap.Sub.refl _) ⟨M1 + 13, (by omega), rfl, rfl⟩
  ·
   replace H := ifF C1 H
   replace H := Option.some.inj H; subst H
   refine AWP_exit (hO2 _ _ _ _ rfl ⟨rfl, ?_⟩)
   refine Rc.rw (l := [0]) (X := [(0, .fsl (encL rBox p0))]) rfl ?_
   exact Rc.fin (AHeap.Sub.refl _) ⟨M1 + 4, (by omega), rfl, rfl⟩
 ·
  intro x a σ hx
  rcases e1 with ⟨⟩ | r0
  ·
   obtain ⟨rfl, b, τ, hr, M2, fM2_0, rfl, rfl⟩ := hx
   dsimp only at H
   show K1 _ _
   refine hK1 _ _ (Rc_ref hr ?_)
   refine Rc.mk ?_
   refine AWP_sr tok [] [2] (fun a σ => a = [(2, .bool (ile (ilen p0) 3))] ∧ σ = hp E0 [] (M2 + 4)) (fun K hK => ?_) ?_
   ·
    skip
    simp -dsimp -implicitDefEqProofs (maxDischargeDepth := 6)
    exact hK _ _ ⟨rfl, rfl⟩
   rintro a σ ⟨rfl, rfl⟩
   replace H := Option.some.inj H; subst H
   refine AWP_kp [2] [(2, .bool (ile (ilen p0) 3))] rfl ?_
   refine AWP_ret ?_
   exact ⟨[.bool (ile (ilen p0) 3)], by simp, 4, by simp [encL_nil]⟩
  ·
   obtain ⟨rfl, hx2⟩ := hx
   dsimp only at H
   replace H := Option.some.inj H; subst H; exact hx2
theorem c44 {p0 : gMachine} {p1 : Int} {r : Bool} (H : s_l45Fits p0 p1 = some r) : APure Try.prog G 44 [.fptr [.fsl (encL rI p0.Regs), .int .i64 p0.Pc, .fsl (encL rI p0.Mem)] 0, .int .i64 p1] (.bool r) := by
 refine APure_fn (fun N0 => ?_) (by simp)
 refine ACalls_fn tok Try.func44 (by kernel_rfl) rfl Try.ntmps44 Try.results44 rfl ?_
 simp only [argsA, Nat.reduceAdd, hp_next]
 unfold s_l45Fits at H
 refine AWP_sr tok [] [0, 1] (fun a σ => a = [(0, .fptr [.fsl (encL rI p0.Regs), .int .i64 p0.Pc, .fsl (encL rI p0.Mem)] 0), (1, .int .i64 p1)] ∧ σ = hp E0 [] (N0 + 1)) (fun K hK => ?_) ?_
 ·
  skip
  simp -dsimp -implicitDefEqProofs (maxDischargeDepth := 6)
  exact hK _ _ ⟨rfl, rfl⟩
 rintro a σ ⟨rfl, rfl⟩
 obtain ⟨v1, hv1, H⟩ := bindE H
 refine AWP_sr tok [] [0, 1, 5] (fun a σ => a = [(0, .fptr [.fsl (encL rI p0.Regs), .int .i64 p0.Pc, .fsl (encL rI p0.Mem)] 0), (1, .int .i64 p1), (5, .int .i64 v1)] ∧ σ = hp E0 [] (N0 + 8)) (fun K hK => ?_) ?_
 ·
  skip
  simp -dsimp -implicitDefEqProofs (maxDischargeDepth := 6) [ix22 hv1]
  exact hK _ _ ⟨rfl, rfl⟩
 rintro a σ ⟨rfl, rfl⟩
 refine AWP_sq [0, 1, 5] fun K1 hK1 => ?_
 obtain ⟨g3, hg3, H⟩ := bindE H
 refine AWP_sr tok [] [0, 1, 5, 21] (fun a σ => a = [(0, .fptr [.fsl (encL rI p0.Regs), .int .i64 p0.Pc, .fsl (encL rI p0.Mem)] 0), (1, .int .i64 p1), (5, .int .i64 v1), (21, .bool g3)] ∧ σ = hp E0 [] (N0 + 18)) (fun K hK => ?_) ?_
 ·
  skip
  simp -dsimp -implicitDefEqProofs (maxDischargeDepth := 6)
  cases hbg3 : ine p0.Pc 0
  ·
   replace hg3 := ifF hbg3 hg3
   obtain ⟨r2, hr2, hg3⟩ := bindE hg3
   replace hg3 := Option.some.inj hg3; subst hg3
   try simp -dsimp -implicitDefEqProofs (maxDischargeDepth := 6) [hbg3]
   refine (c83 hr2).app ?_; try simp -dsimp -implicitDefEqProofs (maxDischargeDepth := 6) [hbg3]
   exact hK _ _ ⟨rfl, rfl⟩
  ·
   replace hg3 := ifT hbg3 hg3
   replace hg3 := Option.some.inj hg3; subst hg3
   try simp -dsimp -implicitDefEqProofs (maxDischargeDepth := 6) [hbg3]
   exact hK _ _ ⟨rfl, rfl⟩
 rintro a σ ⟨rfl, rfl⟩
 refine AWP_cond g3 rfl (fun C1 => ?_) (fun C1 => ?_)
 ·
  replace H := ifT C1 H
  refine AWP_sr tok [] [4] (fun a σ => a = [(4, .bool false)] ∧ σ = hp E0 [] (N0 + 19)) (fun K hK => ?_) ?_
  ·
   skip
   simp -dsimp -implicitDefEqProofs (maxDischargeDepth := 6)
   exact hK _ _ ⟨rfl, rfl⟩
  rintro a σ ⟨rfl, rfl⟩
  replace H := Option.some.inj H; subst H
  refine AWP_kp [4] [(4, .bool false)] rfl ?_
  refine AWP_ret ?_
  exact ⟨[.bool false], by simp, 4, by simp [encL_nil]⟩
 ·
  replace H := ifF C1 H
  refine AWP_skip ?_
  show K1 _ _
  refine keepE (l := [0, 1, 5]) (x := [(0, .fptr [.fsl (encL rI p0.Regs), .int .i64 p0.Pc, .fsl (encL rI p0.Mem)] 0), (1, .int .i64 p1), (5, .int .i64 v1)]) rfl fun a' ha => ?_
  refine hK1 _ _ ?_; rw [ha]
  refine Rc.mk ?_
  obtain ⟨g4, hg4, H⟩ := bindE H
  obtain ⟨g7, hg7, H⟩ := bindE H
  refine AWP_sr tok [] [4] (fun a σ => a = [(4, .bool g7)] ∧ σ = hp E0 [] (N0 + 36)) (fun K hK => ?_) ?_
  ·
   skip
   simp -dsimp -implicitDefEqProofs (maxDischargeDepth := 6)
   cases hbg4 : ine v1 1
   ·
    replace hg4 := ifF hbg4 hg4
    replace hg4 := Option.some.inj hg4; subst hg4
    try simp -dsimp -implicitDefEqProofs (maxDischargeDepth := 6) [hbg4]
    replace hg7 := ifF rfl hg7
    obtain ⟨v5, hv5, hg7⟩ := bindE hg7
    obtain ⟨r6, hr6, hg7⟩ := bindE hg7
    replace hg7 := Option.some.inj hg7; subst hg7
    try simp -dsimp -implicitDefEqProofs (maxDischargeDepth := 6) [hbg4, ix22 hv5]
    refine (c83 hr6).app ?_; try simp -dsimp -implicitDefEqProofs (maxDischargeDepth := 6) [hbg4, ix22 hv5]
    exact hK _ _ ⟨rfl, rfl⟩
   ·
    replace hg4 := ifT hbg4 hg4
    replace hg4 := Option.some.inj hg4; subst hg4
    try simp -dsimp -implicitDefEqProofs (maxDischargeDepth := 6) [hbg4]
    cases hbg7 : (ine v1 2)
    ·
     replace hg7 := ifF hbg7 hg7
     obtain ⟨v5, hv5, hg7⟩ := bindE hg7
     obtain ⟨r6, hr6, hg7⟩ := bindE hg7
     replace hg7 := Option.some.inj hg7; subst hg7
     try simp -dsimp -implicitDefEqProofs (maxDischargeDepth := 6) [hbg4, hbg7, ix22 hv5]
     refine (c83 hr6).app ?_; try simp -dsimp -implicitDefEqProofs (maxDischargeDepth := 6) [hbg4, hbg7, ix22 hv5]
     exact hK _ _ ⟨rfl, rfl⟩
    ·
     replace hg7 := ifT hbg7 hg7
     replace hg7 := Option.some.inj hg7; subst hg7
     try simp -dsimp -implicitDefEqProofs (maxDischargeDepth := 6) [hbg4, hbg7]
     exact hK _ _ ⟨rfl, rfl⟩
  rintro a σ ⟨rfl, rfl⟩
  replace H := Option.some.inj H; subst H
  refine AWP_kp [4] [(4, .bool g7)] rfl ?_
  refine AWP_ret ?_
  exact ⟨[.bool g7], by simp, 4, by simp [encL_nil]⟩
theorem c97 {p0 : gBox} {p1 : Int} {r : gBox × Bool} (H : s_BoxPut p0 p1 = some r) : APure Try.prog G 97 [.agg [.int .i64 p0.Room, .fsl (encL rI p0.Items)], .int .i64 p1] (.tup [.agg [.int .i64 r.1.Room, .fsl (encL rI r.1.Items)], .bool r.2]) := by
 refine APure_fn (fun N0 => ?_) (by simp)
 refine ACalls_fn tok Try.func97 (by kernel_rfl) rfl Try.ntmps97 Try.results97 rfl ?_
 simp only [argsA, Nat.reduceAdd, hp_next]
 unfold s_BoxPut at H
 refine AWP_sr tok [0] [1, 2, 4] (fun a σ => a = [(1, .int .i64 p1), (2, .fptr [.int .i64 p0.Room, .fsl (encL rI p0.Items)] 0), (4, .ptr (N0 + 1) 0 0)] ∧ σ = hp E0 [(N0 + 1, some ⟨64, 2, [[.int .i64 0, .nilsl]]⟩)] (N0 + 3)) (fun K hK => ?_) ?_
 ·
  skip
  simp -dsimp -implicitDefEqProofs (maxDischargeDepth := 6)
  exact hK _ _ ⟨rfl, rfl⟩
 rintro a σ ⟨rfl, rfl⟩
 refine AWP_sq [1, 2, 4] fun K1 hK1 => ?_
 refine gWkC AWP_ref (o := (N0 + 1)) (ob := ⟨64, 2, [[.int .i64 0, .nilsl]]⟩) (row := [.int .i64 0, .nilsl]) (r := 0) (i := 1) [(N0 + 1, some ⟨64, 2, [[.int .i64 0, .fsl []]]⟩)] (by simp (disch := omega)) rfl rfl (by simp (disch := omega)) (by simp (disch := omega) [encL_nil, List.set_set, app_set]) ?_
 obtain ⟨r1, hr1, H⟩ := bindE H
 obtain ⟨g3, hg3, H⟩ := bindE H
 obtain ⟨g4, hg4, H⟩ := bindE H
 refine AWP_sr tok [] [1, 2, 4, 21] (fun a σ => a = [(1, .int .i64 p1), (2, .fptr [.int .i64 p0.Room, .fsl (encL rI p0.Items)] 0), (4, .ptr (N0 + 1) 0 0), (21, .bool g4)] ∧ σ = hp E0 [(N0 + 1, some ⟨64, 2, [[.int .i64 0, .fsl []]]⟩)] (N0 + 19)) (fun K hK => ?_) ?_
 ·
  skip
  simp -dsimp -implicitDefEqProofs (maxDischargeDepth := 6)
  refine (c82 hr1).app ?_; try simp -dsimp -implicitDefEqProofs (maxDischargeDepth := 6)
  cases hbg3 : bnot r1
  ·
   replace hg3 := ifF hbg3 hg3
   obtain ⟨r2, hr2, hg3⟩ := bindE hg3
   replace hg3 := Option.some.inj hg3; subst hg3
   try simp -dsimp -implicitDefEqProofs (maxDischargeDepth := 6) [hbg3]
   refine (c81 hr2).app ?_; try simp -dsimp -implicitDefEqProofs (maxDischargeDepth := 6) [hbg3]
   cases hbg4 : (bnot r2)
   ·
    replace hg4 := ifF hbg4 hg4
    replace hg4 := Option.some.inj hg4; subst hg4
    try simp -dsimp -implicitDefEqProofs (maxDischargeDepth := 6) [hbg3, hbg4]
    exact hK _ _ ⟨rfl, rfl⟩
   ·
    replace hg4 := ifT hbg4 hg4
    replace hg4 := Option.some.inj hg4; subst hg4
    try simp -dsimp -implicitDefEqProofs (maxDischargeDepth := 6) [hbg3, hbg4]
    exact hK _ _ ⟨rfl, rfl⟩
  ·
   replace hg3 := ifT hbg3 hg3
   replace hg3 := Option.some.inj hg3; subst hg3
   try simp -dsimp -implicitDefEqProofs (maxDischargeDepth := 6) [hbg3]
   replace hg4 := ifT rfl hg4
   replace hg4 := Option.some.inj hg4; subst hg4
   try simp -dsimp -implicitDefEqProofs (maxDischargeDepth := 6) [hbg3]
   exact hK _ _ ⟨rfl, rfl⟩
 rintro a σ ⟨rfl, rfl⟩
 refine AWP_cond g4 rfl (fun C1 => ?_) (fun C1 => ?_)
 ·
  replace H := ifT C1 H
  refine AWP_sr tok [] [4, 5] (fun a σ => a = [(4, .ptr (N0 + 1) 0 0), (5, .bool false)] ∧ σ = hp E0 [(N0 + 1, some ⟨64, 2, [[.int .i64 0, .fsl []]]⟩)] (N0 + 22)) (fun K hK => ?_) ?_
  ·
   skip
   simp -dsimp -implicitDefEqProofs (maxDischargeDepth := 6)
   exact hK _ _ ⟨rfl, rfl⟩
  rintro a σ ⟨rfl, rfl⟩
  replace H := Option.some.inj H; subst H
  refine AWP_kp [4, 5] [(4, .ptr (N0 + 1) 0 0), (5, .bool false)] rfl ?_
  refine AWP_ret ?_
  exact ⟨[.agg [.int .i64 0, .fsl []], .bool false], by simp, 4, by simp [encL_nil]⟩
 ·
  replace H := ifF C1 H
  refine AWP_skip ?_
  show K1 _ _
  refine keepE (l := [1, 2, 4]) (x := [(1, .int .i64 p1), (2, .fptr [.int .i64 p0.Room, .fsl (encL rI p0.Items)] 0), (4, .ptr (N0 + 1) 0 0)]) rfl fun a' ha => ?_
  refine hK1 _ _ ?_; rw [ha]
  refine Rc.mk ?_
  obtain ⟨l5, hl5, H⟩ := bindE H
  obtain ⟨l6, hl6, H⟩ := bindE H
  have q0 : ∀ σ i, buildSliceA T 22 true i 0 [] σ = some (.esl, σ) := fun _ _ => rfl
  have q1 : ∀ σ i, buildSliceA T 22 true i 1 [(0, .int .i64 p1)] σ = some (.fsl (encL rI ([p1] : List Int)), σ) := fun _ _ => rfl
  refine AWP_sd tok tokM [2, 7] [5, 8, 10] [0, 1, 2, 3, 4, 6, 7, 5, 8, 9, 10, 11] [4, 5] (fun a σ => a = [(4, .ptr (N0 + 1) 0 0), (5, .bool true)] ∧ σ = hp E0 [(N0 + 1, some ⟨64, 2, [[.int .i64 p0.Room, .sl (N0 + 27) 0 l6.length]]⟩), (N0 + 27, some ⟨3, 1, encL rI l6⟩)] (N0 + 31)) (by decide) (fun K hK => ?_) ?_
  ·
   simp only [pickL, nthO_succ, nthO_zero]
   simp -dsimp -implicitDefEqProofs (maxDischargeDepth := 6) [q0, q1, appe22 hl5, app22 hl6]
   exact hK _ _ ⟨rfl, rfl⟩
  rintro a σ ⟨rfl, rfl⟩
  replace H := Option.some.inj H; subst H
  refine AWP_kp [4, 5] [(4, .ptr (N0 + 1) 0 0), (5, .bool true)] rfl ?_
  refine AWP_ret ?_
  exact ⟨[.agg [.int .i64 p0.Room, .sl (N0 + 27) 0 l6.length], .bool true], by simp, 4, by simp [encL_nil]⟩
theorem c98 {p0 : gBox} {r : gBox × Int × Bool} (H : s_BoxTake p0 = some r) : APure Try.prog G 98 [.agg [.int .i64 p0.Room, .fsl (encL rI p0.Items)]] (.tup [.agg [.int .i64 r.1.Room, .fsl (encL rI r.1.Items)], .int .i64 r.2.1, .bool r.2.2]) := by
 refine APure_fn (fun N0 => ?_) (by simp)
 refine ACalls_fn tok Try.func98 (by kernel_rfl) rfl Try.ntmps98 Try.results98 rfl ?_
 simp only [argsA, Nat.reduceAdd, hp_next]
 unfold s_BoxTake at H
 refine AWP_sr tok [0] [1, 2] (fun a σ => a = [(1, .fptr [.int .i64 p0.Room, .fsl (encL rI p0.Items)] 0), (2, .ptr (N0 + 1) 0 0)] ∧ σ = hp E0 [(N0 + 1, some ⟨64, 2, [[.int .i64 0, .nilsl]]⟩)] (N0 + 4)) (fun K hK => ?_) ?_
 ·
  skip
  simp -dsimp -implicitDefEqProofs (maxDischargeDepth := 6)
  exact hK _ _ ⟨rfl, rfl⟩
 rintro a σ ⟨rfl, rfl⟩
 refine AWP_sq [1, 2] fun K1 hK1 => ?_
 refine gWkC AWP_ref (o := (N0 + 1)) (ob := ⟨64, 2, [[.int .i64 0, .nilsl]]⟩) (row := [.int .i64 0, .nilsl]) (r := 0) (i := 1) [(N0 + 1, some ⟨64, 2, [[.int .i64 0, .fsl []]]⟩)] (by simp (disch := omega)) rfl rfl (by simp (disch := omega)) (by simp (disch := omega) [encL_nil, List.set_set, app_set]) ?_
 obtain ⟨r1, hr1, H⟩ := bindE H
 obtain ⟨g2, hg2, H⟩ := bindE H
 refine AWP_sr tok [] [1, 2, 13] (fun a σ => a = [(1, .fptr [.int .i64 p0.Room, .fsl (encL rI p0.Items)] 0), (2, .ptr (N0 + 1) 0 0), (13, .bool g2)] ∧ σ = hp E0 [(N0 + 1, some ⟨64, 2, [[.int .i64 0, .fsl []]]⟩)] (N0 + 13)) (fun K hK => ?_) ?_
 ·
  skip
  simp -dsimp -implicitDefEqProofs (maxDischargeDepth := 6)
  refine (c82 hr1).app ?_; try simp -dsimp -implicitDefEqProofs (maxDischargeDepth := 6)
  cases hbg2 : bnot r1
  ·
   replace hg2 := ifF hbg2 hg2
   replace hg2 := Option.some.inj hg2; subst hg2
   try simp -dsimp -implicitDefEqProofs (maxDischargeDepth := 6) [hbg2]
   exact hK _ _ ⟨rfl, rfl⟩
  ·
   replace hg2 := ifT hbg2 hg2
   replace hg2 := Option.some.inj hg2; subst hg2
   try simp -dsimp -implicitDefEqProofs (maxDischargeDepth := 6) [hbg2]
   exact hK _ _ ⟨rfl, rfl⟩
 rintro a σ ⟨rfl, rfl⟩
 refine AWP_cond g2 rfl (fun C1 => ?_) (fun C1 => ?_)
 ·
  replace H := ifT C1 H
  refine AWP_sr tok [] [2, 3, 4] (fun a σ => a = [(2, .ptr (N0 + 1) 0 0), (3, .int .i64 0), (4, .bool false)] ∧ σ = hp E0 [(N0 + 1, some ⟨64, 2, [[.int .i64 0, .fsl []]]⟩)] (N0 + 17)) (fun K hK => ?_) ?_
  ·
   skip
   simp -dsimp -implicitDefEqProofs (maxDischargeDepth := 6)
   exact hK _ _ ⟨rfl, rfl⟩
  rintro a σ ⟨rfl, rfl⟩
  replace H := Option.some.inj H; subst H
  refine AWP_kp [2, 3, 4] [(2, .ptr (N0 + 1) 0 0), (3, .int .i64 0), (4, .bool false)] rfl ?_
  refine AWP_ret ?_
  exact ⟨[.agg [.int .i64 0, .fsl []], .int .i64 0, .bool false], by simp, 4, by simp [encL_nil]⟩
 ·
  replace H := ifF C1 H
  refine AWP_skip ?_
  show K1 _ _
  refine keepE (l := [1, 2]) (x := [(1, .fptr [.int .i64 p0.Room, .fsl (encL rI p0.Items)] 0), (2, .ptr (N0 + 1) 0 0)]) rfl fun a' ha => ?_
  refine hK1 _ _ ?_; rw [ha]
  refine Rc.mk ?_
  obtain ⟨l3, hl3, H⟩ := bindE H
  obtain ⟨l4, hl4, H⟩ := bindE H
  obtain ⟨v5, hv5, H⟩ := bindE H
  have q0 : ∀ σ i, buildSliceA T 22 true i 0 [] σ = some (.esl, σ) := fun _ _ => rfl
  refine AWP_sd tok tokM [2, 6] [12] [0, 1, 2, 3, 4, 5, 6, 7, 8, 9, 10, 11, 12, 13, 14] [2, 3, 4] (fun a σ => a = [(2, .ptr (N0 + 1) 0 0), (3, .int .i64 v5), (4, .bool true)] ∧ σ = hp E0 [(N0 + 1, some ⟨64, 2, [[.int .i64 p0.Room, .fsl (encL rI l4)]]⟩)] (N0 + 28)) (by decide) (fun K hK => ?_) ?_
  ·
   simp only [pickL, nthO_succ, nthO_zero]
   simp -dsimp -implicitDefEqProofs (maxDischargeDepth := 6) [q0, cutl_22 hl3, appf22 hl4, ix22 hv5]
   exact hK _ _ ⟨rfl, rfl⟩
  rintro a σ ⟨rfl, rfl⟩
  replace H := Option.some.inj H; subst H
  refine AWP_kp [2, 3, 4] [(2, .ptr (N0 + 1) 0 0), (3, .int .i64 v5), (4, .bool true)] rfl ?_
  refine AWP_ret ?_
  exact ⟨[.agg [.int .i64 p0.Room, .fsl (encL rI l4)], .int .i64 v5, .bool true], by simp, 4, by simp [encL_nil]⟩
theorem c84 {p0 : gMachine} {p1 : (List gBox)} {r : Int × gMachine × (List gBox)} (H : s_l45Talk p0 p1 = some r) {σ : AHeap} {w0 : Nat} {W0 : List (List AV)} {r0_ : Nat} {w1 : Nat} (q0 : σ.objs w0 = some ⟨28, 3, W0⟩) (g0 : W0[r0_]? = some [.osl 3 1 (encL rI p0.Regs), .int .i64 p0.Pc, .fsl (encL rI p0.Mem)]) (q1 : σ.objs w1 = some ⟨64, 2, encL rBox p1⟩) (d0_1 : ¬ w0 = w1) : ACalls Try.prog G 84 [.ptr w0 r0_ 0, .sl w1 0 p1.length] σ (fun v σ' => ∃ M : Nat, σ.next ≤ M ∧ r.2.2.length = p1.length ∧ v = .int .i64 r.1 ∧ σ' = hp σ.objs [(w0, some ⟨28, 3, W0.set r0_ [.osl 3 1 (encL rI r.2.1.Regs), .int .i64 r.2.1.Pc, .fsl (encL rI r.2.1.Mem)]⟩), (w1, some ⟨64, 2, encL rBox r.2.2⟩)] M) := by
 refine ACalls_fr (L := [(w0, some ⟨28, 3, W0⟩), (w1, some ⟨64, 2, encL rBox p1⟩)]) (Q1 := fun v σ' => ∃ M : Nat, σ.next ≤ M ∧ r.2.2.length = p1.length ∧ v = .int .i64 r.1 ∧ σ' = hp E0 [(w0, some ⟨28, 3, W0.set r0_ [.osl 3 1 (encL rI r.2.1.Regs), .int .i64 r.2.1.Pc, .fsl (encL rI r.2.1.Mem)]⟩), (w1, some ⟨64, 2, encL rBox r.2.2⟩)] M) (by simp [q0, q1]) (fun hlt => ?_) ?_ ⟨_, Try.func84, rfl, rfl⟩
 rotate_left
 ·
  rintro v σ1 ⟨M, h0, h1, rfl, rfl⟩
  exact ⟨_, M, rfl, by simp, by simp; try omega, M, h0, h1, rfl, rfl⟩
 generalize σ.next = N0 at hlt ⊢
 have lw0 : w0 < N0 := hlt _ (.head _) rfl
 have lw1 : w1 < N0 := hlt _ (.tail _ (.head _)) rfl
 have gs_W0 : ∀ x, (W0.set r0_ x)[r0_]? = some x := gsetW g0
 rw [show W0 = W0.set r0_ [.osl 3 1 (encL rI p0.Regs), .int .i64 p0.Pc, .fsl (encL rI p0.Mem)] from (set_same g0).symm]
 refine ACalls_fn tok Try.func84 (by kernel_rfl) rfl Try.ntmps84 Try.results84 rfl ?_
 simp only [argsA, Nat.reduceAdd, hp_next]
 unfold s_l45Talk at H
 refine AWP_sr tok [] [0, 1] (fun a σ => a = [(0, .ptr w0 r0_ 0), (1, .sl w1 0 p1.length)] ∧ σ = hp E0 [(w0, some ⟨28, 3, W0.set r0_ [.osl 3 1 (encL rI p0.Regs), .int .i64 p0.Pc, .fsl (encL rI p0.Mem)]⟩), (w1, some ⟨64, 2, encL rBox p1⟩)] (N0 + 1)) (fun K hK => ?_) ?_
 ·
  skip
  have e0 := nq (a := w0) (b := w1) (by omega)
  simp -dsimp -implicitDefEqProofs (maxDischargeDepth := 6) [e0, gs_W0, List.set_set]
  exact hK _ _ ⟨rfl, rfl⟩
 rintro a σ ⟨rfl, rfl⟩
 refine gUnp AWP_ref (ty := 3) (sz := 1) (es := encL rI p0.Regs) (o := w0) (ob := ⟨28, 3, W0.set r0_ [.osl 3 1 (encL rI p0.Regs), .int .i64 p0.Pc, .fsl (encL rI p0.Mem)]⟩) (row := [.osl 3 1 (encL rI p0.Regs), .int .i64 p0.Pc, .fsl (encL rI p0.Mem)]) (r := r0_) (i := 0) [(w0, some ⟨28, 3, W0.set r0_ [.sl (N0 + 1) 0 p0.Regs.length, .int .i64 p0.Pc, .fsl (encL rI p0.Mem)]⟩), (w1, some ⟨64, 2, encL rBox p1⟩), (N0 + 1, some ⟨3, 1, encL rI p0.Regs⟩)] (by simp (disch := omega)) (by simp (disch := omega) [gs_W0]) rfl (by simp (disch := omega) [List.set_set]) ?_
 obtain ⟨v1, hv1, H⟩ := bindE H
 refine AWP_sr tok [] [0, 1, 5] (fun a σ => a = [(0, .ptr w0 r0_ 0), (1, .sl w1 0 p1.length), (5, .int .i64 v1)] ∧ σ = hp E0 [(w0, some ⟨28, 3, W0.set r0_ [.sl (N0 + 1) 0 p0.Regs.length, .int .i64 p0.Pc, .fsl (encL rI p0.Mem)]⟩), (w1, some ⟨64, 2, encL rBox p1⟩), (N0 + 1, some ⟨3, 1, encL rI p0.Regs⟩)] (N0 + 9)) (fun K hK => ?_) ?_
 ·
  skip
  have e0 := nq (a := w0) (b := w1) (by omega)
  have e1 := nq (a := w0) (b := N0 + 1) (by omega)
  have e2 := nq (a := w1) (b := N0 + 1) (by omega)
  simp -dsimp -implicitDefEqProofs (maxDischargeDepth := 6) [e0, e1, e2, gs_W0, List.set_set, ixo22 hv1, (show _[11]? = some v1 from (idx_lt3 hv1).2.2)]
  exact hK _ _ ⟨rfl, rfl⟩
 rintro a σ ⟨rfl, rfl⟩
 refine AWP_sq [0, 1, 5] fun K1 hK1 => ?_
 obtain ⟨v2, hv2, H⟩ := bindE H
 refine AWP_sr tok [] [0, 1, 5, 23] (fun a σ => a = [(0, .ptr w0 r0_ 0), (1, .sl w1 0 p1.length), (5, .int .i64 v1), (23, .bool (ieq v2 1))] ∧ σ = hp E0 [(w0, some ⟨28, 3, W0.set r0_ [.sl (N0 + 1) 0 p0.Regs.length, .int .i64 p0.Pc, .fsl (encL rI p0.Mem)]⟩), (w1, some ⟨64, 2, encL rBox p1⟩), (N0 + 1, some ⟨3, 1, encL rI p0.Regs⟩)] (N0 + 16)) (fun K hK => ?_) ?_
 ·
  skip
  have e0 := nq (a := w0) (b := w1) (by omega)
  have e1 := nq (a := w0) (b := N0 + 1) (by omega)
  have e2 := nq (a := w1) (b := N0 + 1) (by omega)
  simp -dsimp -implicitDefEqProofs (maxDischargeDepth := 6) [e0, e1, e2, gs_W0, List.set_set, ixo22 hv2, (show _[17]? = some v2 from (idx_lt3 hv2).2.2)]
  exact hK _ _ ⟨rfl, rfl⟩
 rintro a σ ⟨rfl, rfl⟩
 refine AWP_cond (ieq v2 1) rfl (fun C1 => ?_) (fun C1 => ?_)
 ·
  replace H := ifT C1 H
  refine gPk AWP_ref (k := p0.Regs.length) (o := w0) (ob := ⟨28, 3, W0.set r0_ [.sl (N0 + 1) 0 p0.Regs.length, .int .i64 p0.Pc, .fsl (encL rI p0.Mem)]⟩) (row := [.sl (N0 + 1) 0 p0.Regs.length, .int .i64 p0.Pc, .fsl (encL rI p0.Mem)]) (d := (N0 + 1)) (obd := ⟨3, 1, encL rI p0.Regs⟩) (r := r0_) (i := 0) [(w0, some ⟨28, 3, W0.set r0_ [.osl 3 1 (encL rI p0.Regs), .int .i64 p0.Pc, .fsl (encL rI p0.Mem)]⟩), (w1, some ⟨64, 2, encL rBox p1⟩)] (by simp (disch := omega)) (by simp (disch := omega) [gs_W0]) rfl (by simp (disch := omega)) (by simp (disch := omega)) (by first | omega | simp) (by simp (disch := omega) [List.set_set, app_set] <;> omega) (by simp (disch := omega) [List.set_set, app_set]) ?_
  refine gUnp AWP_ref (ty := 3) (sz := 1) (es := encL rI p0.Regs) (o := w0) (ob := ⟨28, 3, W0.set r0_ [.osl 3 1 (encL rI p0.Regs), .int .i64 p0.Pc, .fsl (encL rI p0.Mem)]⟩) (row := [.osl 3 1 (encL rI p0.Regs), .int .i64 p0.Pc, .fsl (encL rI p0.Mem)]) (r := r0_) (i := 0) [(w0, some ⟨28, 3, W0.set r0_ [.sl (N0 + 16) 0 p0.Regs.length, .int .i64 p0.Pc, .fsl (encL rI p0.Mem)]⟩), (w1, some ⟨64, 2, encL rBox p1⟩), (N0 + 16, some ⟨3, 1, encL rI p0.Regs⟩)] (by simp (disch := omega)) (by simp (disch := omega) [gs_W0]) rfl (by simp (disch := omega) [List.set_set]) ?_
  obtain ⟨v4, hv4, H⟩ := bindE H
  obtain ⟨v5, hv5, H⟩ := bindE H
  obtain ⟨r6, hr6, H⟩ := bindE H
  refine AWP_sy tok tokM [] [2, 3, 7, 8, 9, 14, 15] [0, 1, 4, 5, 6, 2, 3, 7, 8, 9, 10, 11, 12, 13, 14, 15, 16] [(14, [2, 3, 7, 8, 9])] [0, 1, 5, 6, 7] (fun a σ => a = [(0, .ptr w0 r0_ 0), (1, .sl w1 0 p1.length), (5, .int .i64 v1), (6, .ptr (N0 + 31) 0 0), (7, .bool r6.2)] ∧ σ = hp E0 [(w0, some ⟨28, 3, W0.set r0_ [.sl (N0 + 16) 0 p0.Regs.length, .int .i64 p0.Pc, .fsl (encL rI p0.Mem)]⟩), (w1, some ⟨64, 2, encL rBox p1⟩), (N0 + 16, some ⟨3, 1, encL rI p0.Regs⟩), (N0 + 31, some ⟨64, 2, [[.int .i64 r6.1.Room, .fsl (encL rI r6.1.Items)]]⟩)] (N0 + 34)) (by decide) (fun K hK => ?_) ?_
  ·
   simp only [pickL, nthO_succ, nthO_zero]
   have e0 := nq (a := w0) (b := w1) (by omega)
   have e1 := nq (a := w0) (b := N0 + 16) (by omega)
   have e2 := nq (a := w0) (b := N0 + 31) (by omega)
   have e3 := nq (a := w1) (b := N0 + 16) (by omega)
   have e4 := nq (a := w1) (b := N0 + 31) (by omega)
   simp -dsimp -implicitDefEqProofs (maxDischargeDepth := 6) [e0, e1, e2, e3, e4, gs_W0, List.set_set, ixo29 hv4, (idx_lt3 hv4).2.2, ixo22 hv5, (show _[10]? = some v5 from (idx_lt3 hv5).2.2)]
   refine Pc.mk (c97 hr6) ?_; try simp -dsimp -implicitDefEqProofs (maxDischargeDepth := 6) [e0, e1, e2, e3, e4, gs_W0, List.set_set, ixo29 hv4, (idx_lt3 hv4).2.2, ixo22 hv5, (show _[10]? = some v5 from (idx_lt3 hv5).2.2)]
   exact hK _ _ ⟨rfl, rfl⟩
  rintro a σ ⟨rfl, rfl⟩
  refine AWP_sq [0, 1, 5, 6] fun K2 hK2 => ?_
  refine AWP_sr tok [] [0, 1, 5, 6, 39] (fun a σ => a = [(0, .ptr w0 r0_ 0), (1, .sl w1 0 p1.length), (5, .int .i64 v1), (6, .ptr (N0 + 31) 0 0), (39, .bool (bnot r6.2))] ∧ σ = hp E0 [(w0, some ⟨28, 3, W0.set r0_ [.sl (N0 + 16) 0 p0.Regs.length, .int .i64 p0.Pc, .fsl (encL rI p0.Mem)]⟩), (w1, some ⟨64, 2, encL rBox p1⟩), (N0 + 16, some ⟨3, 1, encL rI p0.Regs⟩), (N0 + 31, some ⟨64, 2, [[.int .i64 r6.1.Room, .fsl (encL rI r6.1.Items)]]⟩)] (N0 + 36)) (fun K hK => ?_) ?_
  ·
   skip
   have e0 := nq (a := w0) (b := w1) (by omega)
   have e1 := nq (a := w0) (b := N0 + 16) (by omega)
   have e2 := nq (a := w0) (b := N0 + 31) (by omega)
   have e3 := nq (a := w1) (b := N0 + 16) (by omega)
   have e4 := nq (a := w1) (b := N0 + 31) (by omega)
   simp -dsimp -implicitDefEqProofs (maxDischargeDepth := 6) [e0, e1, e2, e3, e4, gs_W0, List.set_set]
   exact hK _ _ ⟨rfl, rfl⟩
  rintro a σ ⟨rfl, rfl⟩
  refine AWP_cond (bnot r6.2) rfl (fun C2 => ?_) (fun C2 => ?_)
  ·
   replace H := ifT C2 H
   refine AWP_sr tok [] [4] (fun a σ => a = [(4, .int .i64 3)] ∧ σ = hp E0 [(w0, some ⟨28, 3, W0.set r0_ [.sl (N0 + 16) 0 p0.Regs.length, .int .i64 p0.Pc, .fsl (encL rI p0.Mem)]⟩), (w1, some ⟨64, 2, encL rBox p1⟩), (N0 + 16, some ⟨3, 1, encL rI p0.Regs⟩), (N0 + 31, some ⟨64, 2, [[.int .i64 r6.1.Room, .fsl (encL rI r6.1.Items)]]⟩)] (N0 + 37)) (fun K hK => ?_) ?_
   ·
    skip
    have e0 := nq (a := w0) (b := w1) (by omega)
    have e1 := nq (a := w0) (b := N0 + 16) (by omega)
    have e2 := nq (a := w0) (b := N0 + 31) (by omega)
    have e3 := nq (a := w1) (b := N0 + 16) (by omega)
    have e4 := nq (a := w1) (b := N0 + 31) (by omega)
    simp -dsimp -implicitDefEqProofs (maxDischargeDepth := 6) [e0, e1, e2, e3, e4, gs_W0, List.set_set]
    exact hK _ _ ⟨rfl, rfl⟩
   rintro a σ ⟨rfl, rfl⟩
   replace H := Option.some.inj H; subst H
   refine AWP_kp [4] [(4, .int .i64 3)] rfl ?_
   refine gPk AWP_ref (k := p0.Regs.length) (o := w0) (ob := ⟨28, 3, W0.set r0_ [.sl (N0 + 16) 0 p0.Regs.length, .int .i64 p0.Pc, .fsl (encL rI p0.Mem)]⟩) (row := [.sl (N0 + 16) 0 p0.Regs.length, .int .i64 p0.Pc, .fsl (encL rI p0.Mem)]) (d := (N0 + 16)) (obd := ⟨3, 1, encL rI p0.Regs⟩) (r := r0_) (i := 0) [(w0, some ⟨28, 3, W0.set r0_ [.osl 3 1 (encL rI p0.Regs), .int .i64 p0.Pc, .fsl (encL rI p0.Mem)]⟩), (w1, some ⟨64, 2, encL rBox p1⟩), (N0 + 31, some ⟨64, 2, [[.int .i64 r6.1.Room, .fsl (encL rI r6.1.Items)]]⟩)] (by simp (disch := omega)) (by simp (disch := omega) [gs_W0]) rfl (by simp (disch := omega)) (by simp (disch := omega)) (by first | omega | simp) (by simp (disch := omega) [List.set_set, app_set] <;> omega) (by simp (disch := omega) [List.set_set, app_set]) ?_
   have z0 := nq (a := w0) (b := w1) (by omega)
   have z1 := nq (a := w0) (b := N0 + 31) (by omega)
   have z2 := nq (a := w1) (b := N0 + 31) (by omega)
   refine gDrop AWP_ref [(w0, some ⟨28, 3, W0.set r0_ [.osl 3 1 (encL rI p0.Regs), .int .i64 p0.Pc, .fsl (encL rI p0.Mem)]⟩), (w1, some ⟨64, 2, encL rBox p1⟩)] (hp_skip (hp_skip (AHeap.Sub.trans (AHeap.Sub.refl _) (hp_drop rfl (by simp; try omega))))) ?_
   refine AWP_ret ?_
   refine ⟨[.int .i64 3], by simp [z0, z1, z2, gs_W0], N0 + 37, by omega, by first | rfl | exact rfl | omega, ?_, ?_⟩
   ·
    simp [encL_nil]
   ·
    first | rfl | simp [List.set_set]
  ·
   replace H := ifF C2 H
   refine AWP_skip ?_
   show K2 _ _
   refine keepE (l := [0, 1, 5, 6]) (x := [(0, .ptr w0 r0_ 0), (1, .sl w1 0 p1.length), (5, .int .i64 v1), (6, .ptr (N0 + 31) 0 0)]) rfl fun a' ha => ?_
   refine hK2 _ _ ?_; rw [ha]
   refine Rc.mk ?_
   obtain ⟨l7, hl7, H⟩ := bindE H
   refine AWP_sr tok [] [0] (fun a σ => a = [(0, .ptr w0 r0_ 0)] ∧ σ = hp E0 [(w0, some ⟨28, 3, W0.set r0_ [.sl (N0 + 16) 0 p0.Regs.length, .int .i64 p0.Pc, .fsl (encL rI p0.Mem)]⟩), (w1, some ⟨64, 2, encL rBox l7⟩), (N0 + 16, some ⟨3, 1, encL rI p0.Regs⟩), (N0 + 31, some ⟨64, 2, [[.int .i64 r6.1.Room, .fsl (encL rI r6.1.Items)]]⟩)] (N0 + 41)) (fun K hK => ?_) ?_
   ·
    skip
    have e0 := nq (a := w0) (b := w1) (by omega)
    have e1 := nq (a := w0) (b := N0 + 16) (by omega)
    have e2 := nq (a := w0) (b := N0 + 31) (by omega)
    have e3 := nq (a := w1) (b := N0 + 16) (by omega)
    have e4 := nq (a := w1) (b := N0 + 31) (by omega)
    simp -dsimp -implicitDefEqProofs (maxDischargeDepth := 6) [e0, e1, e2, e3, e4, gs_W0, List.set_set, ixo29 hv4, (idx_lt3 hv4).2.2, (setx_iff.1 hl7).2.symm]
    exact hK _ _ ⟨rfl, rfl⟩
   rintro a σ ⟨rfl, rfl⟩
   try rw [← setx_len hl7]
   obtain ⟨v8, hv8, H⟩ := bindE H
   refine AWP_sr tok [] [] (fun a σ => a = [] ∧ σ = hp E0 [(w0, some ⟨28, 3, W0.set r0_ [.sl (N0 + 16) 0 p0.Regs.length, .int .i64 v8, .fsl (encL rI p0.Mem)]⟩), (w1, some ⟨64, 2, encL rBox l7⟩), (N0 + 16, some ⟨3, 1, encL rI p0.Regs⟩), (N0 + 31, some ⟨64, 2, [[.int .i64 r6.1.Room, .fsl (encL rI r6.1.Items)]]⟩)] (N0 + 51)) (fun K hK => ?_) ?_
   ·
    skip
    have e0 := nq (a := w0) (b := w1) (by omega)
    have e1 := nq (a := w0) (b := N0 + 16) (by omega)
    have e2 := nq (a := w0) (b := N0 + 31) (by omega)
    have e3 := nq (a := w1) (b := N0 + 16) (by omega)
    have e4 := nq (a := w1) (b := N0 + 31) (by omega)
    simp -dsimp -implicitDefEqProofs (maxDischargeDepth := 6) [e0, e1, e2, e3, e4, gs_W0, List.set_set, ixo22 hv8, (show _[1]? = some v8 from (idx_lt3 hv8).2.2)]
    exact hK _ _ ⟨rfl, rfl⟩
   rintro a σ ⟨rfl, rfl⟩
   refine AWP_sr tok [] [4] (fun a σ => a = [(4, .int .i64 1)] ∧ σ = hp E0 [(w0, some ⟨28, 3, W0.set r0_ [.sl (N0 + 16) 0 p0.Regs.length, .int .i64 v8, .fsl (encL rI p0.Mem)]⟩), (w1, some ⟨64, 2, encL rBox l7⟩), (N0 + 16, some ⟨3, 1, encL rI p0.Regs⟩), (N0 + 31, some ⟨64, 2, [[.int .i64 r6.1.Room, .fsl (encL rI r6.1.Items)]]⟩)] (N0 + 52)) (fun K hK => ?_) ?_
   ·
    skip
    have e0 := nq (a := w0) (b := w1) (by omega)
    have e1 := nq (a := w0) (b := N0 + 16) (by omega)
    have e2 := nq (a := w0) (b := N0 + 31) (by omega)
    have e3 := nq (a := w1) (b := N0 + 16) (by omega)
    have e4 := nq (a := w1) (b := N0 + 31) (by omega)
    simp -dsimp -implicitDefEqProofs (maxDischargeDepth := 6) [e0, e1, e2, e3, e4, gs_W0, List.set_set]
    exact hK _ _ ⟨rfl, rfl⟩
   rintro a σ ⟨rfl, rfl⟩
   replace H := Option.some.inj H; subst H
   refine AWP_kp [4] [(4, .int .i64 1)] rfl ?_
   refine gPk AWP_ref (k := p0.Regs.length) (o := w0) (ob := ⟨28, 3, W0.set r0_ [.sl (N0 + 16) 0 p0.Regs.length, .int .i64 v8, .fsl (encL rI p0.Mem)]⟩) (row := [.sl (N0 + 16) 0 p0.Regs.length, .int .i64 v8, .fsl (encL rI p0.Mem)]) (d := (N0 + 16)) (obd := ⟨3, 1, encL rI p0.Regs⟩) (r := r0_) (i := 0) [(w0, some ⟨28, 3, W0.set r0_ [.osl 3 1 (encL rI p0.Regs), .int .i64 v8, .fsl (encL rI p0.Mem)]⟩), (w1, some ⟨64, 2, encL rBox l7⟩), (N0 + 31, some ⟨64, 2, [[.int .i64 r6.1.Room, .fsl (encL rI r6.1.Items)]]⟩)] (by simp (disch := omega)) (by simp (disch := omega) [gs_W0]) rfl (by simp (disch := omega)) (by simp (disch := omega)) (by first | omega | simp) (by simp (disch := omega) [List.set_set, app_set] <;> omega) (by simp (disch := omega) [List.set_set, app_set]) ?_
   have z3 := nq (a := w0) (b := w1) (by omega)
   have z4 := nq (a := w0) (b := N0 + 31) (by omega)
   have z5 := nq (a := w1) (b := N0 + 31) (by omega)
   refine gDrop AWP_ref [(w0, some ⟨28, 3, W0.set r0_ [.osl 3 1 (encL rI p0.Regs), .int .i64 v8, .fsl (encL rI p0.Mem)]⟩), (w1, some ⟨64, 2, encL rBox l7⟩)] (hp_skip (hp_skip (AHeap.Sub.trans (AHeap.Sub.refl _) (hp_drop rfl (by simp; try omega))))) ?_
   refine AWP_ret ?_
   refine ⟨[.int .i64 1], by simp [z3, z4, z5, gs_W0], N0 + 52, by omega, by first | rfl | exact (setx_len hl7) | omega, ?_, ?_⟩
   ·
    simp [encL_nil]
   ·
    first | rfl | simp [List.set_set]
 ·
  replace H := ifF C1 H
  refine AWP_skip ?_
  show K1 _ _
  refine keepE (l := [0, 1, 5]) (x := [(0, .ptr w0 r0_ 0), (1, .sl w1 0 p1.length), (5, .int .i64 v1)]) rfl fun a' ha => ?_
  refine hK1 _ _ ?_; rw [ha]
  refine Rc.mk ?_
  refine gPk AWP_ref (k := p0.Regs.length) (o := w0) (ob := ⟨28, 3, W0.set r0_ [.sl (N0 + 1) 0 p0.Regs.length, .int .i64 p0.Pc, .fsl (encL rI p0.Mem)]⟩) (row := [.sl (N0 + 1) 0 p0.Regs.length, .int .i64 p0.Pc, .fsl (encL rI p0.Mem)]) (d := (N0 + 1)) (obd := ⟨3, 1, encL rI p0.Regs⟩) (r := r0_) (i := 0) [(w0, some ⟨28, 3, W0.set r0_ [.osl 3 1 (encL rI p0.Regs), .int .i64 p0.Pc, .fsl (encL rI p0.Mem)]⟩), (w1, some ⟨64, 2, encL rBox p1⟩)] (by simp (disch := omega)) (by simp (disch := omega) [gs_W0]) rfl (by simp (disch := omega)) (by simp (disch := omega)) (by first | omega | simp) (by simp (disch := omega) [List.set_set, app_set] <;> omega) (by simp (disch := omega) [List.set_set, app_set]) ?_
  obtain ⟨v9, hv9, H⟩ := bindE H
  obtain ⟨r10, hr10, H⟩ := bindE H
  refine AWP_sr tok [] [0, 1, 5, 8, 9, 10] (fun a σ => a = [(0, .ptr w0 r0_ 0), (1, .sl w1 0 p1.length), (5, .int .i64 v1), (8, .ptr (N0 + 25) 0 0), (9, .int .i64 r10.2.1), (10, .bool r10.2.2)] ∧ σ = hp E0 [(w0, some ⟨28, 3, W0.set r0_ [.osl 3 1 (encL rI p0.Regs), .int .i64 p0.Pc, .fsl (encL rI p0.Mem)]⟩), (w1, some ⟨64, 2, encL rBox p1⟩), (N0 + 25, some ⟨64, 2, [[.int .i64 r10.1.Room, .fsl (encL rI r10.1.Items)]]⟩)] (N0 + 29)) (fun K hK => ?_) ?_
  ·
   skip
   have e0 := nq (a := w0) (b := w1) (by omega)
   have e1 := nq (a := w0) (b := N0 + 25) (by omega)
   have e2 := nq (a := w1) (b := N0 + 25) (by omega)
   simp -dsimp -implicitDefEqProofs (maxDischargeDepth := 6) [e0, e1, e2, gs_W0, List.set_set, ixo29 hv9, (idx_lt3 hv9).2.2]
   refine (c98 hr10).app ?_; try simp -dsimp -implicitDefEqProofs (maxDischargeDepth := 6) [e0, e1, e2, gs_W0, List.set_set, ixo29 hv9, (idx_lt3 hv9).2.2]
   exact hK _ _ ⟨rfl, rfl⟩
  rintro a σ ⟨rfl, rfl⟩
  refine AWP_sq [0, 1, 5, 8, 9] fun K3 hK3 => ?_
  refine AWP_sr tok [] [0, 1, 5, 8, 9, 63] (fun a σ => a = [(0, .ptr w0 r0_ 0), (1, .sl w1 0 p1.length), (5, .int .i64 v1), (8, .ptr (N0 + 25) 0 0), (9, .int .i64 r10.2.1), (63, .bool (bnot r10.2.2))] ∧ σ = hp E0 [(w0, some ⟨28, 3, W0.set r0_ [.osl 3 1 (encL rI p0.Regs), .int .i64 p0.Pc, .fsl (encL rI p0.Mem)]⟩), (w1, some ⟨64, 2, encL rBox p1⟩), (N0 + 25, some ⟨64, 2, [[.int .i64 r10.1.Room, .fsl (encL rI r10.1.Items)]]⟩)] (N0 + 31)) (fun K hK => ?_) ?_
  ·
   skip
   have e0 := nq (a := w0) (b := w1) (by omega)
   have e1 := nq (a := w0) (b := N0 + 25) (by omega)
   have e2 := nq (a := w1) (b := N0 + 25) (by omega)
   simp -dsimp -implicitDefEqProofs (maxDischargeDepth := 6) [e0, e1, e2, gs_W0, List.set_set]
   exact hK _ _ ⟨rfl, rfl⟩
  rintro a σ ⟨rfl, rfl⟩
  refine AWP_cond (bnot r10.2.2) rfl (fun C3 => ?_) (fun C3 => ?_)
  ·
   replace H := ifT C3 H
   refine AWP_sr tok [] [4] (fun a σ => a = [(4, .int .i64 3)] ∧ σ = hp E0 [(w0, some ⟨28, 3, W0.set r0_ [.osl 3 1 (encL rI p0.Regs), .int .i64 p0.Pc, .fsl (encL rI p0.Mem)]⟩), (w1, some ⟨64, 2, encL rBox p1⟩), (N0 + 25, some ⟨64, 2, [[.int .i64 r10.1.Room, .fsl (encL rI r10.1.Items)]]⟩)] (N0 + 32)) (fun K hK => ?_) ?_
   ·
    skip
    have e0 := nq (a := w0) (b := w1) (by omega)
    have e1 := nq (a := w0) (b := N0 + 25) (by omega)
    have e2 := nq (a := w1) (b := N0 + 25) (by omega)
    simp -dsimp -implicitDefEqProofs (maxDischargeDepth := 6) [e0, e1, e2, gs_W0, List.set_set]
    exact hK _ _ ⟨rfl, rfl⟩
   rintro a σ ⟨rfl, rfl⟩
   replace H := Option.some.inj H; subst H
   refine AWP_kp [4] [(4, .int .i64 3)] rfl ?_
   have z6 := nq (a := w0) (b := w1) (by omega)
   have z7 := nq (a := w0) (b := N0 + 25) (by omega)
   have z8 := nq (a := w1) (b := N0 + 25) (by omega)
   refine gDrop AWP_ref [(w0, some ⟨28, 3, W0.set r0_ [.osl 3 1 (encL rI p0.Regs), .int .i64 p0.Pc, .fsl (encL rI p0.Mem)]⟩), (w1, some ⟨64, 2, encL rBox p1⟩)] (hp_skip (hp_skip (AHeap.Sub.trans (AHeap.Sub.refl _) (hp_drop rfl (by simp; try omega))))) ?_
   refine AWP_ret ?_
   refine ⟨[.int .i64 3], by simp [z6, z7, z8, gs_W0], N0 + 32, by omega, by first | rfl | exact rfl | omega, ?_, ?_⟩
   ·
    simp [encL_nil]
   ·
    first | rfl | simp [List.set_set]
  ·
   replace H := ifF C3 H
   refine AWP_skip ?_
   show K3 _ _
   refine keepE (l := [0, 1, 5, 8, 9]) (x := [(0, .ptr w0 r0_ 0), (1, .sl w1 0 p1.length), (5, .int .i64 v1), (8, .ptr (N0 + 25) 0 0), (9, .int .i64 r10.2.1)]) rfl fun a' ha => ?_
   refine hK3 _ _ ?_; rw [ha]
   refine Rc.mk ?_
   obtain ⟨l11, hl11, H⟩ := bindE H
   refine AWP_sr tok [] [0, 9] (fun a σ => a = [(0, .ptr w0 r0_ 0), (9, .int .i64 r10.2.1)] ∧ σ = hp E0 [(w0, some ⟨28, 3, W0.set r0_ [.osl 3 1 (encL rI p0.Regs), .int .i64 p0.Pc, .fsl (encL rI p0.Mem)]⟩), (w1, some ⟨64, 2, encL rBox l11⟩), (N0 + 25, some ⟨64, 2, [[.int .i64 r10.1.Room, .fsl (encL rI r10.1.Items)]]⟩)] (N0 + 36)) (fun K hK => ?_) ?_
   ·
    skip
    have e0 := nq (a := w0) (b := w1) (by omega)
    have e1 := nq (a := w0) (b := N0 + 25) (by omega)
    have e2 := nq (a := w1) (b := N0 + 25) (by omega)
    simp -dsimp -implicitDefEqProofs (maxDischargeDepth := 6) [e0, e1, e2, gs_W0, List.set_set, ixo29 hv9, (idx_lt3 hv9).2.2, (setx_iff.1 hl11).2.symm]
    exact hK _ _ ⟨rfl, rfl⟩
   rintro a σ ⟨rfl, rfl⟩
   try rw [← setx_len hl11]
   refine gUnp AWP_ref (ty := 3) (sz := 1) (es := encL rI p0.Regs) (o := w0) (ob := ⟨28, 3, W0.set r0_ [.osl 3 1 (encL rI p0.Regs), .int .i64 p0.Pc, .fsl (encL rI p0.Mem)]⟩) (row := [.osl 3 1 (encL rI p0.Regs), .int .i64 p0.Pc, .fsl (encL rI p0.Mem)]) (r := r0_) (i := 0) [(w0, some ⟨28, 3, W0.set r0_ [.sl (N0 + 36) 0 p0.Regs.length, .int .i64 p0.Pc, .fsl (encL rI p0.Mem)]⟩), (w1, some ⟨64, 2, encL rBox l11⟩), (N0 + 25, some ⟨64, 2, [[.int .i64 r10.1.Room, .fsl (encL rI r10.1.Items)]]⟩), (N0 + 36, some ⟨3, 1, encL rI p0.Regs⟩)] (by simp (disch := omega)) (by simp (disch := omega) [gs_W0]) rfl (by simp (disch := omega) [List.set_set]) ?_
   obtain ⟨v12, hv12, H⟩ := bindE H
   obtain ⟨l13, hl13, H⟩ := bindE H
   refine AWP_sr tok [] [0] (fun a σ => a = [(0, .ptr w0 r0_ 0)] ∧ σ = hp E0 [(w0, some ⟨28, 3, W0.set r0_ [.sl (N0 + 36) 0 p0.Regs.length, .int .i64 p0.Pc, .fsl (encL rI p0.Mem)]⟩), (w1, some ⟨64, 2, encL rBox l11⟩), (N0 + 25, some ⟨64, 2, [[.int .i64 r10.1.Room, .fsl (encL rI r10.1.Items)]]⟩), (N0 + 36, some ⟨3, 1, encL rI l13⟩)] (N0 + 44)) (fun K hK => ?_) ?_
   ·
    skip
    have e0 := nq (a := w0) (b := w1) (by omega)
    have e1 := nq (a := w0) (b := N0 + 25) (by omega)
    have e2 := nq (a := w0) (b := N0 + 36) (by omega)
    have e3 := nq (a := w1) (b := N0 + 25) (by omega)
    have e4 := nq (a := w1) (b := N0 + 36) (by omega)
    simp -dsimp -implicitDefEqProofs (maxDischargeDepth := 6) [e0, e1, e2, e3, e4, gs_W0, List.set_set, ixo22 hv12, (show _[10]? = some v12 from (idx_lt3 hv12).2.2), (show List.set _ 10 _ = l13 from (setx_iff.1 hl13).2.symm)]
    exact hK _ _ ⟨rfl, rfl⟩
   rintro a σ ⟨rfl, rfl⟩
   try rw [← setx_len hl13]
   obtain ⟨v14, hv14, H⟩ := bindE H
   refine AWP_sr tok [] [] (fun a σ => a = [] ∧ σ = hp E0 [(w0, some ⟨28, 3, W0.set r0_ [.sl (N0 + 36) 0 l13.length, .int .i64 v14, .fsl (encL rI p0.Mem)]⟩), (w1, some ⟨64, 2, encL rBox l11⟩), (N0 + 25, some ⟨64, 2, [[.int .i64 r10.1.Room, .fsl (encL rI r10.1.Items)]]⟩), (N0 + 36, some ⟨3, 1, encL rI l13⟩)] (N0 + 54)) (fun K hK => ?_) ?_
   ·
    skip
    have e0 := nq (a := w0) (b := w1) (by omega)
    have e1 := nq (a := w0) (b := N0 + 25) (by omega)
    have e2 := nq (a := w0) (b := N0 + 36) (by omega)
    have e3 := nq (a := w1) (b := N0 + 25) (by omega)
    have e4 := nq (a := w1) (b := N0 + 36) (by omega)
    simp -dsimp -implicitDefEqProofs (maxDischargeDepth := 6) [e0, e1, e2, e3, e4, gs_W0, List.set_set, ixo22 hv14, (show _[1]? = some v14 from (idx_lt3 hv14).2.2)]
    exact hK _ _ ⟨rfl, rfl⟩
   rintro a σ ⟨rfl, rfl⟩
   refine AWP_sr tok [] [4] (fun a σ => a = [(4, .int .i64 1)] ∧ σ = hp E0 [(w0, some ⟨28, 3, W0.set r0_ [.sl (N0 + 36) 0 l13.length, .int .i64 v14, .fsl (encL rI p0.Mem)]⟩), (w1, some ⟨64, 2, encL rBox l11⟩), (N0 + 25, some ⟨64, 2, [[.int .i64 r10.1.Room, .fsl (encL rI r10.1.Items)]]⟩), (N0 + 36, some ⟨3, 1, encL rI l13⟩)] (N0 + 55)) (fun K hK => ?_) ?_
   ·
    skip
    have e0 := nq (a := w0) (b := w1) (by omega)
    have e1 := nq (a := w0) (b := N0 + 25) (by omega)
    have e2 := nq (a := w0) (b := N0 + 36) (by omega)
    have e3 := nq (a := w1) (b := N0 + 25) (by omega)
    have e4 := nq (a := w1) (b := N0 + 36) (by omega)
    simp -dsimp -implicitDefEqProofs (maxDischargeDepth := 6) [e0, e1, e2, e3, e4, gs_W0, List.set_set]
    exact hK _ _ ⟨rfl, rfl⟩
   rintro a σ ⟨rfl, rfl⟩
   replace H := Option.some.inj H; subst H
   refine AWP_kp [4] [(4, .int .i64 1)] rfl ?_
   refine gPk AWP_ref (k := l13.length) (o := w0) (ob := ⟨28, 3, W0.set r0_ [.sl (N0 + 36) 0 l13.length, .int .i64 v14, .fsl (encL rI p0.Mem)]⟩) (row := [.sl (N0 + 36) 0 l13.length, .int .i64 v14, .fsl (encL rI p0.Mem)]) (d := (N0 + 36)) (obd := ⟨3, 1, encL rI l13⟩) (r := r0_) (i := 0) [(w0, some ⟨28, 3, W0.set r0_ [.osl 3 1 (encL rI l13), .int .i64 v14, .fsl (encL rI p0.Mem)]⟩), (w1, some ⟨64, 2, encL rBox l11⟩), (N0 + 25, some ⟨64, 2, [[.int .i64 r10.1.Room, .fsl (encL rI r10.1.Items)]]⟩)] (by simp (disch := omega)) (by simp (disch := omega) [gs_W0]) rfl (by simp (disch := omega)) (by simp (disch := omega)) (by first | omega | simp) (by simp (disch := omega) [List.set_set, app_set] <;> omega) (by simp (disch := omega) [List.set_set, app_set]) ?_
   have z9 := nq (a := w0) (b := w1) (by omega)
   have z10 := nq (a := w0) (b := N0 + 25) (by omega)
   have z11 := nq (a := w1) (b := N0 + 25) (by omega)
   refine gDrop AWP_ref [(w0, some ⟨28, 3, W0.set r0_ [.osl 3 1 (encL rI l13), .int .i64 v14, .fsl (encL rI p0.Mem)]⟩), (w1, some ⟨64, 2, encL rBox l11⟩)] (hp_skip (hp_skip (AHeap.Sub.trans (AHeap.Sub.refl _) (hp_drop rfl (by simp; try omega))))) ?_
   refine AWP_ret ?_
   refine ⟨[.int .i64 1], by simp [z9, z10, z11, gs_W0], N0 + 55, by omega, by first | rfl | exact (setx_len hl11) | omega, ?_, ?_⟩
   ·
    simp [encL_nil]
   ·
    first | rfl | simp [List.set_set]
theorem c47 {p0 : gMachine} {p1 : (List gBox)} {r : (List Int) × Int × gMachine × (List gBox)} (H : s_l45Call p0 p1 = some r) {σ : AHeap} {w0 : Nat} {W0 : List (List AV)} {r0_ : Nat} {w1 : Nat} (q0 : σ.objs w0 = some ⟨28, 3, W0⟩) (g0 : W0[r0_]? = some [.osl 3 1 (encL rI p0.Regs), .int .i64 p0.Pc, .fsl (encL rI p0.Mem)]) (q1 : σ.objs w1 = some ⟨64, 2, encL rBox p1⟩) (d0_1 : ¬ w0 = w1) : ACalls Try.prog G 47 [.ptr w0 r0_ 0, .sl w1 0 p1.length] σ (fun v σ' => ∃ M : Nat, σ.next ≤ M ∧ r.2.2.2.length = p1.length ∧ v = .tup [.fsl (encL rI r.1), .int .i64 r.2.1] ∧ σ' = hp σ.objs [(w0, some ⟨28, 3, W0.set r0_ [.osl 3 1 (encL rI r.2.2.1.Regs), .int .i64 r.2.2.1.Pc, .fsl (encL rI r.2.2.1.Mem)]⟩), (w1, some ⟨64, 2, encL rBox r.2.2.2⟩)] M) := by
 refine ACalls_fr (L := [(w0, some ⟨28, 3, W0⟩), (w1, some ⟨64, 2, encL rBox p1⟩)]) (Q1 := fun v σ' => ∃ M : Nat, σ.next ≤ M ∧ r.2.2.2.length = p1.length ∧ v = .tup [.fsl (encL rI r.1), .int .i64 r.2.1] ∧ σ' = hp E0 [(w0, some ⟨28, 3, W0.set r0_ [.osl 3 1 (encL rI r.2.2.1.Regs), .int .i64 r.2.2.1.Pc, .fsl (encL rI r.2.2.1.Mem)]⟩), (w1, some ⟨64, 2, encL rBox r.2.2.2⟩)] M) (by simp [q0, q1]) (fun hlt => ?_) ?_ ⟨_, Try.func47, rfl, rfl⟩
 rotate_left
 ·
  rintro v σ1 ⟨M, h0, h1, rfl, rfl⟩
  exact ⟨_, M, rfl, by simp, by simp; try omega, M, h0, h1, rfl, rfl⟩
 generalize σ.next = N0 at hlt ⊢
 have lw0 : w0 < N0 := hlt _ (.head _) rfl
 have lw1 : w1 < N0 := hlt _ (.tail _ (.head _)) rfl
 have gs_W0 : ∀ x, (W0.set r0_ x)[r0_]? = some x := gsetW g0
 rw [show W0 = W0.set r0_ [.osl 3 1 (encL rI p0.Regs), .int .i64 p0.Pc, .fsl (encL rI p0.Mem)] from (set_same g0).symm]
 refine ACalls_fn tok Try.func47 (by kernel_rfl) rfl Try.ntmps47 Try.results47 rfl ?_
 simp only [argsA, Nat.reduceAdd, hp_next]
 unfold s_l45Call at H
 refine AWP_sr tok [] [0, 1] (fun a σ => a = [(0, .ptr w0 r0_ 0), (1, .sl w1 0 p1.length)] ∧ σ = hp E0 [(w0, some ⟨28, 3, W0.set r0_ [.osl 3 1 (encL rI p0.Regs), .int .i64 p0.Pc, .fsl (encL rI p0.Mem)]⟩), (w1, some ⟨64, 2, encL rBox p1⟩)] (N0 + 2)) (fun K hK => ?_) ?_
 ·
  skip
  have e0 := nq (a := w0) (b := w1) (by omega)
  simp -dsimp -implicitDefEqProofs (maxDischargeDepth := 6) [e0, gs_W0, List.set_set]
  exact hK _ _ ⟨rfl, rfl⟩
 rintro a σ ⟨rfl, rfl⟩
 refine AWP_sq [0] fun K1 hK1 => ?_
 refine gUnp AWP_ref (ty := 3) (sz := 1) (es := encL rI p0.Regs) (o := w0) (ob := ⟨28, 3, W0.set r0_ [.osl 3 1 (encL rI p0.Regs), .int .i64 p0.Pc, .fsl (encL rI p0.Mem)]⟩) (row := [.osl 3 1 (encL rI p0.Regs), .int .i64 p0.Pc, .fsl (encL rI p0.Mem)]) (r := r0_) (i := 0) [(w0, some ⟨28, 3, W0.set r0_ [.sl (N0 + 2) 0 p0.Regs.length, .int .i64 p0.Pc, .fsl (encL rI p0.Mem)]⟩), (w1, some ⟨64, 2, encL rBox p1⟩), (N0 + 2, some ⟨3, 1, encL rI p0.Regs⟩)] (by simp (disch := omega)) (by simp (disch := omega) [gs_W0]) rfl (by simp (disch := omega) [List.set_set]) ?_
 obtain ⟨v1, hv1, H⟩ := bindE H
 refine AWP_sr tok [] [0, 1, 11] (fun a σ => a = [(0, .ptr w0 r0_ 0), (1, .sl w1 0 p1.length), (11, .int .i64 v1)] ∧ σ = hp E0 [(w0, some ⟨28, 3, W0.set r0_ [.sl (N0 + 2) 0 p0.Regs.length, .int .i64 p0.Pc, .fsl (encL rI p0.Mem)]⟩), (w1, some ⟨64, 2, encL rBox p1⟩), (N0 + 2, some ⟨3, 1, encL rI p0.Regs⟩)] (N0 + 9)) (fun K hK => ?_) ?_
 ·
  skip
  have e0 := nq (a := w0) (b := w1) (by omega)
  have e1 := nq (a := w0) (b := N0 + 2) (by omega)
  have e2 := nq (a := w1) (b := N0 + 2) (by omega)
  simp -dsimp -implicitDefEqProofs (maxDischargeDepth := 6) [e0, e1, e2, gs_W0, List.set_set, ixo22 hv1, (show _[17]? = some v1 from (idx_lt3 hv1).2.2)]
  exact hK _ _ ⟨rfl, rfl⟩
 rintro a σ ⟨rfl, rfl⟩
 refine AWP_block (AWP_thenB ?_)
 obtain ⟨j1, hj1, H⟩ := bindE H
 refine AWP_seq (AWP_named fun K3 hK3 => ?_)
 have hJ1 : ∀ a σ, Rc G 46 N0 (fun a σ => ∃ M1 : Nat, N0 ≤ M1 ∧ p1.length = p1.length ∧ a = [(0, .ptr w0 r0_ 0), (1, .sl w1 0 p1.length), (11, .int .i64 v1), (12, .bool j1)] ∧ σ = hp E0 [(w0, some ⟨28, 3, W0.set r0_ [.osl 3 1 (encL rI p0.Regs), .int .i64 p0.Pc, .fsl (encL rI p0.Mem)]⟩), (w1, some ⟨64, 2, encL rBox p1⟩)] M1) (a.keep [0, 1, 11, 12]) σ → K3 a σ := by
  rintro a σ ⟨b, τ, hr, M1, fM1_0, fM1_1, rfl, rfl⟩
  refine hK3 _ _ (AWP_keep [0, 1, 11, 12] (AWP_ref hr ?_))
  refine AWP_cond j1 rfl (fun C1 => ?_) (fun C1 => ?_)
  ·
   replace H := ifT C1 H
   obtain ⟨r3, hr3, H⟩ := bindE H
   have q0 : ∀ σ i, buildSliceA T 22 true i 0 [] σ = some (.esl, σ) := fun _ _ => rfl
   refine AWP_sr tok [0] [4, 5] (fun a σ => ∃ M2 : Nat, M1 + 6 ≤ M2 ∧ r3.2.2.length = p1.length ∧ a = [(4, .esl), (5, .int .i64 r3.1)] ∧ σ = hp E0 [(w0, some ⟨28, 3, W0.set r0_ [.osl 3 1 (encL rI r3.2.1.Regs), .int .i64 r3.2.1.Pc, .fsl (encL rI r3.2.1.Mem)]⟩), (w1, some ⟨64, 2, encL rBox r3.2.2⟩)] M2) (fun K hK => ?_) ?_
   ·
    skip
    have e0 := nq (a := w0) (b := w1) (by omega)
    simp -dsimp -implicitDefEqProofs (maxDischargeDepth := 6) [e0, gs_W0, List.set_set, q0]
    refine (c84 (W0 := W0.set r0_ [.osl 3 1 (encL rI p0.Regs), .int .i64 p0.Pc, .fsl (encL rI p0.Mem)]) (r0_ := r0_) (H := hr3) (by simp [e0, gs_W0, List.set_set, q0]) (by simp [e0, gs_W0, List.set_set, q0]) (by simp [e0, gs_W0, List.set_set, q0]) (by simp [e0, gs_W0, List.set_set, q0])).mono ?_; rintro _ _ ⟨M2, fM2_0, fM2_1, rfl, rfl⟩; simp only [hp_next] at fM2_0
    try simp -dsimp -implicitDefEqProofs (maxDischargeDepth := 6) [e0, gs_W0, List.set_set, q0, hp_over_some, hp_over_none]
    exact hK _ _ ⟨M2, (by omega), fM2_1, rfl, rfl⟩
   rintro a σ ⟨M2, fM2_0, fM2_1, rfl, rfl⟩
   try rw [← fM2_1]
   replace H := Option.some.inj H; subst H
   refine AWP_kp [4, 5] [(4, .esl), (5, .int .i64 r3.1)] rfl ?_
   have z0 := nq (a := w0) (b := w1) (by omega)
   refine gFrz AWP_ref 4 [] [(w0, some ⟨28, 3, W0.set r0_ [.osl 3 1 (encL rI r3.2.1.Regs), .int .i64 r3.2.1.Pc, .fsl (encL rI r3.2.1.Mem)]⟩), (w1, some ⟨64, 2, encL rBox r3.2.2⟩)] [(4, .fsl []), (5, .int .i64 r3.1)] (by simp [z0]) (cutD (by simp [z0])) ?_
   have z1 := nq (a := w0) (b := w1) (by omega)
   refine AWP_ret ?_
   refine ⟨[.fsl [], .int .i64 r3.1], by simp [z1, gs_W0], M2, by omega, by first | rfl | exact ((fM2_1).trans fM1_1) | omega, ?_, ?_⟩
   ·
    simp [encL_nil]
   ·
    first | rfl | simp [List.set_set]
  ·
   replace H := ifF C1 H
   refine AWP_sr tok [] [0, 19] (fun a σ => a = [(0, .ptr w0 r0_ 0), (19, .bool (ieq v1 5))] ∧ σ = hp E0 [(w0, some ⟨28, 3, W0.set r0_ [.osl 3 1 (encL rI p0.Regs), .int .i64 p0.Pc, .fsl (encL rI p0.Mem)]⟩), (w1, some ⟨64, 2, encL rBox p1⟩)] (M1 + 2)) (fun K hK => ?_) ?_
   ·
    skip
    have e0 := nq (a := w0) (b := w1) (by omega)
    simp -dsimp -implicitDefEqProofs (maxDischargeDepth := 6) [e0, gs_W0, List.set_set]
    exact hK _ _ ⟨rfl, rfl⟩
   rintro a σ ⟨rfl, rfl⟩
   refine AWP_cond (ieq v1 5) rfl (fun C2 => ?_) (fun C2 => ?_)
   ·
    replace H := ifT C2 H
    have q1 : ∀ σ i, buildSliceA T 22 true i 0 [] σ = some (.esl, σ) := fun _ _ => rfl
    refine AWP_sr tok [0] [4, 5] (fun a σ => a = [(4, .esl), (5, .int .i64 4)] ∧ σ = hp E0 [(w0, some ⟨28, 3, W0.set r0_ [.osl 3 1 (encL rI p0.Regs), .int .i64 p0.Pc, .fsl (encL rI p0.Mem)]⟩), (w1, some ⟨64, 2, encL rBox p1⟩)] (M1 + 5)) (fun K hK => ?_) ?_
    ·
     skip
     have e0 := nq (a := w0) (b := w1) (by omega)
     simp -dsimp -implicitDefEqProofs (maxDischargeDepth := 6) [e0, gs_W0, List.set_set, q1]
     exact hK _ _ ⟨rfl, rfl⟩
    rintro a σ ⟨rfl, rfl⟩
    replace H := Option.some.inj H; subst H
    refine AWP_kp [4, 5] [(4, .esl), (5, .int .i64 4)] rfl ?_
    have z2 := nq (a := w0) (b := w1) (by omega)
    refine gFrz AWP_ref 4 [] [(w0, some ⟨28, 3, W0.set r0_ [.osl 3 1 (encL rI p0.Regs), .int .i64 p0.Pc, .fsl (encL rI p0.Mem)]⟩), (w1, some ⟨64, 2, encL rBox p1⟩)] [(4, .fsl []), (5, .int .i64 4)] (by simp [z2]) (cutD (by simp [z2])) ?_
    have z3 := nq (a := w0) (b := w1) (by omega)
    refine AWP_ret ?_
    refine ⟨[.fsl [], .int .i64 4], by simp [z3, gs_W0], M1 + 5, by omega, by first | rfl | exact fM1_1 | omega, ?_, ?_⟩
    ·
     simp [encL_nil]
    ·
     first | rfl | simp [List.set_set]
   ·
    replace H := ifF C2 H
    refine AWP_skip ?_
    show K1 _ _
    refine keepE (l := [0]) (x := [(0, .ptr w0 r0_ 0)]) rfl fun a' ha => ?_
    refine hK1 _ _ ?_; rw [ha]
    refine Rc.mk ?_
    refine gUnp AWP_ref (ty := 3) (sz := 1) (es := encL rI p0.Regs) (o := w0) (ob := ⟨28, 3, W0.set r0_ [.osl 3 1 (encL rI p0.Regs), .int .i64 p0.Pc, .fsl (encL rI p0.Mem)]⟩) (row := [.osl 3 1 (encL rI p0.Regs), .int .i64 p0.Pc, .fsl (encL rI p0.Mem)]) (r := r0_) (i := 0) [(w0, some ⟨28, 3, W0.set r0_ [.sl (M1 + 2) 0 p0.Regs.length, .int .i64 p0.Pc, .fsl (encL rI p0.Mem)]⟩), (w1, some ⟨64, 2, encL rBox p1⟩), (M1 + 2, some ⟨3, 1, encL rI p0.Regs⟩)] (by simp (disch := omega)) (by simp (disch := omega) [gs_W0]) rfl (by simp (disch := omega) [List.set_set]) ?_
    obtain ⟨v4, hv4, H⟩ := bindE H
    refine AWP_sr tok [] [0] (fun a σ => a = [(0, .ptr w0 r0_ 0)] ∧ σ = hp E0 [(w0, some ⟨28, 3, W0.set r0_ [.sl (M1 + 2) 0 p0.Regs.length, .int .i64 v4, .fsl (encL rI p0.Mem)]⟩), (w1, some ⟨64, 2, encL rBox p1⟩), (M1 + 2, some ⟨3, 1, encL rI p0.Regs⟩)] (M1 + 13)) (fun K hK => ?_) ?_
    ·
     skip
     have e0 := nq (a := w0) (b := w1) (by omega)
     have e1 := nq (a := w0) (b := M1 + 2) (by omega)
     have e2 := nq (a := w1) (b := M1 + 2) (by omega)
     simp -dsimp -implicitDefEqProofs (maxDischargeDepth := 6) [e0, e1, e2, gs_W0, List.set_set, ixo22 hv4, (show _[1]? = some v4 from (idx_lt3 hv4).2.2)]
     exact hK _ _ ⟨rfl, rfl⟩
    rintro a σ ⟨rfl, rfl⟩
    refine AWP_sq [] fun K2 hK2 => ?_
    refine AWP_sr tok [] [0, 37] (fun a σ => a = [(0, .ptr w0 r0_ 0), (37, .bool (ieq v1 4))] ∧ σ = hp E0 [(w0, some ⟨28, 3, W0.set r0_ [.sl (M1 + 2) 0 p0.Regs.length, .int .i64 v4, .fsl (encL rI p0.Mem)]⟩), (w1, some ⟨64, 2, encL rBox p1⟩), (M1 + 2, some ⟨3, 1, encL rI p0.Regs⟩)] (M1 + 20)) (fun K hK => ?_) ?_
    ·
     skip
     have e0 := nq (a := w0) (b := w1) (by omega)
     have e1 := nq (a := w0) (b := M1 + 2) (by omega)
     have e2 := nq (a := w1) (b := M1 + 2) (by omega)
     simp -dsimp -implicitDefEqProofs (maxDischargeDepth := 6) [e0, e1, e2, gs_W0, List.set_set, ixo22 hv1, (show _[17]? = some v1 from (idx_lt3 hv1).2.2)]
     exact hK _ _ ⟨rfl, rfl⟩
    rintro a σ ⟨rfl, rfl⟩
    refine AWP_cond (ieq v1 4) rfl (fun C3 => ?_) (fun C3 => ?_)
    ·
     replace H := ifT C3 H
     obtain ⟨v5, hv5, H⟩ := bindE H
     have q2 : ∀ σ i, buildSliceA T 22 true i 1 [(0, .int .i64 v5)] σ = some (.fsl (encL rI ([v5] : List Int)), σ) := fun _ _ => rfl
     refine AWP_sr tok [6] [4, 5] (fun a σ => a = [(4, .fsl (encL rI ([v5] : List Int))), (5, .int .i64 1)] ∧ σ = hp E0 [(w0, some ⟨28, 3, W0.set r0_ [.sl (M1 + 2) 0 p0.Regs.length, .int .i64 v4, .fsl (encL rI p0.Mem)]⟩), (w1, some ⟨64, 2, encL rBox p1⟩), (M1 + 2, some ⟨3, 1, encL rI p0.Regs⟩)] (M1 + 29)) (fun K hK => ?_) ?_
     ·
      skip
      have e0 := nq (a := w0) (b := w1) (by omega)
      have e1 := nq (a := w0) (b := M1 + 2) (by omega)
      have e2 := nq (a := w1) (b := M1 + 2) (by omega)
      simp -dsimp -implicitDefEqProofs (maxDischargeDepth := 6) [e0, e1, e2, gs_W0, List.set_set, ixo22 hv5, (show _[10]? = some v5 from (idx_lt3 hv5).2.2), q2]
      exact hK _ _ ⟨rfl, rfl⟩
     rintro a σ ⟨rfl, rfl⟩
     replace H := Option.some.inj H; subst H
     refine AWP_kp [4, 5] [(4, .fsl (encL rI ([v5] : List Int))), (5, .int .i64 1)] rfl ?_
     refine gPk AWP_ref (k := p0.Regs.length) (o := w0) (ob := ⟨28, 3, W0.set r0_ [.sl (M1 + 2) 0 p0.Regs.length, .int .i64 v4, .fsl (encL rI p0.Mem)]⟩) (row := [.sl (M1 + 2) 0 p0.Regs.length, .int .i64 v4, .fsl (encL rI p0.Mem)]) (d := (M1 + 2)) (obd := ⟨3, 1, encL rI p0.Regs⟩) (r := r0_) (i := 0) [(w0, some ⟨28, 3, W0.set r0_ [.osl 3 1 (encL rI p0.Regs), .int .i64 v4, .fsl (encL rI p0.Mem)]⟩), (w1, some ⟨64, 2, encL rBox p1⟩)] (by simp (disch := omega)) (by simp (disch := omega) [gs_W0]) rfl (by simp (disch := omega)) (by simp (disch := omega)) (by first | omega | simp) (by simp (disch := omega) [List.set_set, app_set] <;> omega) (by simp (disch := omega) [List.set_set, app_set]) ?_
     have z4 := nq (a := w0) (b := w1) (by omega)
     refine AWP_ret ?_
     refine ⟨[.fsl (encL rI ([v5] : List Int)), .int .i64 1], by simp [z4, gs_W0], M1 + 29, by omega, by first | rfl | exact fM1_1 | omega, ?_, ?_⟩
     ·
      simp [encL_nil]
     ·
      first | rfl | simp [List.set_set]
    ·
     replace H := ifF C3 H
     refine AWP_skip ?_
     show K2 _ _
     refine keepE (l := []) (x := []) rfl fun a' ha => ?_
     refine hK2 _ _ ?_; rw [ha]
     refine Rc.mk ?_
     have q3 : ∀ σ i, buildSliceA T 22 true i 0 [] σ = some (.esl, σ) := fun _ _ => rfl
     refine AWP_sr tok [0] [4, 5] (fun a σ => a = [(4, .esl), (5, .int .i64 2)] ∧ σ = hp E0 [(w0, some ⟨28, 3, W0.set r0_ [.sl (M1 + 2) 0 p0.Regs.length, .int .i64 v4, .fsl (encL rI p0.Mem)]⟩), (w1, some ⟨64, 2, encL rBox p1⟩), (M1 + 2, some ⟨3, 1, encL rI p0.Regs⟩)] (M1 + 23)) (fun K hK => ?_) ?_
     ·
      skip
      have e0 := nq (a := w0) (b := w1) (by omega)
      have e1 := nq (a := w0) (b := M1 + 2) (by omega)
      have e2 := nq (a := w1) (b := M1 + 2) (by omega)
      simp -dsimp -implicitDefEqProofs (maxDischargeDepth := 6) [e0, e1, e2, gs_W0, List.set_set, q3]
      exact hK _ _ ⟨rfl, rfl⟩
     rintro a σ ⟨rfl, rfl⟩
     replace H := Option.some.inj H; subst H
     refine AWP_kp [4, 5] [(4, .esl), (5, .int .i64 2)] rfl ?_
     refine gPk AWP_ref (k := p0.Regs.length) (o := w0) (ob := ⟨28, 3, W0.set r0_ [.sl (M1 + 2) 0 p0.Regs.length, .int .i64 v4, .fsl (encL rI p0.Mem)]⟩) (row := [.sl (M1 + 2) 0 p0.Regs.length, .int .i64 v4, .fsl (encL rI p0.Mem)]) (d := (M1 + 2)) (obd := ⟨3, 1, encL rI p0.Regs⟩) (r := r0_) (i := 0) [(w0, some ⟨28, 3, W0.set r0_ [.osl 3 1 (encL rI p0.Regs), .int .i64 v4, .fsl (encL rI p0.Mem)]⟩), (w1, some ⟨64, 2, encL rBox p1⟩)] (by simp (disch := omega)) (by simp (disch := omega) [gs_W0]) rfl (by simp (disch := omega)) (by simp (disch := omega)) (by first | omega | simp) (by simp (disch := omega) [List.set_set, app_set] <;> omega) (by simp (disch := omega) [List.set_set, app_set]) ?_
     have z5 := nq (a := w0) (b := w1) (by omega)
     refine gFrz AWP_ref 4 [] [(w0, some ⟨28, 3, W0.set r0_ [.osl 3 1 (encL rI p0.Regs), .int .i64 v4, .fsl (encL rI p0.Mem)]⟩), (w1, some ⟨64, 2, encL rBox p1⟩)] [(4, .fsl []), (5, .int .i64 2)] (by simp [z5]) (cutD (by simp [z5])) ?_
     have z6 := nq (a := w0) (b := w1) (by omega)
     refine AWP_ret ?_
     refine ⟨[.fsl [], .int .i64 2], by simp [z6, gs_W0], M1 + 23, by omega, by first | rfl | exact fM1_1 | omega, ?_, ?_⟩
     ·
      simp [encL_nil]
     ·
      first | rfl | simp [List.set_set]
 replace H := hj1
 refine AWP_sr tok [] [0, 1, 11, 12] (fun a σ => a = [(0, .ptr w0 r0_ 0), (1, .sl w1 0 p1.length), (11, .int .i64 v1), (12, .bool (ieq v1 1))] ∧ σ = hp E0 [(w0, some ⟨28, 3, W0.set r0_ [.sl (N0 + 2) 0 p0.Regs.length, .int .i64 p0.Pc, .fsl (encL rI p0.Mem)]⟩), (w1, some ⟨64, 2, encL rBox p1⟩), (N0 + 2, some ⟨3, 1, encL rI p0.Regs⟩)] (N0 + 11)) (fun K hK => ?_) ?_
 ·
  skip
  have e0 := nq (a := w0) (b := w1) (by omega)
  have e1 := nq (a := w0) (b := N0 + 2) (by omega)
  have e2 := nq (a := w1) (b := N0 + 2) (by omega)
  simp -dsimp -implicitDefEqProofs (maxDischargeDepth := 6) [e0, e1, e2, gs_W0, List.set_set]
  exact hK _ _ ⟨rfl, rfl⟩
 rintro a σ ⟨rfl, rfl⟩
 refine AWP_cond (ieq v1 1) rfl (fun C4 => ?_) (fun C4 => ?_)
 ·
  replace H := ifT C4 H
  refine AWP_skip ?_
  show K3 _ _
  refine keepE (l := [0, 1, 11, 12]) (x := [(0, .ptr w0 r0_ 0), (1, .sl w1 0 p1.length), (11, .int .i64 v1), (12, .bool (ieq v1 1))]) rfl fun a' ha => ?_
  replace H := Option.some.inj H; subst H
  refine hJ1 _ _ ?_; rw [ha]
  refine gPk Rc_ref (k := p0.Regs.length) (o := w0) (ob := ⟨28, 3, W0.set r0_ [.sl (N0 + 2) 0 p0.Regs.length, .int .i64 p0.Pc, .fsl (encL rI p0.Mem)]⟩) (row := [.sl (N0 + 2) 0 p0.Regs.length, .int .i64 p0.Pc, .fsl (encL rI p0.Mem)]) (d := (N0 + 2)) (obd := ⟨3, 1, encL rI p0.Regs⟩) (r := r0_) (i := 0) [(w0, some ⟨28, 3, W0.set r0_ [.osl 3 1 (encL rI p0.Regs), .int .i64 p0.Pc, .fsl (encL rI p0.Mem)]⟩), (w1, some ⟨64, 2, encL rBox p1⟩)] (by simp (disch := omega)) (by simp (disch := omega) [gs_W0]) rfl (by simp (disch := omega)) (by simp (disch := omega)) (by first | omega | simp) (by simp (disch := omega) [List.set_set, app_set] <;> omega) (by simp (disch := omega) [List.set_set, app_set]) ?_
  exact Rc.fin (AHeap.Sub.refl _) ⟨N0 + 11, (by omega), (by first | rfl | exact rfl | omega), rfl, rfl⟩
 ·
  replace H := ifF C4 H
  refine AWP_rt tok [] [0, 1, 11, 12] (fun a σ => a = [(0, .ptr w0 r0_ 0), (1, .sl w1 0 p1.length), (11, .int .i64 v1), (12, .bool (ieq v1 2))] ∧ σ = hp E0 [(w0, some ⟨28, 3, W0.set r0_ [.sl (N0 + 2) 0 p0.Regs.length, .int .i64 p0.Pc, .fsl (encL rI p0.Mem)]⟩), (w1, some ⟨64, 2, encL rBox p1⟩), (N0 + 2, some ⟨3, 1, encL rI p0.Regs⟩)] (N0 + 13)) (fun K hK => ?_) ?_
  ·
   skip
   have e0 := nq (a := w0) (b := w1) (by omega)
   have e1 := nq (a := w0) (b := N0 + 2) (by omega)
   have e2 := nq (a := w1) (b := N0 + 2) (by omega)
   simp -dsimp -implicitDefEqProofs (maxDischargeDepth := 6) [e0, e1, e2, gs_W0, List.set_set]
   exact hK _ _ ⟨rfl, rfl⟩
  rintro a σ ⟨ha, rfl⟩
  replace H := Option.some.inj H; subst H
  refine hJ1 _ _ ?_; rw [ha]
  refine gPk Rc_ref (k := p0.Regs.length) (o := w0) (ob := ⟨28, 3, W0.set r0_ [.sl (N0 + 2) 0 p0.Regs.length, .int .i64 p0.Pc, .fsl (encL rI p0.Mem)]⟩) (row := [.sl (N0 + 2) 0 p0.Regs.length, .int .i64 p0.Pc, .fsl (encL rI p0.Mem)]) (d := (N0 + 2)) (obd := ⟨3, 1, encL rI p0.Regs⟩) (r := r0_) (i := 0) [(w0, some ⟨28, 3, W0.set r0_ [.osl 3 1 (encL rI p0.Regs), .int .i64 p0.Pc, .fsl (encL rI p0.Mem)]⟩), (w1, some ⟨64, 2, encL rBox p1⟩)] (by simp (disch := omega)) (by simp (disch := omega) [gs_W0]) rfl (by simp (disch := omega)) (by simp (disch := omega)) (by first | omega | simp) (by simp (disch := omega) [List.set_set, app_set] <;> omega) (by simp (disch := omega) [List.set_set, app_set]) ?_
  exact Rc.fin (AHeap.Sub.refl _) ⟨N0 + 13, (by omega), (by first | rfl | exact rfl | omega), rfl, rfl⟩
theorem c45_o {p0 : gMachine} {r : gMachine} (H : s_l44Copy_o p0 = some r) {σ : AHeap} : ACalls Try.prog G 45 [.agg [.fsl (encL rI p0.Regs), .int .i64 p0.Pc, .fsl (encL rI p0.Mem)]] σ (fun v σ' => ∃ M n0 : Nat, σ.next ≤ M ∧ σ.next ≤ n0 ∧ n0 < M ∧ v = .agg [.sl n0 0 r.Regs.length, .int .i64 r.Pc, .fsl (encL rI r.Mem)] ∧ σ' = hp σ.objs [(n0, some ⟨3, 1, encL rI r.Regs⟩)] M) := by
 refine ACalls_fr (L := []) (Q1 := fun v σ' => ∃ M n0 : Nat, σ.next ≤ M ∧ σ.next ≤ n0 ∧ n0 < M ∧ v = .agg [.sl n0 0 r.Regs.length, .int .i64 r.Pc, .fsl (encL rI r.Mem)] ∧ σ' = hp E0 [(n0, some ⟨3, 1, encL rI r.Regs⟩)] M) (by simp []) (fun hlt => ?_) ?_ ⟨_, Try.func45, rfl, rfl⟩
 rotate_left
 ·
  rintro v σ1 ⟨M, n0, h0, h1, h2, rfl, rfl⟩
  exact ⟨_, M, rfl, by simp, by simp; try omega, M, n0, h0, h1, h2, rfl, rfl⟩
 generalize σ.next = N0 at hlt ⊢
 refine ACalls_thaw 4 ?_
 refine ACalls_fn tok Try.func45 (by kernel_rfl) rfl Try.ntmps45 Try.results45 rfl ?_
 simp only [argsA, Nat.reduceAdd, hp_next]
 unfold s_l44Copy_o at H
 refine AWP_sr tok [0] [1, 2] (fun a σ => a = [(1, .fptr [.fsl (encL rI p0.Regs), .int .i64 p0.Pc, .fsl (encL rI p0.Mem)] 0), (2, .ptr (N0 + 1) 0 0)] ∧ σ = hp E0 [(N0 + 1, some ⟨28, 3, [[.nilsl, .int .i64 0, .nilsl]]⟩)] (N0 + 2)) (fun K hK => ?_) ?_
 ·
  skip
  simp -dsimp -implicitDefEqProofs (maxDischargeDepth := 6)
  exact hK _ _ ⟨rfl, rfl⟩
 rintro a σ ⟨rfl, rfl⟩
 obtain ⟨l1, hl1, H⟩ := bindE H
 obtain ⟨l2, hl2, H⟩ := bindE H
 have q0 : ∀ σ i, buildSliceA T 22 true i 0 [] σ = some (.esl, σ) := fun _ _ => rfl
 have q1 : ∀ σ i, buildSliceA T 22 true i 0 [] σ = some (.esl, σ) := fun _ _ => rfl
 refine AWP_sd tok tokM [0, 6, 9] [3, 11] [0, 1, 2, 4, 5, 6, 7, 8, 3, 9, 10, 11] [2] (fun a σ => a = [(2, .ptr (N0 + 1) 0 0)] ∧ σ = hp E0 [(N0 + 1, some ⟨28, 3, [[.sl (N0 + 5) 0 l1.length, .int .i64 p0.Pc, .fsl (encL rI l2)]]⟩), (N0 + 5, some ⟨3, 1, encL rI l1⟩)] (N0 + 14)) (by decide) (fun K hK => ?_) ?_
 ·
  simp only [pickL, nthO_succ, nthO_zero]
  simp -dsimp -implicitDefEqProofs (maxDischargeDepth := 6) [q0, q1, appe22 hl1, appf22 hl2]
  exact hK _ _ ⟨rfl, rfl⟩
 rintro a σ ⟨rfl, rfl⟩
 replace H := Option.some.inj H; subst H
 refine AWP_kp [2] [(2, .ptr (N0 + 1) 0 0)] rfl ?_
 refine gPk AWP_ref (k := l1.length) (o := (N0 + 1)) (ob := ⟨28, 3, [[.sl (N0 + 5) 0 l1.length, .int .i64 p0.Pc, .fsl (encL rI l2)]]⟩) (row := [.sl (N0 + 5) 0 l1.length, .int .i64 p0.Pc, .fsl (encL rI l2)]) (d := (N0 + 5)) (obd := ⟨3, 1, encL rI l1⟩) (r := 0) (i := 0) [(N0 + 1, some ⟨28, 3, [[.osl 3 1 (encL rI l1), .int .i64 p0.Pc, .fsl (encL rI l2)]]⟩)] (by simp (disch := omega)) rfl rfl (by simp (disch := omega)) (by simp (disch := omega)) (by first | omega | simp) (by simp (disch := omega) [List.set_set, app_set] <;> omega) (by simp (disch := omega) [List.set_set, app_set]) ?_
 refine gUnp AWP_ref (ty := 3) (sz := 1) (es := encL rI l1) (o := (N0 + 1)) (ob := ⟨28, 3, [[.osl 3 1 (encL rI l1), .int .i64 p0.Pc, .fsl (encL rI l2)]]⟩) (row := [.osl 3 1 (encL rI l1), .int .i64 p0.Pc, .fsl (encL rI l2)]) (r := 0) (i := 0) [(N0 + 1, some ⟨28, 3, [[.sl (N0 + 14) 0 l1.length, .int .i64 p0.Pc, .fsl (encL rI l2)]]⟩), (N0 + 14, some ⟨3, 1, encL rI l1⟩)] (by simp (disch := omega)) rfl rfl (by simp (disch := omega) [List.set_set]) ?_
 refine AWP_ret ?_
 refine ⟨[.agg [.sl (N0 + 14) 0 l1.length, .int .i64 p0.Pc, .fsl (encL rI l2)]], by simp, (fun o => [N0 + 1].contains o), N0 + 15, N0 + 14, by omega, by omega, by omega, ?_, ?_⟩
 ·
  simp [encL_nil]
 ·
  rw [cutD (L' := [(N0 + 14, some ⟨3, 1, encL rI l1⟩)]) (by simp)]
  first | done | rfl | simp [List.set_set]
theorem c46_o {p0 : (List gBox)} {r : (List gBox)} (H : s_l15BoxesCopy_o p0 = some r) {σ : AHeap} : ACalls Try.prog G 46 [.fsl (encL rBox p0)] σ (fun v σ' => ∃ M n0 : Nat, σ.next ≤ M ∧ σ.next ≤ n0 ∧ n0 < M ∧ v = .sl n0 0 r.length ∧ σ' = hp σ.objs [(n0, some ⟨64, 2, encL rBox r⟩)] M) := by
 refine ACalls_fr (L := []) (Q1 := fun v σ' => ∃ M n0 : Nat, σ.next ≤ M ∧ σ.next ≤ n0 ∧ n0 < M ∧ v = .sl n0 0 r.length ∧ σ' = hp E0 [(n0, some ⟨64, 2, encL rBox r⟩)] M) (by simp []) (fun hlt => ?_) ?_ ⟨_, Try.func46, rfl, rfl⟩
 rotate_left
 ·
  rintro v σ1 ⟨M, n0, h0, h1, h2, rfl, rfl⟩
  exact ⟨_, M, rfl, by simp, by simp; try omega, M, n0, h0, h1, h2, rfl, rfl⟩
 generalize σ.next = N0 at hlt ⊢
 refine ACalls_fn tok Try.func46 (by kernel_rfl) rfl Try.ntmps46 Try.results46 rfl ?_
 simp only [argsA, Nat.reduceAdd, hp_next]
 unfold s_l15BoxesCopy_o at H
 refine AWP_sr tok [] [0] (fun a σ => a = [(0, .fsl (encL rBox p0))] ∧ σ = hp E0 [] (N0 + 1)) (fun K hK => ?_) ?_
 ·
  skip
  simp -dsimp -implicitDefEqProofs (maxDischargeDepth := 6)
  exact hK _ _ ⟨rfl, rfl⟩
 rintro a σ ⟨rfl, rfl⟩
 have q0 : ∀ σ i, buildSliceA T 29 true i 0 [] σ = some (.esl, σ) := fun _ _ => rfl
 refine AWP_sr tok [0] [0, 3] (fun a σ => a = [(0, .fsl (encL rBox p0)), (3, .esl)] ∧ σ = hp E0 [] (N0 + 3)) (fun K hK => ?_) ?_
 ·
  skip
  simp -dsimp -implicitDefEqProofs (maxDischargeDepth := 6) [q0]
  exact hK _ _ ⟨rfl, rfl⟩
 rintro a σ ⟨rfl, rfl⟩
 refine AWP_sq [3] fun K1 hK1 => ?_
 refine AWP_sr tok [] [0, 3, 4] (fun a σ => a = [(0, .fsl (encL rBox p0)), (3, .esl), (4, .int .i64 0)] ∧ σ = hp E0 [] (N0 + 4)) (fun K hK => ?_) ?_
 ·
  skip
  simp -dsimp -implicitDefEqProofs (maxDischargeDepth := 6)
  exact hK _ _ ⟨rfl, rfl⟩
 rintro a σ ⟨rfl, rfl⟩
 refine AWP_block (AWP_thenB ?_)
 obtain ⟨e1, hse1, H⟩ := bindE H
 refine AWP_lp [0, 3, 4] (fun s a σ => ∃ M1 o1 : Nat, N0 ≤ M1 ∧ N0 ≤ o1 ∧ o1 < M1 ∧ a = [(0, .fsl (encL rBox p0)), (3, .sl o1 0 s.2.length), (4, .int .i64 s.1)] ∧ σ = hp E0 [(o1, some ⟨64, 2, encL rBox s.2⟩)] M1) (fun s x a σ => x = .exit 0 ∧ Rc G 29 N0 (fun a σ => ∃ M2 o2 : Nat, N0 ≤ M2 ∧ N0 ≤ o2 ∧ o2 < M2 ∧ a = [(3, .sl o2 0 s.length)] ∧ σ = hp E0 [(o2, some ⟨64, 2, encL rBox s⟩)] M2) (AAct.keep a [3]) σ) hse1 ?_ ?_ ?_
 ·
  refine Rc.kp [0, 3, 4] [(0, .fsl (encL rBox p0)), (3, .esl), (4, .int .i64 0)] rfl ?_
  refine gNilS Rc_ref 3 64 2 [(N0 + 4, some ⟨64, 2, encL rBox ([] : List gBox)⟩)] [(0, .fsl (encL rBox p0)), (3, .sl (N0 + 4) 0 ([] : List gBox).length), (4, .int .i64 0)] (by simp (disch := omega)) (by simp (disch := omega) [encL_nil]) [0, 3, 4] rfl ?_
  exact Rc.fin (AHeap.Sub.refl _) ⟨N0 + 5, (N0 + 4), (by omega), (by omega), (by omega), rfl, rfl⟩
 ·
  clear H hse1
  rintro ⟨s1, s2⟩ fl a σ H ⟨M1, o1, fM1_0, fM1_1, fM1_2, rfl, rfl⟩ K2 O2 hK2 hO2
  unfold s_l15BoxesCopy_o_L1 at H; dsimp only at H
  refine AWP_sq [0, 3, 4] fun K3 hK3 => ?_
  refine AWP_sr tok [] [0, 3, 4, 9] (fun a σ => a = [(0, .fsl (encL rBox p0)), (3, .sl o1 0 s2.length), (4, .int .i64 s1), (9, .bool (ilt s1 (ilen p0)))] ∧ σ = hp E0 [(o1, some ⟨64, 2, encL rBox s2⟩)] (M1 + 4)) (fun K hK => ?_) ?_
  ·
   skip
   simp -dsimp -implicitDefEqProofs (maxDischargeDepth := 6)
   exact hK _ _ ⟨rfl, rfl⟩
  rintro a σ ⟨rfl, rfl⟩
  refine AWP_cond (ilt s1 (ilen p0)) rfl (fun C1 => ?_) (fun C1 => ?_)
  ·
   replace H := ifT C1 H
   refine AWP_skip ?_
   show K3 _ _
   refine keepE (l := [0, 3, 4]) (x := [(0, .fsl (encL rBox p0)), (3, .sl o1 0 s2.length), (4, .int .i64 s1)]) rfl fun a' ha => ?_
   refine hK3 _ _ ?_; rw [ha]
   refine Rc.mk ?_
   refine AWP_sq [0, 3, 4] fun K4 hK4 => ?_
   refine AWP_block (AWP_thenB ?_)
   obtain ⟨v4, hv4, H⟩ := bindE H
   obtain ⟨l5, hl5, H⟩ := bindE H
   obtain ⟨l6, hl6, H⟩ := bindE H
   have q1 : ∀ σ i, buildSliceA T 22 true i 0 [] σ = some (.esl, σ) := fun _ _ => rfl
   have q2 : ∀ σ i, buildSliceA T 29 true i 1 [(0, .agg [.int .i64 v4.Room, .fsl (encL rI l5)])] σ = some (.fsl (encL rBox ([(⟨v4.Room, l5⟩ : gBox)] : List gBox)), σ) := fun _ _ => rfl
   refine AWP_rd tok tokM [6, 12, 14] [15] [0, 1, 2, 3, 4, 5, 6, 7, 8, 9, 10, 11, 12, 13, 14, 15, 16] [0, 3, 4] (fun a σ => a = [(0, .fsl (encL rBox p0)), (3, .sl (M1 + 19) 0 l6.length), (4, .int .i64 s1)] ∧ σ = hp E0 [(M1 + 19, some ⟨64, 2, encL rBox l6⟩)] (M1 + 21)) (by decide) (fun K hK => ?_) ?_
   ·
    simp only [pickL, nthO_succ, nthO_zero]
    have e0 := nq (a := o1) (b := M1 + 19) (by omega)
    simp -dsimp -implicitDefEqProofs (maxDischargeDepth := 6) [e0, ix29 hv4, q1, ix29 hv4, appf22 hl5, q2, app29 hl6]
    exact hK _ _ ⟨rfl, rfl⟩
   rintro a σ ⟨ha, rfl⟩
   refine hK4 _ _ ?_; rw [ha]
   refine Rc.mk ?_
   refine AWP_rt tok [] [0, 3, 4] (fun a σ => a = [(0, .fsl (encL rBox p0)), (3, .sl (M1 + 19) 0 l6.length), (4, .int .i64 (iadd .i64 s1 1))] ∧ σ = hp E0 [(M1 + 19, some ⟨64, 2, encL rBox l6⟩)] (M1 + 24)) (fun K hK => ?_) ?_
   ·
    skip
    simp -dsimp -implicitDefEqProofs (maxDischargeDepth := 6)
    exact hK _ _ ⟨rfl, rfl⟩
   rintro a σ ⟨ha, rfl⟩
   replace H := Option.some.inj H; subst H
   refine hK2 _ _ _ rfl ?_; rw [ha]
   exact Rc.fin (AHeap.Sub.refl _) ⟨M1 + 24, (M1 + 19), (by omega), (by omega), (by omega), rfl, rfl⟩
  ·
   replace H := ifF C1 H
   replace H := Option.some.inj H; subst H
   refine AWP_exit (hO2 _ _ _ _ rfl ⟨rfl, ?_⟩)
   refine Rc.rw (l := [3]) (X := [(3, .sl o1 0 s2.length)]) rfl ?_
   exact Rc.fin (AHeap.Sub.refl _) ⟨M1 + 4, o1, (by omega), (by omega), (by omega), rfl, rfl⟩
 ·
  intro x a σ hx
  obtain ⟨y3, rfl⟩ : ∃ x, x = e1 := ⟨_, rfl⟩
  obtain ⟨rfl, b, τ, hr, M2, o2, fM2_0, fM2_1, fM2_2, rfl, rfl⟩ := hx
  dsimp only at H
  show K1 _ _
  refine hK1 _ _ (Rc_ref hr ?_)
  refine Rc.mk ?_
  refine AWP_sr tok [] [2] (fun a σ => a = [(2, .sl o2 0 y3.length)] ∧ σ = hp E0 [(o2, some ⟨64, 2, encL rBox y3⟩)] (M2 + 2)) (fun K hK => ?_) ?_
  ·
   skip
   simp -dsimp -implicitDefEqProofs (maxDischargeDepth := 6)
   exact hK _ _ ⟨rfl, rfl⟩
  rintro a σ ⟨rfl, rfl⟩
  replace H := Option.some.inj H; subst H
  refine AWP_kp [2] [(2, .sl o2 0 y3.length)] rfl ?_
  refine AWP_ret ?_
  refine ⟨[.sl o2 0 y3.length], by simp, M2 + 2, o2, by omega, by omega, by omega, ?_, ?_⟩
  ·
   simp [encL_nil]
  ·
   first | rfl | simp [List.set_set]
theorem c10 {p0 : gMachine} {p1 : (List gBox)} {r : gMachine × (List gBox) × (List Int) × Int} (H : s_HartCall p0 p1 = some r) : APure Try.prog G 10 [.agg [.fsl (encL rI p0.Regs), .int .i64 p0.Pc, .fsl (encL rI p0.Mem)], .fsl (encL rBox p1)] (.tup [.agg [.fsl (encL rI r.1.Regs), .int .i64 r.1.Pc, .fsl (encL rI r.1.Mem)], .fsl (encL rBox r.2.1), .fsl (encL rI r.2.2.1), .int .i64 r.2.2.2]) := by
 refine APure_fn (fun N0 => ?_) (by simp)
 refine ACalls_fn tok Try.func10 (by kernel_rfl) rfl Try.ntmps10 Try.results10 rfl ?_
 simp only [argsA, Nat.reduceAdd, hp_next]
 unfold s_HartCall at H
 refine AWP_sr tok [0] [1, 2, 4] (fun a σ => a = [(1, .fsl (encL rBox p1)), (2, .fptr [.fsl (encL rI p0.Regs), .int .i64 p0.Pc, .fsl (encL rI p0.Mem)] 0), (4, .ptr (N0 + 1) 0 0)] ∧ σ = hp E0 [(N0 + 1, some ⟨28, 3, [[.nilsl, .int .i64 0, .nilsl]]⟩)] (N0 + 5)) (fun K hK => ?_) ?_
 ·
  skip
  simp -dsimp -implicitDefEqProofs (maxDischargeDepth := 6)
  exact hK _ _ ⟨rfl, rfl⟩
 rintro a σ ⟨rfl, rfl⟩
 refine AWP_sq [1, 2, 4] fun K1 hK1 => ?_
 refine gWkC AWP_ref (o := (N0 + 1)) (ob := ⟨28, 3, [[.nilsl, .int .i64 0, .nilsl]]⟩) (row := [.nilsl, .int .i64 0, .nilsl]) (r := 0) (i := 0) [(N0 + 1, some ⟨28, 3, [[.fsl [], .int .i64 0, .nilsl]]⟩)] (by simp (disch := omega)) rfl rfl (by simp (disch := omega)) (by simp (disch := omega) [encL_nil, List.set_set, app_set]) ?_
 refine gWkC AWP_ref (o := (N0 + 1)) (ob := ⟨28, 3, [[.fsl [], .int .i64 0, .nilsl]]⟩) (row := [.fsl [], .int .i64 0, .nilsl]) (r := 0) (i := 2) [(N0 + 1, some ⟨28, 3, [[.fsl [], .int .i64 0, .fsl []]]⟩)] (by simp (disch := omega)) rfl rfl (by simp (disch := omega)) (by simp (disch := omega) [encL_nil, List.set_set, app_set]) ?_
 obtain ⟨r1, hr1, H⟩ := bindE H
 obtain ⟨g3, hg3, H⟩ := bindE H
 obtain ⟨g5, hg5, H⟩ := bindE H
 refine AWP_sr tok [] [1, 2, 4, 25] (fun a σ => a = [(1, .fsl (encL rBox p1)), (2, .fptr [.fsl (encL rI p0.Regs), .int .i64 p0.Pc, .fsl (encL rI p0.Mem)] 0), (4, .ptr (N0 + 1) 0 0), (25, .bool g5)] ∧ σ = hp E0 [(N0 + 1, some ⟨28, 3, [[.fsl [], .int .i64 0, .fsl []]]⟩)] (N0 + 19)) (fun K hK => ?_) ?_
 ·
  skip
  simp -dsimp -implicitDefEqProofs (maxDischargeDepth := 6)
  refine (c42 hr1).app ?_; try simp -dsimp -implicitDefEqProofs (maxDischargeDepth := 6)
  cases hbg3 : bnot r1
  ·
   replace hg3 := ifF hbg3 hg3
   obtain ⟨r2, hr2, hg3⟩ := bindE hg3
   replace hg3 := Option.some.inj hg3; subst hg3
   try simp -dsimp -implicitDefEqProofs (maxDischargeDepth := 6) [hbg3]
   refine (c43 hr2).app ?_; try simp -dsimp -implicitDefEqProofs (maxDischargeDepth := 6) [hbg3]
   cases hbg5 : (bnot r2)
   ·
    replace hg5 := ifF hbg5 hg5
    obtain ⟨r4, hr4, hg5⟩ := bindE hg5
    replace hg5 := Option.some.inj hg5; subst hg5
    try simp -dsimp -implicitDefEqProofs (maxDischargeDepth := 6) [hbg3, hbg5]
    refine (c44 hr4).app ?_; try simp -dsimp -implicitDefEqProofs (maxDischargeDepth := 6) [hbg3, hbg5]
    exact hK _ _ ⟨rfl, rfl⟩
   ·
    replace hg5 := ifT hbg5 hg5
    replace hg5 := Option.some.inj hg5; subst hg5
    try simp -dsimp -implicitDefEqProofs (maxDischargeDepth := 6) [hbg3, hbg5]
    exact hK _ _ ⟨rfl, rfl⟩
  ·
   replace hg3 := ifT hbg3 hg3
   replace hg3 := Option.some.inj hg3; subst hg3
   try simp -dsimp -implicitDefEqProofs (maxDischargeDepth := 6) [hbg3]
   replace hg5 := ifT rfl hg5
   replace hg5 := Option.some.inj hg5; subst hg5
   try simp -dsimp -implicitDefEqProofs (maxDischargeDepth := 6) [hbg3]
   exact hK _ _ ⟨rfl, rfl⟩
 rintro a σ ⟨rfl, rfl⟩
 refine AWP_cond g5 rfl (fun C1 => ?_) (fun C1 => ?_)
 ·
  replace H := ifT C1 H
  have q0 : ∀ σ i, buildSliceA T 29 true i 0 [] σ = some (.esl, σ) := fun _ _ => rfl
  have q1 : ∀ σ i, buildSliceA T 22 true i 0 [] σ = some (.esl, σ) := fun _ _ => rfl
  refine AWP_sr tok [1, 2] [4, 5, 6, 7] (fun a σ => a = [(4, .ptr (N0 + 1) 0 0), (5, .esl), (6, .esl), (7, .int .i64 0)] ∧ σ = hp E0 [(N0 + 1, some ⟨28, 3, [[.fsl [], .int .i64 0, .fsl []]]⟩)] (N0 + 26)) (fun K hK => ?_) ?_
  ·
   skip
   simp -dsimp -implicitDefEqProofs (maxDischargeDepth := 6) [q0, q1]
   exact hK _ _ ⟨rfl, rfl⟩
  rintro a σ ⟨rfl, rfl⟩
  replace H := Option.some.inj H; subst H
  refine AWP_kp [4, 5, 6, 7] [(4, .ptr (N0 + 1) 0 0), (5, .esl), (6, .esl), (7, .int .i64 0)] rfl ?_
  refine AWP_ret ?_
  exact ⟨[.agg [.fsl [], .int .i64 0, .fsl []], .esl, .esl, .int .i64 0], by simp, 4, by simp [encL_nil]⟩
 ·
  replace H := ifF C1 H
  refine AWP_skip ?_
  show K1 _ _
  refine keepE (l := [1, 2, 4]) (x := [(1, .fsl (encL rBox p1)), (2, .fptr [.fsl (encL rI p0.Regs), .int .i64 p0.Pc, .fsl (encL rI p0.Mem)] 0), (4, .ptr (N0 + 1) 0 0)]) rfl fun a' ha => ?_
  refine hK1 _ _ ?_; rw [ha]
  refine Rc.mk ?_
  obtain ⟨r6, hr6, H⟩ := bindE H
  refine AWP_sr tok [] [1, 4, 8] (fun a σ => ∃ M1 o1 : Nat, N0 + 23 ≤ M1 ∧ N0 + 23 ≤ o1 ∧ o1 < M1 ∧ a = [(1, .fsl (encL rBox p1)), (4, .ptr (N0 + 1) 0 0), (8, .ptr (N0 + 21) 0 0)] ∧ σ = hp E0 [(N0 + 1, some ⟨28, 3, [[.fsl [], .int .i64 0, .fsl []]]⟩), (o1, some ⟨3, 1, encL rI r6.Regs⟩), (N0 + 21, some ⟨28, 3, [[.sl o1 0 r6.Regs.length, .int .i64 r6.Pc, .fsl (encL rI r6.Mem)]]⟩)] M1) (fun K hK => ?_) ?_
  ·
   skip
   simp -dsimp -implicitDefEqProofs (maxDischargeDepth := 6)
   refine (c45_o (H := hr6) ).mono ?_; rintro _ _ ⟨M1, o1, fM1_0, fM1_1, fM1_2, rfl, rfl⟩; simp only [hp_next] at fM1_0 fM1_1 fM1_2
   have eM1_0 := nq (a := o1) (b := N0 + 1) (by omega)
   have eM1_1 := nq (a := o1) (b := N0 + 21) (by omega)
   try simp -dsimp -implicitDefEqProofs (maxDischargeDepth := 6) [eM1_0, eM1_1, hp_over_some, hp_over_none]
   exact hK _ _ ⟨M1, o1, (by omega), (by omega), (by omega), rfl, rfl⟩
  rintro a σ ⟨M1, o1, fM1_0, fM1_1, fM1_2, rfl, rfl⟩
  refine gPk AWP_ref (k := r6.Regs.length) (o := (N0 + 21)) (ob := ⟨28, 3, [[.sl o1 0 r6.Regs.length, .int .i64 r6.Pc, .fsl (encL rI r6.Mem)]]⟩) (row := [.sl o1 0 r6.Regs.length, .int .i64 r6.Pc, .fsl (encL rI r6.Mem)]) (d := o1) (obd := ⟨3, 1, encL rI r6.Regs⟩) (r := 0) (i := 0) [(N0 + 1, some ⟨28, 3, [[.fsl [], .int .i64 0, .fsl []]]⟩), (N0 + 21, some ⟨28, 3, [[.osl 3 1 (encL rI r6.Regs), .int .i64 r6.Pc, .fsl (encL rI r6.Mem)]]⟩)] (by simp (disch := omega)) rfl rfl (by simp (disch := omega)) (by simp (disch := omega)) (by first | omega | simp) (by simp (disch := omega) [List.set_set, app_set] <;> omega) (by simp (disch := omega) [List.set_set, app_set]) ?_
  obtain ⟨r7, hr7, H⟩ := bindE H
  refine AWP_sr tok [] [4, 8, 9] (fun a σ => ∃ M2 o2 : Nat, M1 + 3 ≤ M2 ∧ M1 + 3 ≤ o2 ∧ o2 < M2 ∧ a = [(4, .ptr (N0 + 1) 0 0), (8, .ptr (N0 + 21) 0 0), (9, .sl o2 0 r7.length)] ∧ σ = hp E0 [(N0 + 1, some ⟨28, 3, [[.fsl [], .int .i64 0, .fsl []]]⟩), (N0 + 21, some ⟨28, 3, [[.osl 3 1 (encL rI r6.Regs), .int .i64 r6.Pc, .fsl (encL rI r6.Mem)]]⟩), (o2, some ⟨64, 2, encL rBox r7⟩)] M2) (fun K hK => ?_) ?_
  ·
   skip
   simp -dsimp -implicitDefEqProofs (maxDischargeDepth := 6)
   refine (c46_o (H := hr7) ).mono ?_; rintro _ _ ⟨M2, o2, fM2_0, fM2_1, fM2_2, rfl, rfl⟩; simp only [hp_next] at fM2_0 fM2_1 fM2_2
   have eM2_0 := nq (a := o2) (b := N0 + 1) (by omega)
   have eM2_1 := nq (a := o2) (b := N0 + 21) (by omega)
   try simp -dsimp -implicitDefEqProofs (maxDischargeDepth := 6) [eM2_0, eM2_1, hp_over_some, hp_over_none]
   exact hK _ _ ⟨M2, o2, (by omega), (by omega), (by omega), rfl, rfl⟩
  rintro a σ ⟨M2, o2, fM2_0, fM2_1, fM2_2, rfl, rfl⟩
  obtain ⟨r8, hr8, H⟩ := bindE H
  refine AWP_sr tok [] [4, 8, 9, 10, 11] (fun a σ => ∃ M3 : Nat, M2 + 7 ≤ M3 ∧ r8.2.2.2.length = r7.length ∧ a = [(4, .ptr (N0 + 1) 0 0), (8, .ptr (N0 + 21) 0 0), (9, .sl o2 0 r7.length), (10, .fsl (encL rI r8.1)), (11, .int .i64 r8.2.1)] ∧ σ = hp E0 [(N0 + 1, some ⟨28, 3, [[.fsl [], .int .i64 0, .fsl []]]⟩), (N0 + 21, some ⟨28, 3, [[.osl 3 1 (encL rI r8.2.2.1.Regs), .int .i64 r8.2.2.1.Pc, .fsl (encL rI r8.2.2.1.Mem)]]⟩), (o2, some ⟨64, 2, encL rBox r8.2.2.2⟩)] M3) (fun K hK => ?_) ?_
  ·
   skip
   have e0 := nq (a := N0 + 1) (b := o2) (by omega)
   have e1 := nq (a := N0 + 21) (b := o2) (by omega)
   simp -dsimp -implicitDefEqProofs (maxDischargeDepth := 6) [e0, e1]
   refine (c47 (W0 := [[.osl 3 1 (encL rI r6.Regs), .int .i64 r6.Pc, .fsl (encL rI r6.Mem)]]) (r0_ := 0) (H := hr8) (by simp [e0, e1]) (by simp [e0, e1]) (by simp [e0, e1]) (by simp [e0, e1])).mono ?_; rintro _ _ ⟨M3, fM3_0, fM3_1, rfl, rfl⟩; simp only [hp_next] at fM3_0
   try simp -dsimp -implicitDefEqProofs (maxDischargeDepth := 6) [e0, e1, hp_over_some, hp_over_none]
   exact hK _ _ ⟨M3, (by omega), fM3_1, rfl, rfl⟩
  rintro a σ ⟨M3, fM3_0, fM3_1, rfl, rfl⟩
  try rw [← fM3_1]
  refine gUnp AWP_ref (ty := 3) (sz := 1) (es := encL rI r8.2.2.1.Regs) (o := (N0 + 21)) (ob := ⟨28, 3, [[.osl 3 1 (encL rI r8.2.2.1.Regs), .int .i64 r8.2.2.1.Pc, .fsl (encL rI r8.2.2.1.Mem)]]⟩) (row := [.osl 3 1 (encL rI r8.2.2.1.Regs), .int .i64 r8.2.2.1.Pc, .fsl (encL rI r8.2.2.1.Mem)]) (r := 0) (i := 0) [(N0 + 1, some ⟨28, 3, [[.fsl [], .int .i64 0, .fsl []]]⟩), (N0 + 21, some ⟨28, 3, [[.sl M3 0 r8.2.2.1.Regs.length, .int .i64 r8.2.2.1.Pc, .fsl (encL rI r8.2.2.1.Mem)]]⟩), (o2, some ⟨64, 2, encL rBox r8.2.2.2⟩), (M3, some ⟨3, 1, encL rI r8.2.2.1.Regs⟩)] (by simp (disch := omega)) rfl rfl (by simp (disch := omega) [List.set_set]) ?_
  refine AWP_sr tok [] [4, 5, 6, 7] (fun a σ => a = [(4, .ptr (N0 + 1) 0 0), (5, .sl o2 0 r8.2.2.2.length), (6, .fsl (encL rI r8.1)), (7, .int .i64 r8.2.1)] ∧ σ = hp E0 [(N0 + 1, some ⟨28, 3, [[.sl M3 0 r8.2.2.1.Regs.length, .int .i64 r8.2.2.1.Pc, .fsl (encL rI r8.2.2.1.Mem)]]⟩), (N0 + 21, some ⟨28, 3, [[.sl M3 0 r8.2.2.1.Regs.length, .int .i64 r8.2.2.1.Pc, .fsl (encL rI r8.2.2.1.Mem)]]⟩), (o2, some ⟨64, 2, encL rBox r8.2.2.2⟩), (M3, some ⟨3, 1, encL rI r8.2.2.1.Regs⟩)] (M3 + 9)) (fun K hK => ?_) ?_
  ·
   skip
   have e0 := nq (a := N0 + 1) (b := o2) (by omega)
   have e1 := nq (a := N0 + 1) (b := M3) (by omega)
   have e2 := nq (a := N0 + 21) (b := o2) (by omega)
   have e3 := nq (a := N0 + 21) (b := M3) (by omega)
   have e4 := nq (a := o2) (b := M3) (by omega)
   simp -dsimp -implicitDefEqProofs (maxDischargeDepth := 6) [e0, e1, e2, e3, e4]
   exact hK _ _ ⟨rfl, rfl⟩
  rintro a σ ⟨rfl, rfl⟩
  replace H := Option.some.inj H; subst H
  refine AWP_kp [4, 5, 6, 7] [(4, .ptr (N0 + 1) 0 0), (5, .sl o2 0 r8.2.2.2.length), (6, .fsl (encL rI r8.1)), (7, .int .i64 r8.2.1)] rfl ?_
  have z0 := nq (a := N0 + 1) (b := o2) (by omega)
  have z1 := nq (a := N0 + 1) (b := M3) (by omega)
  have z2 := nq (a := N0 + 21) (b := o2) (by omega)
  have z3 := nq (a := N0 + 21) (b := M3) (by omega)
  have z4 := nq (a := o2) (b := M3) (by omega)
  refine AWP_ret ?_
  exact ⟨[.agg [.sl M3 0 r8.2.2.1.Regs.length, .int .i64 r8.2.2.1.Pc, .fsl (encL rI r8.2.2.1.Mem)], .sl o2 0 r8.2.2.2.length, .fsl (encL rI r8.1), .int .i64 r8.2.1], by simp [z0, z1, z2, z3, z4], 4, by simp [encL_nil, z0, z1, z2, z3, z4]⟩
theorem c78 {p0 : Int} {r : Bool} (H : i_WordValid p0 = some r) : APure Try.prog G 78 [.int .i64 p0] (.bool r) := by
 refine APure_fn (fun N0 => ?_) (by simp)
 refine ACalls_fn tok Try.func78 (by kernel_rfl) rfl Try.ntmps78 Try.results78 rfl ?_
 simp only [argsA, Nat.reduceAdd, hp_next]
 unfold i_WordValid at H
 refine AWP_sr tok [] [0] (fun a σ => a = [(0, .int .i64 p0)] ∧ σ = hp E0 [] (N0 + 1)) (fun K hK => ?_) ?_
 ·
  skip
  simp -dsimp -implicitDefEqProofs (maxDischargeDepth := 6)
  exact hK _ _ ⟨rfl, rfl⟩
 rintro a σ ⟨rfl, rfl⟩
 obtain ⟨g1, hg1, H⟩ := bindE H
 refine AWP_sr tok [] [2] (fun a σ => a = [(2, .bool g1)] ∧ σ = hp E0 [] (N0 + 8)) (fun K hK => ?_) ?_
 ·
  skip
  simp -dsimp -implicitDefEqProofs (maxDischargeDepth := 6)
  cases hbg1 : ige p0 (-2147483648)
  ·
   replace hg1 := ifF hbg1 hg1
   replace hg1 := Option.some.inj hg1; subst hg1
   try simp -dsimp -implicitDefEqProofs (maxDischargeDepth := 6) [hbg1]
   exact hK _ _ ⟨rfl, rfl⟩
  ·
   replace hg1 := ifT hbg1 hg1
   replace hg1 := Option.some.inj hg1; subst hg1
   try simp -dsimp -implicitDefEqProofs (maxDischargeDepth := 6) [hbg1]
   exact hK _ _ ⟨rfl, rfl⟩
 rintro a σ ⟨rfl, rfl⟩
 replace H := Option.some.inj H; subst H
 refine AWP_kp [2] [(2, .bool g1)] rfl ?_
 refine AWP_ret ?_
 exact ⟨[.bool g1], by simp, 4, by simp [encL_nil]⟩
theorem c85 {p0 : (List Int)} {r : Bool} (H : i_areWords p0 = some r) : APure Try.prog G 85 [.fsl (encL rI p0)] (.bool r) := by
 refine APure_fn (fun N0 => ?_) (by simp)
 refine ACalls_fn tok Try.func85 (by kernel_rfl) rfl Try.ntmps85 Try.results85 rfl ?_
 simp only [argsA, Nat.reduceAdd, hp_next]
 unfold i_areWords at H
 refine AWP_sr tok [] [0] (fun a σ => a = [(0, .fsl (encL rI p0))] ∧ σ = hp E0 [] (N0 + 1)) (fun K hK => ?_) ?_
 ·
  skip
  simp -dsimp -implicitDefEqProofs (maxDischargeDepth := 6)
  exact hK _ _ ⟨rfl, rfl⟩
 rintro a σ ⟨rfl, rfl⟩
 refine AWP_sq [] fun K1 hK1 => ?_
 refine AWP_sr tok [] [5, 6, 7] (fun a σ => a = [(5, .fsl (encL rI p0)), (6, .int .i64 (ilen p0)), (7, .int .i64 0)] ∧ σ = hp E0 [] (N0 + 4)) (fun K hK => ?_) ?_
 ·
  skip
  simp -dsimp -implicitDefEqProofs (maxDischargeDepth := 6)
  exact hK _ _ ⟨rfl, rfl⟩
 rintro a σ ⟨rfl, rfl⟩
 refine AWP_block (AWP_thenB ?_)
 obtain ⟨e1, hse1, H⟩ := bindE H
 refine AWP_lp [5, 6, 7] (fun s a σ => ∃ M1 : Nat, N0 ≤ M1 ∧ a = [(5, .fsl (encL rI p0)), (6, .int .i64 (ilen p0)), (7, .int .i64 s)] ∧ σ = hp E0 [] M1) (fun e x a σ => match e with | .inl s => x = .exit 0 ∧ Rc G 15 N0 (fun a σ => ∃ M2 : Nat, N0 ≤ M2 ∧ a = [] ∧ σ = hp E0 [] M2) (AAct.keep a []) σ | .inr s => x = .ret ∧ ∃ vs, resA T σ a [.tmp 2] = some vs ∧ ∃ d, thawA (fun _ => true) σ d (tupA vs) = .bool s) hse1 ?_ ?_ ?_
 ·
  refine Rc.kp [5, 6, 7] [(5, .fsl (encL rI p0)), (6, .int .i64 (ilen p0)), (7, .int .i64 0)] rfl ?_
  exact Rc.fin (AHeap.Sub.refl _) ⟨N0 + 4, (by omega), rfl, rfl⟩
 ·
  clear H hse1
  rintro s1 fl a σ H ⟨M1, fM1_0, rfl, rfl⟩ K2 O2 hK2 hO2
  unfold i_areWords_L1 at H; dsimp only at H
  refine AWP_sr tok [] [5, 6, 7, 8] (fun a σ => a = [(5, .fsl (encL rI p0)), (6, .int .i64 (ilen p0)), (7, .int .i64 s1), (8, .bool (ilt s1 (ilen p0)))] ∧ σ = hp E0 [] (M1 + 1)) (fun K hK => ?_) ?_
  ·
   skip
   simp -dsimp -implicitDefEqProofs (maxDischargeDepth := 6)
   exact hK _ _ ⟨rfl, rfl⟩
  rintro a σ ⟨rfl, rfl⟩
  refine AWP_sq [5, 6, 7] fun K3 hK3 => ?_
  refine AWP_cond (ilt s1 (ilen p0)) rfl (fun C1 => ?_) (fun C1 => ?_)
  ·
   replace H := ifT C1 H
   refine AWP_skip ?_
   show K3 _ _
   refine keepE (l := [5, 6, 7]) (x := [(5, .fsl (encL rI p0)), (6, .int .i64 (ilen p0)), (7, .int .i64 s1)]) rfl fun a' ha => ?_
   refine hK3 _ _ ?_; rw [ha]
   refine Rc.mk ?_
   refine AWP_sq [5, 6, 7] fun K4 hK4 => ?_
   refine AWP_block (AWP_thenB ?_)
   obtain ⟨v2, hv2, H⟩ := bindE H
   refine AWP_sr tok [] [4, 5, 6, 7] (fun a σ => a = [(4, .int .i64 v2), (5, .fsl (encL rI p0)), (6, .int .i64 (ilen p0)), (7, .int .i64 s1)] ∧ σ = hp E0 [] (M1 + 4)) (fun K hK => ?_) ?_
   ·
    skip
    simp -dsimp -implicitDefEqProofs (maxDischargeDepth := 6) [ix22 hv2]
    exact hK _ _ ⟨rfl, rfl⟩
   rintro a σ ⟨rfl, rfl⟩
   obtain ⟨r3, hr3, H⟩ := bindE H
   refine AWP_sr tok [] [5, 6, 7, 13] (fun a σ => a = [(5, .fsl (encL rI p0)), (6, .int .i64 (ilen p0)), (7, .int .i64 s1), (13, .bool (bnot r3))] ∧ σ = hp E0 [] (M1 + 7)) (fun K hK => ?_) ?_
   ·
    skip
    simp -dsimp -implicitDefEqProofs (maxDischargeDepth := 6)
    refine (c78 hr3).app ?_; try simp -dsimp -implicitDefEqProofs (maxDischargeDepth := 6)
    exact hK _ _ ⟨rfl, rfl⟩
   rintro a σ ⟨rfl, rfl⟩
   refine AWP_cond (bnot r3) rfl (fun C2 => ?_) (fun C2 => ?_)
   ·
    replace H := ifT C2 H
    refine AWP_sr tok [] [2] (fun a σ => a = [(2, .bool false)] ∧ σ = hp E0 [] (M1 + 8)) (fun K hK => ?_) ?_
    ·
     skip
     simp -dsimp -implicitDefEqProofs (maxDischargeDepth := 6)
     exact hK _ _ ⟨rfl, rfl⟩
    rintro a σ ⟨rfl, rfl⟩
    replace H := Option.some.inj H; subst H
    refine AWP_kp [2] [(2, .bool false)] rfl ?_
    refine AWP_ret (hO2 _ _ _ _ rfl ⟨rfl, ?_⟩)
    exact ⟨[.bool false], by simp, 4, by simp [encL_nil]⟩
   ·
    replace H := ifF C2 H
    refine AWP_skip ?_
    show K4 _ _
    refine keepE (l := [5, 6, 7]) (x := [(5, .fsl (encL rI p0)), (6, .int .i64 (ilen p0)), (7, .int .i64 s1)]) rfl fun a' ha => ?_
    refine hK4 _ _ ?_; rw [ha]
    refine Rc.mk ?_
    refine AWP_rt tok [] [5, 6, 7] (fun a σ => a = [(5, .fsl (encL rI p0)), (6, .int .i64 (ilen p0)), (7, .int .i64 (iadd .i64 s1 1))] ∧ σ = hp E0 [] (M1 + 9)) (fun K hK => ?_) ?_
    ·
     skip
     simp -dsimp -implicitDefEqProofs (maxDischargeDepth := 6)
     exact hK _ _ ⟨rfl, rfl⟩
    rintro a σ ⟨ha, rfl⟩
    replace H := Option.some.inj H; subst H
    refine hK2 _ _ _ rfl ?_; rw [ha]
    exact Rc.fin (AHeap.Sub.refl _) ⟨M1 + 9, (by omega), rfl, rfl⟩
  ·
   replace H := ifF C1 H
   replace H := Option.some.inj H; subst H
   refine AWP_exit (hO2 _ _ _ _ rfl ⟨rfl, ?_⟩)
   refine Rc.rw (l := []) (X := []) rfl ?_
   exact Rc.fin (AHeap.Sub.refl _) ⟨M1 + 1, (by omega), rfl, rfl⟩
 ·
  intro x a σ hx
  rcases e1 with ⟨⟩ | r0
  ·
   obtain ⟨rfl, b, τ, hr, M2, fM2_0, rfl, rfl⟩ := hx
   dsimp only at H
   show K1 _ _
   refine hK1 _ _ (Rc_ref hr ?_)
   refine Rc.mk ?_
   refine AWP_sr tok [] [2] (fun a σ => a = [(2, .bool true)] ∧ σ = hp E0 [] (M2 + 1)) (fun K hK => ?_) ?_
   ·
    skip
    simp -dsimp -implicitDefEqProofs (maxDischargeDepth := 6)
    exact hK _ _ ⟨rfl, rfl⟩
   rintro a σ ⟨rfl, rfl⟩
   replace H := Option.some.inj H; subst H
   refine AWP_kp [2] [(2, .bool true)] rfl ?_
   refine AWP_ret ?_
   exact ⟨[.bool true], by simp, 4, by simp [encL_nil]⟩
  ·
   obtain ⟨rfl, hx2⟩ := hx
   dsimp only at H
   replace H := Option.some.inj H; subst H; exact hx2
theorem c50 {p0 : gMachine} {r : Bool} (H : i_MachineValid p0 = some r) : APure Try.prog G 50 [.agg [.fsl (encL rI p0.Regs), .int .i64 p0.Pc, .fsl (encL rI p0.Mem)]] (.bool r) := by
 refine APure_fn (fun N0 => ?_) (by simp)
 refine ACalls_fn tok Try.func50 (by kernel_rfl) rfl Try.ntmps50 Try.results50 rfl ?_
 simp only [argsA, Nat.reduceAdd, hp_next]
 unfold i_MachineValid at H
 refine AWP_sr tok [0] [1] (fun a σ => a = [(1, .fptr [.fsl (encL rI p0.Regs), .int .i64 p0.Pc, .fsl (encL rI p0.Mem)] 0)] ∧ σ = hp E0 [] (N0 + 2)) (fun K hK => ?_) ?_
 ·
  skip
  simp -dsimp -implicitDefEqProofs (maxDischargeDepth := 6)
  exact hK _ _ ⟨rfl, rfl⟩
 rintro a σ ⟨rfl, rfl⟩
 obtain ⟨g2, hg2, H⟩ := bindE H
 obtain ⟨g4, hg4, H⟩ := bindE H
 obtain ⟨g6, hg6, H⟩ := bindE H
 obtain ⟨g7, hg7, H⟩ := bindE H
 obtain ⟨g9, hg9, H⟩ := bindE H
 refine AWP_sr tok [] [2] (fun a σ => a = [(2, .bool g9)] ∧ σ = hp E0 [] (N0 + 35)) (fun K hK => ?_) ?_
 ·
  skip
  simp -dsimp -implicitDefEqProofs (maxDischargeDepth := 6)
  cases hbg2 : ieq (ilen p0.Regs) 32
  ·
   replace hg2 := ifF hbg2 hg2
   replace hg2 := Option.some.inj hg2; subst hg2
   try simp -dsimp -implicitDefEqProofs (maxDischargeDepth := 6) [hbg2]
   replace hg4 := ifF rfl hg4
   replace hg4 := Option.some.inj hg4; subst hg4
   try simp -dsimp -implicitDefEqProofs (maxDischargeDepth := 6) [hbg2]
   replace hg6 := ifF rfl hg6
   replace hg6 := Option.some.inj hg6; subst hg6
   try simp -dsimp -implicitDefEqProofs (maxDischargeDepth := 6) [hbg2]
   replace hg7 := ifF rfl hg7
   replace hg7 := Option.some.inj hg7; subst hg7
   try simp -dsimp -implicitDefEqProofs (maxDischargeDepth := 6) [hbg2]
   replace hg9 := ifF rfl hg9
   replace hg9 := Option.some.inj hg9; subst hg9
   try simp -dsimp -implicitDefEqProofs (maxDischargeDepth := 6) [hbg2]
   exact hK _ _ ⟨rfl, rfl⟩
  ·
   replace hg2 := ifT hbg2 hg2
   obtain ⟨r1, hr1, hg2⟩ := bindE hg2
   replace hg2 := Option.some.inj hg2; subst hg2
   try simp -dsimp -implicitDefEqProofs (maxDischargeDepth := 6) [hbg2]
   refine (c85 hr1).app ?_; try simp -dsimp -implicitDefEqProofs (maxDischargeDepth := 6) [hbg2]
   cases hbg4 : r1
   ·
    replace hg4 := ifF hbg4 hg4
    replace hg4 := Option.some.inj hg4; subst hg4
    try simp -dsimp -implicitDefEqProofs (maxDischargeDepth := 6) [hbg2, hbg4]
    replace hg6 := ifF rfl hg6
    replace hg6 := Option.some.inj hg6; subst hg6
    try simp -dsimp -implicitDefEqProofs (maxDischargeDepth := 6) [hbg2, hbg4]
    replace hg7 := ifF rfl hg7
    replace hg7 := Option.some.inj hg7; subst hg7
    try simp -dsimp -implicitDefEqProofs (maxDischargeDepth := 6) [hbg2, hbg4]
    replace hg9 := ifF rfl hg9
    replace hg9 := Option.some.inj hg9; subst hg9
    try simp -dsimp -implicitDefEqProofs (maxDischargeDepth := 6) [hbg2, hbg4]
    exact hK _ _ ⟨rfl, rfl⟩
   ·
    replace hg4 := ifT hbg4 hg4
    obtain ⟨v3, hv3, hg4⟩ := bindE hg4
    replace hg4 := Option.some.inj hg4; subst hg4
    try simp -dsimp -implicitDefEqProofs (maxDischargeDepth := 6) [hbg2, hbg4, ix22 hv3]
    cases hbg6 : (ieq v3 0)
    ·
     replace hg6 := ifF hbg6 hg6
     replace hg6 := Option.some.inj hg6; subst hg6
     try simp -dsimp -implicitDefEqProofs (maxDischargeDepth := 6) [hbg2, hbg4, ix22 hv3, hbg6]
     replace hg7 := ifF rfl hg7
     replace hg7 := Option.some.inj hg7; subst hg7
     try simp -dsimp -implicitDefEqProofs (maxDischargeDepth := 6) [hbg2, hbg4, ix22 hv3, hbg6]
     replace hg9 := ifF rfl hg9
     replace hg9 := Option.some.inj hg9; subst hg9
     try simp -dsimp -implicitDefEqProofs (maxDischargeDepth := 6) [hbg2, hbg4, ix22 hv3, hbg6]
     exact hK _ _ ⟨rfl, rfl⟩
    ·
     replace hg6 := ifT hbg6 hg6
     obtain ⟨r5, hr5, hg6⟩ := bindE hg6
     replace hg6 := Option.some.inj hg6; subst hg6
     try simp -dsimp -implicitDefEqProofs (maxDischargeDepth := 6) [hbg2, hbg4, ix22 hv3, hbg6]
     refine (c78 hr5).app ?_; try simp -dsimp -implicitDefEqProofs (maxDischargeDepth := 6) [hbg2, hbg4, ix22 hv3, hbg6]
     cases hbg7 : r5
     ·
      replace hg7 := ifF hbg7 hg7
      replace hg7 := Option.some.inj hg7; subst hg7
      try simp -dsimp -implicitDefEqProofs (maxDischargeDepth := 6) [hbg2, hbg4, ix22 hv3, hbg6, hbg7]
      replace hg9 := ifF rfl hg9
      replace hg9 := Option.some.inj hg9; subst hg9
      try simp -dsimp -implicitDefEqProofs (maxDischargeDepth := 6) [hbg2, hbg4, ix22 hv3, hbg6, hbg7]
      exact hK _ _ ⟨rfl, rfl⟩
     ·
      replace hg7 := ifT hbg7 hg7
      replace hg7 := Option.some.inj hg7; subst hg7
      try simp -dsimp -implicitDefEqProofs (maxDischargeDepth := 6) [hbg2, hbg4, ix22 hv3, hbg6, hbg7]
      cases hbg9 : (ile (ilen p0.Mem) 10000)
      ·
       replace hg9 := ifF hbg9 hg9
       replace hg9 := Option.some.inj hg9; subst hg9
       try simp -dsimp -implicitDefEqProofs (maxDischargeDepth := 6) [hbg2, hbg4, ix22 hv3, hbg6, hbg7, hbg9]
       exact hK _ _ ⟨rfl, rfl⟩
      ·
       replace hg9 := ifT hbg9 hg9
       obtain ⟨r8, hr8, hg9⟩ := bindE hg9
       replace hg9 := Option.some.inj hg9; subst hg9
       try simp -dsimp -implicitDefEqProofs (maxDischargeDepth := 6) [hbg2, hbg4, ix22 hv3, hbg6, hbg7, hbg9]
       refine (c85 hr8).app ?_; try simp -dsimp -implicitDefEqProofs (maxDischargeDepth := 6) [hbg2, hbg4, ix22 hv3, hbg6, hbg7, hbg9]
       exact hK _ _ ⟨rfl, rfl⟩
 rintro a σ ⟨rfl, rfl⟩
 replace H := Option.some.inj H; subst H
 refine AWP_kp [2] [(2, .bool g9)] rfl ?_
 refine AWP_ret ?_
 exact ⟨[.bool g9], by simp, 4, by simp [encL_nil]⟩
theorem c77 {p0 : gBox} {r : Bool} (H : i_BoxValid p0 = some r) : APure Try.prog G 77 [.agg [.int .i64 p0.Room, .fsl (encL rI p0.Items)]] (.bool r) := by
 refine APure_fn (fun N0 => ?_) (by simp)
 refine ACalls_fn tok Try.func77 (by kernel_rfl) rfl Try.ntmps77 Try.results77 rfl ?_
 simp only [argsA, Nat.reduceAdd, hp_next]
 unfold i_BoxValid at H
 refine AWP_sr tok [0] [1] (fun a σ => a = [(1, .fptr [.int .i64 p0.Room, .fsl (encL rI p0.Items)] 0)] ∧ σ = hp E0 [] (N0 + 2)) (fun K hK => ?_) ?_
 ·
  skip
  simp -dsimp -implicitDefEqProofs (maxDischargeDepth := 6)
  exact hK _ _ ⟨rfl, rfl⟩
 rintro a σ ⟨rfl, rfl⟩
 obtain ⟨g1, hg1, H⟩ := bindE H
 obtain ⟨g2, hg2, H⟩ := bindE H
 obtain ⟨g4, hg4, H⟩ := bindE H
 refine AWP_sr tok [] [2] (fun a σ => a = [(2, .bool g4)] ∧ σ = hp E0 [] (N0 + 24)) (fun K hK => ?_) ?_
 ·
  skip
  simp -dsimp -implicitDefEqProofs (maxDischargeDepth := 6)
  cases hbg1 : ige p0.Room 1
  ·
   replace hg1 := ifF hbg1 hg1
   replace hg1 := Option.some.inj hg1; subst hg1
   try simp -dsimp -implicitDefEqProofs (maxDischargeDepth := 6) [hbg1]
   replace hg2 := ifF rfl hg2
   replace hg2 := Option.some.inj hg2; subst hg2
   try simp -dsimp -implicitDefEqProofs (maxDischargeDepth := 6) [hbg1]
   replace hg4 := ifF rfl hg4
   replace hg4 := Option.some.inj hg4; subst hg4
   try simp -dsimp -implicitDefEqProofs (maxDischargeDepth := 6) [hbg1]
   exact hK _ _ ⟨rfl, rfl⟩
  ·
   replace hg1 := ifT hbg1 hg1
   replace hg1 := Option.some.inj hg1; subst hg1
   try simp -dsimp -implicitDefEqProofs (maxDischargeDepth := 6) [hbg1]
   cases hbg2 : (ile p0.Room 4)
   ·
    replace hg2 := ifF hbg2 hg2
    replace hg2 := Option.some.inj hg2; subst hg2
    try simp -dsimp -implicitDefEqProofs (maxDischargeDepth := 6) [hbg1, hbg2]
    replace hg4 := ifF rfl hg4
    replace hg4 := Option.some.inj hg4; subst hg4
    try simp -dsimp -implicitDefEqProofs (maxDischargeDepth := 6) [hbg1, hbg2]
    exact hK _ _ ⟨rfl, rfl⟩
   ·
    replace hg2 := ifT hbg2 hg2
    replace hg2 := Option.some.inj hg2; subst hg2
    try simp -dsimp -implicitDefEqProofs (maxDischargeDepth := 6) [hbg1, hbg2]
    cases hbg4 : (ile (ilen p0.Items) p0.Room)
    ·
     replace hg4 := ifF hbg4 hg4
     replace hg4 := Option.some.inj hg4; subst hg4
     try simp -dsimp -implicitDefEqProofs (maxDischargeDepth := 6) [hbg1, hbg2, hbg4]
     exact hK _ _ ⟨rfl, rfl⟩
    ·
     replace hg4 := ifT hbg4 hg4
     obtain ⟨r3, hr3, hg4⟩ := bindE hg4
     replace hg4 := Option.some.inj hg4; subst hg4
     try simp -dsimp -implicitDefEqProofs (maxDischargeDepth := 6) [hbg1, hbg2, hbg4]
     refine (c85 hr3).app ?_; try simp -dsimp -implicitDefEqProofs (maxDischargeDepth := 6) [hbg1, hbg2, hbg4]
     exact hK _ _ ⟨rfl, rfl⟩
 rintro a σ ⟨rfl, rfl⟩
 replace H := Option.some.inj H; subst H
 refine AWP_kp [2] [(2, .bool g4)] rfl ?_
 refine AWP_ret ?_
 exact ⟨[.bool g4], by simp, 4, by simp [encL_nil]⟩
theorem c51 {p0 : (List gBox)} {r : Bool} (H : i_boxesValid p0 = some r) : APure Try.prog G 51 [.fsl (encL rBox p0)] (.bool r) := by
 refine APure_fn (fun N0 => ?_) (by simp)
 refine ACalls_fn tok Try.func51 (by kernel_rfl) rfl Try.ntmps51 Try.results51 rfl ?_
 simp only [argsA, Nat.reduceAdd, hp_next]
 unfold i_boxesValid at H
 refine AWP_sr tok [] [0] (fun a σ => a = [(0, .fsl (encL rBox p0))] ∧ σ = hp E0 [] (N0 + 1)) (fun K hK => ?_) ?_
 ·
  skip
  simp -dsimp -implicitDefEqProofs (maxDischargeDepth := 6)
  exact hK _ _ ⟨rfl, rfl⟩
 rintro a σ ⟨rfl, rfl⟩
 refine AWP_sq [0] fun K1 hK1 => ?_
 refine AWP_sr tok [] [0, 5, 6, 7] (fun a σ => a = [(0, .fsl (encL rBox p0)), (5, .fsl (encL rBox p0)), (6, .int .i64 (ilen p0)), (7, .int .i64 0)] ∧ σ = hp E0 [] (N0 + 4)) (fun K hK => ?_) ?_
 ·
  skip
  simp -dsimp -implicitDefEqProofs (maxDischargeDepth := 6)
  exact hK _ _ ⟨rfl, rfl⟩
 rintro a σ ⟨rfl, rfl⟩
 refine AWP_block (AWP_thenB ?_)
 obtain ⟨e1, hse1, H⟩ := bindE H
 refine AWP_lp [0, 5, 6, 7] (fun s a σ => ∃ M1 : Nat, N0 ≤ M1 ∧ a = [(0, .fsl (encL rBox p0)), (5, .fsl (encL rBox p0)), (6, .int .i64 (ilen p0)), (7, .int .i64 s)] ∧ σ = hp E0 [] M1) (fun e x a σ => match e with | .inl s => x = .exit 0 ∧ Rc G 18 N0 (fun a σ => ∃ M2 : Nat, N0 ≤ M2 ∧ a = [(0, .fsl (encL rBox p0))] ∧ σ = hp E0 [] M2) (AAct.keep a [0]) σ | .inr s => x = .ret ∧ ∃ vs, resA T σ a [.tmp 2] = some vs ∧ ∃ d, thawA (fun _ => true) σ d (tupA vs) = .bool s) hse1 ?_ ?_ ?_
 ·
  refine Rc.kp [0, 5, 6, 7] [(0, .fsl (encL rBox p0)), (5, .fsl (encL rBox p0)), (6, .int .i64 (ilen p0)), (7, .int .i64 0)] rfl ?_
  exact Rc.fin (AHeap.Sub.refl _) ⟨N0 + 4, (by omega), rfl, rfl⟩
 ·
  clear H hse1
  rintro s1 fl a σ H ⟨M1, fM1_0, rfl, rfl⟩ K2 O2 hK2 hO2
  unfold i_boxesValid_L1 at H; dsimp only at H
  refine AWP_sr tok [] [0, 5, 6, 7, 8] (fun a σ => a = [(0, .fsl (encL rBox p0)), (5, .fsl (encL rBox p0)), (6, .int .i64 (ilen p0)), (7, .int .i64 s1), (8, .bool (ilt s1 (ilen p0)))] ∧ σ = hp E0 [] (M1 + 1)) (fun K hK => ?_) ?_
  ·
   skip
   simp -dsimp -implicitDefEqProofs (maxDischargeDepth := 6)
   exact hK _ _ ⟨rfl, rfl⟩
  rintro a σ ⟨rfl, rfl⟩
  refine AWP_sq [0, 5, 6, 7] fun K3 hK3 => ?_
  refine AWP_cond (ilt s1 (ilen p0)) rfl (fun C1 => ?_) (fun C1 => ?_)
  ·
   replace H := ifT C1 H
   refine AWP_skip ?_
   show K3 _ _
   refine keepE (l := [0, 5, 6, 7]) (x := [(0, .fsl (encL rBox p0)), (5, .fsl (encL rBox p0)), (6, .int .i64 (ilen p0)), (7, .int .i64 s1)]) rfl fun a' ha => ?_
   refine hK3 _ _ ?_; rw [ha]
   refine Rc.mk ?_
   refine AWP_sq [0, 5, 6, 7] fun K4 hK4 => ?_
   refine AWP_block (AWP_thenB ?_)
   obtain ⟨v2, hv2, H⟩ := bindE H
   refine AWP_sr tok [] [0, 4, 5, 6, 7] (fun a σ => a = [(0, .fsl (encL rBox p0)), (4, .ptr (M1 + 3) 0 0), (5, .fsl (encL rBox p0)), (6, .int .i64 (ilen p0)), (7, .int .i64 s1)] ∧ σ = hp E0 [(M1 + 3, some ⟨64, 2, [[.int .i64 v2.Room, .fsl (encL rI v2.Items)]]⟩)] (M1 + 5)) (fun K hK => ?_) ?_
   ·
    skip
    simp -dsimp -implicitDefEqProofs (maxDischargeDepth := 6) [ix29 hv2]
    exact hK _ _ ⟨rfl, rfl⟩
   rintro a σ ⟨rfl, rfl⟩
   obtain ⟨r3, hr3, H⟩ := bindE H
   refine AWP_sr tok [] [0, 5, 6, 7, 13] (fun a σ => a = [(0, .fsl (encL rBox p0)), (5, .fsl (encL rBox p0)), (6, .int .i64 (ilen p0)), (7, .int .i64 s1), (13, .bool (bnot r3))] ∧ σ = hp E0 [(M1 + 3, some ⟨64, 2, [[.int .i64 v2.Room, .fsl (encL rI v2.Items)]]⟩)] (M1 + 8)) (fun K hK => ?_) ?_
   ·
    skip
    simp -dsimp -implicitDefEqProofs (maxDischargeDepth := 6)
    refine (c77 hr3).app ?_; try simp -dsimp -implicitDefEqProofs (maxDischargeDepth := 6)
    exact hK _ _ ⟨rfl, rfl⟩
   rintro a σ ⟨rfl, rfl⟩
   refine AWP_cond (bnot r3) rfl (fun C2 => ?_) (fun C2 => ?_)
   ·
    replace H := ifT C2 H
    refine AWP_sr tok [] [2] (fun a σ => a = [(2, .bool false)] ∧ σ = hp E0 [(M1 + 3, some ⟨64, 2, [[.int .i64 v2.Room, .fsl (encL rI v2.Items)]]⟩)] (M1 + 9)) (fun K hK => ?_) ?_
    ·
     skip
     simp -dsimp -implicitDefEqProofs (maxDischargeDepth := 6)
     exact hK _ _ ⟨rfl, rfl⟩
    rintro a σ ⟨rfl, rfl⟩
    replace H := Option.some.inj H; subst H
    refine AWP_kp [2] [(2, .bool false)] rfl ?_
    refine AWP_ret (hO2 _ _ _ _ rfl ⟨rfl, ?_⟩)
    exact ⟨[.bool false], by simp, 4, by simp [encL_nil]⟩
   ·
    replace H := ifF C2 H
    refine AWP_skip ?_
    show K4 _ _
    refine keepE (l := [0, 5, 6, 7]) (x := [(0, .fsl (encL rBox p0)), (5, .fsl (encL rBox p0)), (6, .int .i64 (ilen p0)), (7, .int .i64 s1)]) rfl fun a' ha => ?_
    refine hK4 _ _ ?_; rw [ha]
    refine Rc.mk ?_
    refine AWP_rt tok [] [0, 5, 6, 7] (fun a σ => a = [(0, .fsl (encL rBox p0)), (5, .fsl (encL rBox p0)), (6, .int .i64 (ilen p0)), (7, .int .i64 (iadd .i64 s1 1))] ∧ σ = hp E0 [(M1 + 3, some ⟨64, 2, [[.int .i64 v2.Room, .fsl (encL rI v2.Items)]]⟩)] (M1 + 10)) (fun K hK => ?_) ?_
    ·
     skip
     simp -dsimp -implicitDefEqProofs (maxDischargeDepth := 6)
     exact hK _ _ ⟨rfl, rfl⟩
    rintro a σ ⟨ha, rfl⟩
    replace H := Option.some.inj H; subst H
    refine hK2 _ _ _ rfl ?_; rw [ha]
    exact Rc.fin (AHeap.Sub.trans (AHeap.Sub.refl _) (hp_drop rfl (by simp; try omega))) ⟨M1 + 10, (by omega), rfl, rfl⟩
  ·
   replace H := ifF C1 H
   replace H := Option.some.inj H; subst H
   refine AWP_exit (hO2 _ _ _ _ rfl ⟨rfl, ?_⟩)
   refine Rc.rw (l := [0]) (X := [(0, .fsl (encL rBox p0))]) rfl ?_
   exact Rc.fin (AHeap.Sub.refl _) ⟨M1 + 1, (by omega), rfl, rfl⟩
 ·
  intro x a σ hx
  rcases e1 with ⟨⟩ | r0
  ·
   obtain ⟨rfl, b, τ, hr, M2, fM2_0, rfl, rfl⟩ := hx
   dsimp only at H
   show K1 _ _
   refine hK1 _ _ (Rc_ref hr ?_)
   refine Rc.mk ?_
   refine AWP_sr tok [] [2] (fun a σ => a = [(2, .bool (ile (ilen p0) 3))] ∧ σ = hp E0 [] (M2 + 4)) (fun K hK => ?_) ?_
   ·
    skip
    simp -dsimp -implicitDefEqProofs (maxDischargeDepth := 6)
    exact hK _ _ ⟨rfl, rfl⟩
   rintro a σ ⟨rfl, rfl⟩
   replace H := Option.some.inj H; subst H
   refine AWP_kp [2] [(2, .bool (ile (ilen p0) 3))] rfl ?_
   refine AWP_ret ?_
   exact ⟨[.bool (ile (ilen p0) 3)], by simp, 4, by simp [encL_nil]⟩
  ·
   obtain ⟨rfl, hx2⟩ := hx
   dsimp only at H
   replace H := Option.some.inj H; subst H; exact hx2
theorem c79 {p0 : (List Int)} {r : (List Int)} (H : slices_Clone_int_int p0 = some r) : APure Try.prog G 79 [.fsl (encL rI p0)] (.fsl (encL rI r)) := by
 refine APure_fn (fun N0 => ?_) (by simp)
 refine ACalls_fn tok Try.func79 (by kernel_rfl) rfl Try.ntmps79 Try.results79 rfl ?_
 simp only [argsA, Nat.reduceAdd, hp_next]
 unfold slices_Clone_int_int at H
 refine AWP_sr tok [] [0] (fun a σ => a = [(0, .fsl (encL rI p0))] ∧ σ = hp E0 [] (N0 + 1)) (fun K hK => ?_) ?_
 ·
  skip
  simp -dsimp -implicitDefEqProofs (maxDischargeDepth := 6)
  exact hK _ _ ⟨rfl, rfl⟩
 rintro a σ ⟨rfl, rfl⟩
 refine AWP_sq [0] fun K1 hK1 => ?_
 refine AWP_isnil tok [4, 0] ([(0, .fsl (encL rI p0))]) rfl rfl (by decide) (by decide) (by decide) (fun _ => rfl) (fun n0 => ?_) ?_
 ·
  replace n0 : p0 = [] := encL_isnil n0
  replace H : (if true = true then   some ([] : List Int) else   (appx 8 ([] : List Int) p0).bind fun l2 =>   some l2 : Option ((List Int))) = some r := by simpa [n0, appx] using H
  refine AWP_cond true rfl (fun C2 => ?_) (fun C2 => ?_)
  ·
   replace H := ifT C2 H
   refine AWP_sr tok [] [2] (fun a σ => a = [(2, .nilsl)] ∧ σ = hp E0 [] (N0 + 2)) (fun K hK => ?_) ?_
   ·
    skip
    simp -dsimp -implicitDefEqProofs (maxDischargeDepth := 6)
    exact hK _ _ ⟨rfl, rfl⟩
   rintro a σ ⟨rfl, rfl⟩
   replace H := Option.some.inj H; subst H
   refine AWP_kp [2] [(2, .nilsl)] rfl ?_
   refine AWP_ret ?_
   exact ⟨[.nilsl], by simp, 4, by simp [encL_nil]⟩
  ·
   replace H := ifF C2 H
   refine AWP_skip ?_
   show K1 _ _
   refine keepE (l := [0]) (x := [(0, .fsl (encL rI p0))]) rfl fun a' ha => ?_
   refine hK1 _ _ ?_; rw [ha]
   refine Rc.mk ?_
   obtain ⟨l2, hl2, H⟩ := bindE H
   have q2 : ∀ σ i, buildSliceA T 22 true i 0 [] σ = some (.esl, σ) := fun _ _ => rfl
   refine AWP_sr tok [0, 2] [2] (fun a σ => a = [(2, .fsl (encL rI l2))] ∧ σ = hp E0 [] (N0 + 5)) (fun K hK => ?_) ?_
   ·
    skip
    simp -dsimp -implicitDefEqProofs (maxDischargeDepth := 6) [q2, appf22 hl2]
    exact hK _ _ ⟨rfl, rfl⟩
   rintro a σ ⟨rfl, rfl⟩
   replace H := Option.some.inj H; subst H
   refine AWP_kp [2] [(2, .fsl (encL rI l2))] rfl ?_
   refine AWP_ret ?_
   exact ⟨[.fsl (encL rI l2)], by simp, 4, by simp [encL_nil]⟩
 ·
  refine AWP_cond false rfl (fun C1 => ?_) (fun C1 => ?_)
  ·
   replace H := ifT C1 H
   refine AWP_sr tok [] [2] (fun a σ => a = [(2, .nilsl)] ∧ σ = hp E0 [] (N0 + 2)) (fun K hK => ?_) ?_
   ·
    skip
    simp -dsimp -implicitDefEqProofs (maxDischargeDepth := 6)
    exact hK _ _ ⟨rfl, rfl⟩
   rintro a σ ⟨rfl, rfl⟩
   replace H := Option.some.inj H; subst H
   refine AWP_kp [2] [(2, .nilsl)] rfl ?_
   refine AWP_ret ?_
   exact ⟨[.nilsl], by simp, 4, by simp [encL_nil]⟩
  ·
   replace H := ifF C1 H
   refine AWP_skip ?_
   show K1 _ _
   refine keepE (l := [0]) (x := [(0, .fsl (encL rI p0))]) rfl fun a' ha => ?_
   refine hK1 _ _ ?_; rw [ha]
   refine Rc.mk ?_
   obtain ⟨l1, hl1, H⟩ := bindE H
   have q1 : ∀ σ i, buildSliceA T 22 true i 0 [] σ = some (.esl, σ) := fun _ _ => rfl
   refine AWP_sr tok [0, 2] [2] (fun a σ => a = [(2, .fsl (encL rI l1))] ∧ σ = hp E0 [] (N0 + 5)) (fun K hK => ?_) ?_
   ·
    skip
    simp -dsimp -implicitDefEqProofs (maxDischargeDepth := 6) [q1, appf22 hl1]
    exact hK _ _ ⟨rfl, rfl⟩
   rintro a σ ⟨rfl, rfl⟩
   replace H := Option.some.inj H; subst H
   refine AWP_kp [2] [(2, .fsl (encL rI l1))] rfl ?_
   refine AWP_ret ?_
   exact ⟨[.fsl (encL rI l1)], by simp, 4, by simp [encL_nil]⟩
theorem c86 {p0 : gBox} {p1 : Int} {r : Bool × gBox} (H : i_Box_put p0 p1 = some r) {σ : AHeap} {w0 : Nat} {W0 : List (List AV)} {r0_ : Nat} (q0 : σ.objs w0 = some ⟨64, 2, W0⟩) (g0 : W0[r0_]? = some [.int .i64 p0.Room, .osl 3 1 (encL rI p0.Items)]) : ACalls Try.prog G 86 [.ptr w0 r0_ 0, .int .i64 p1] σ (fun v σ' => ∃ M : Nat, σ.next ≤ M ∧ v = .bool r.1 ∧ σ' = hp σ.objs [(w0, some ⟨64, 2, W0.set r0_ [.int .i64 r.2.Room, .osl 3 1 (encL rI r.2.Items)]⟩)] M) := by
 refine ACalls_fr (L := [(w0, some ⟨64, 2, W0⟩)]) (Q1 := fun v σ' => ∃ M : Nat, σ.next ≤ M ∧ v = .bool r.1 ∧ σ' = hp E0 [(w0, some ⟨64, 2, W0.set r0_ [.int .i64 r.2.Room, .osl 3 1 (encL rI r.2.Items)]⟩)] M) (by simp [q0]) (fun hlt => ?_) ?_ ⟨_, Try.func86, rfl, rfl⟩
 rotate_left
 ·
  rintro v σ1 ⟨M, h0, rfl, rfl⟩
  exact ⟨_, M, rfl, by simp, by simp; try omega, M, h0, rfl, rfl⟩
 generalize σ.next = N0 at hlt ⊢
 have lw0 : w0 < N0 := hlt _ (.head _) rfl
 have gs_W0 : ∀ x, (W0.set r0_ x)[r0_]? = some x := gsetW g0
 rw [show W0 = W0.set r0_ [.int .i64 p0.Room, .osl 3 1 (encL rI p0.Items)] from (set_same g0).symm]
 refine ACalls_fn tok Try.func86 (by kernel_rfl) rfl Try.ntmps86 Try.results86 rfl ?_
 simp only [argsA, Nat.reduceAdd, hp_next]
 unfold i_Box_put at H
 refine AWP_sr tok [] [0, 1] (fun a σ => a = [(0, .ptr w0 r0_ 0), (1, .int .i64 p1)] ∧ σ = hp E0 [(w0, some ⟨64, 2, W0.set r0_ [.int .i64 p0.Room, .osl 3 1 (encL rI p0.Items)]⟩)] (N0 + 1)) (fun K hK => ?_) ?_
 ·
  skip
  simp -dsimp -implicitDefEqProofs (maxDischargeDepth := 6) [gs_W0, List.set_set]
  exact hK _ _ ⟨rfl, rfl⟩
 rintro a σ ⟨rfl, rfl⟩
 refine AWP_sq [0, 1] fun K1 hK1 => ?_
 refine gUnp AWP_ref (ty := 3) (sz := 1) (es := encL rI p0.Items) (o := w0) (ob := ⟨64, 2, W0.set r0_ [.int .i64 p0.Room, .osl 3 1 (encL rI p0.Items)]⟩) (row := [.int .i64 p0.Room, .osl 3 1 (encL rI p0.Items)]) (r := r0_) (i := 1) [(w0, some ⟨64, 2, W0.set r0_ [.int .i64 p0.Room, .sl (N0 + 1) 0 p0.Items.length]⟩), (N0 + 1, some ⟨3, 1, encL rI p0.Items⟩)] (by simp (disch := omega)) (by simp (disch := omega) [gs_W0]) rfl (by simp (disch := omega) [List.set_set]) ?_
 refine AWP_sd tok tokM [] [3, 8] [0, 1, 2, 5, 6, 7, 3, 4, 8, 9] [0, 1, 14] (fun a σ => a = [(0, .ptr w0 r0_ 0), (1, .int .i64 p1), (14, .bool (ieq (ilen p0.Items) p0.Room))] ∧ σ = hp E0 [(w0, some ⟨64, 2, W0.set r0_ [.int .i64 p0.Room, .sl (N0 + 1) 0 p0.Items.length]⟩), (N0 + 1, some ⟨3, 1, encL rI p0.Items⟩)] (N0 + 12)) (by decide) (fun K hK => ?_) ?_
 ·
  simp only [pickL, nthO_succ, nthO_zero]
  have e0 := nq (a := w0) (b := N0 + 1) (by omega)
  simp -dsimp -implicitDefEqProofs (maxDischargeDepth := 6) [e0, gs_W0, List.set_set]
  exact hK _ _ ⟨rfl, rfl⟩
 rintro a σ ⟨rfl, rfl⟩
 refine AWP_cond (ieq (ilen p0.Items) p0.Room) rfl (fun C1 => ?_) (fun C1 => ?_)
 ·
  replace H := ifT C1 H
  refine AWP_sr tok [] [4] (fun a σ => a = [(4, .bool false)] ∧ σ = hp E0 [(w0, some ⟨64, 2, W0.set r0_ [.int .i64 p0.Room, .sl (N0 + 1) 0 p0.Items.length]⟩), (N0 + 1, some ⟨3, 1, encL rI p0.Items⟩)] (N0 + 13)) (fun K hK => ?_) ?_
  ·
   skip
   have e0 := nq (a := w0) (b := N0 + 1) (by omega)
   simp -dsimp -implicitDefEqProofs (maxDischargeDepth := 6) [e0, gs_W0, List.set_set]
   exact hK _ _ ⟨rfl, rfl⟩
  rintro a σ ⟨rfl, rfl⟩
  replace H := Option.some.inj H; subst H
  refine AWP_kp [4] [(4, .bool false)] rfl ?_
  refine gPk AWP_ref (k := p0.Items.length) (o := w0) (ob := ⟨64, 2, W0.set r0_ [.int .i64 p0.Room, .sl (N0 + 1) 0 p0.Items.length]⟩) (row := [.int .i64 p0.Room, .sl (N0 + 1) 0 p0.Items.length]) (d := (N0 + 1)) (obd := ⟨3, 1, encL rI p0.Items⟩) (r := r0_) (i := 1) [(w0, some ⟨64, 2, W0.set r0_ [.int .i64 p0.Room, .osl 3 1 (encL rI p0.Items)]⟩)] (by simp (disch := omega)) (by simp (disch := omega) [gs_W0]) rfl (by simp (disch := omega)) (by simp (disch := omega)) (by first | omega | simp) (by simp (disch := omega) [List.set_set, app_set] <;> omega) (by simp (disch := omega) [List.set_set, app_set]) ?_
  refine AWP_ret ?_
  refine ⟨[.bool false], by simp [gs_W0], N0 + 13, by omega, ?_, ?_⟩
  ·
   simp [encL_nil]
  ·
   first | rfl | simp [List.set_set]
 ·
  replace H := ifF C1 H
  refine AWP_skip ?_
  show K1 _ _
  refine keepE (l := [0, 1]) (x := [(0, .ptr w0 r0_ 0), (1, .int .i64 p1)]) rfl fun a' ha => ?_
  refine hK1 _ _ ?_; rw [ha]
  refine Rc.mk ?_
  obtain ⟨l1, hl1, H⟩ := bindE H
  have q0 : ∀ σ i, buildSliceA T 22 true i 1 [(0, .int .i64 p1)] σ = some (.fsl (encL rI ([p1] : List Int)), σ) := fun _ _ => rfl
  refine AWP_sr tok [6] [] (fun a σ => a = [] ∧ σ = hp E0 [(w0, some ⟨64, 2, W0.set r0_ [.int .i64 p0.Room, .sl (N0 + 19) 0 l1.length]⟩), (N0 + 19, some ⟨3, 1, encL rI l1⟩)] (N0 + 23)) (fun K hK => ?_) ?_
  ·
   skip
   have e0 := nq (a := w0) (b := N0 + 1) (by omega)
   have e1 := nq (a := w0) (b := N0 + 19) (by omega)
   simp -dsimp -implicitDefEqProofs (maxDischargeDepth := 6) [e0, e1, gs_W0, List.set_set, q0, app22 hl1]
   exact hK _ _ ⟨rfl, rfl⟩
  rintro a σ ⟨rfl, rfl⟩
  refine AWP_sr tok [] [4] (fun a σ => a = [(4, .bool true)] ∧ σ = hp E0 [(w0, some ⟨64, 2, W0.set r0_ [.int .i64 p0.Room, .sl (N0 + 19) 0 l1.length]⟩), (N0 + 19, some ⟨3, 1, encL rI l1⟩)] (N0 + 24)) (fun K hK => ?_) ?_
  ·
   skip
   have e0 := nq (a := w0) (b := N0 + 19) (by omega)
   simp -dsimp -implicitDefEqProofs (maxDischargeDepth := 6) [e0, gs_W0, List.set_set]
   exact hK _ _ ⟨rfl, rfl⟩
  rintro a σ ⟨rfl, rfl⟩
  replace H := Option.some.inj H; subst H
  refine AWP_kp [4] [(4, .bool true)] rfl ?_
  refine gPk AWP_ref (k := l1.length) (o := w0) (ob := ⟨64, 2, W0.set r0_ [.int .i64 p0.Room, .sl (N0 + 19) 0 l1.length]⟩) (row := [.int .i64 p0.Room, .sl (N0 + 19) 0 l1.length]) (d := (N0 + 19)) (obd := ⟨3, 1, encL rI l1⟩) (r := r0_) (i := 1) [(w0, some ⟨64, 2, W0.set r0_ [.int .i64 p0.Room, .osl 3 1 (encL rI l1)]⟩)] (by simp (disch := omega)) (by simp (disch := omega) [gs_W0]) rfl (by simp (disch := omega)) (by simp (disch := omega)) (by first | omega | simp) (by simp (disch := omega) [List.set_set, app_set] <;> omega) (by simp (disch := omega) [List.set_set, app_set]) ?_
  refine AWP_ret ?_
  refine ⟨[.bool true], by simp [gs_W0], N0 + 24, by omega, ?_, ?_⟩
  ·
   simp [encL_nil]
  ·
   first | rfl | simp [List.set_set]
theorem c87 {p0 : gBox} {r : Int × Bool × gBox} (H : i_Box_take p0 = some r) {σ : AHeap} {w0 : Nat} {W0 : List (List AV)} {r0_ : Nat} (q0 : σ.objs w0 = some ⟨64, 2, W0⟩) (g0 : W0[r0_]? = some [.int .i64 p0.Room, .osl 3 1 (encL rI p0.Items)]) : ACalls Try.prog G 87 [.ptr w0 r0_ 0] σ (fun v σ' => ∃ M : Nat, σ.next ≤ M ∧ v = .tup [.int .i64 r.1, .bool r.2.1] ∧ σ' = hp σ.objs [(w0, some ⟨64, 2, W0.set r0_ [.int .i64 r.2.2.Room, .osl 3 1 (encL rI r.2.2.Items)]⟩)] M) := by
 refine ACalls_fr (L := [(w0, some ⟨64, 2, W0⟩)]) (Q1 := fun v σ' => ∃ M : Nat, σ.next ≤ M ∧ v = .tup [.int .i64 r.1, .bool r.2.1] ∧ σ' = hp E0 [(w0, some ⟨64, 2, W0.set r0_ [.int .i64 r.2.2.Room, .osl 3 1 (encL rI r.2.2.Items)]⟩)] M) (by simp [q0]) (fun hlt => ?_) ?_ ⟨_, Try.func87, rfl, rfl⟩
 rotate_left
 ·
  rintro v σ1 ⟨M, h0, rfl, rfl⟩
  exact ⟨_, M, rfl, by simp, by simp; try omega, M, h0, rfl, rfl⟩
 generalize σ.next = N0 at hlt ⊢
 have lw0 : w0 < N0 := hlt _ (.head _) rfl
 have gs_W0 : ∀ x, (W0.set r0_ x)[r0_]? = some x := gsetW g0
 rw [show W0 = W0.set r0_ [.int .i64 p0.Room, .osl 3 1 (encL rI p0.Items)] from (set_same g0).symm]
 refine ACalls_fn tok Try.func87 (by kernel_rfl) rfl Try.ntmps87 Try.results87 rfl ?_
 simp only [argsA, Nat.reduceAdd, hp_next]
 unfold i_Box_take at H
 refine AWP_sr tok [] [0] (fun a σ => a = [(0, .ptr w0 r0_ 0)] ∧ σ = hp E0 [(w0, some ⟨64, 2, W0.set r0_ [.int .i64 p0.Room, .osl 3 1 (encL rI p0.Items)]⟩)] (N0 + 2)) (fun K hK => ?_) ?_
 ·
  skip
  simp -dsimp -implicitDefEqProofs (maxDischargeDepth := 6) [gs_W0, List.set_set]
  exact hK _ _ ⟨rfl, rfl⟩
 rintro a σ ⟨rfl, rfl⟩
 refine AWP_sq [0] fun K1 hK1 => ?_
 refine gUnp AWP_ref (ty := 3) (sz := 1) (es := encL rI p0.Items) (o := w0) (ob := ⟨64, 2, W0.set r0_ [.int .i64 p0.Room, .osl 3 1 (encL rI p0.Items)]⟩) (row := [.int .i64 p0.Room, .osl 3 1 (encL rI p0.Items)]) (r := r0_) (i := 1) [(w0, some ⟨64, 2, W0.set r0_ [.int .i64 p0.Room, .sl (N0 + 2) 0 p0.Items.length]⟩), (N0 + 2, some ⟨3, 1, encL rI p0.Items⟩)] (by simp (disch := omega)) (by simp (disch := omega) [gs_W0]) rfl (by simp (disch := omega) [List.set_set]) ?_
 refine AWP_sr tok [] [0, 10] (fun a σ => a = [(0, .ptr w0 r0_ 0), (10, .bool (ieq (ilen p0.Items) 0))] ∧ σ = hp E0 [(w0, some ⟨64, 2, W0.set r0_ [.int .i64 p0.Room, .sl (N0 + 2) 0 p0.Items.length]⟩), (N0 + 2, some ⟨3, 1, encL rI p0.Items⟩)] (N0 + 9)) (fun K hK => ?_) ?_
 ·
  skip
  have e0 := nq (a := w0) (b := N0 + 2) (by omega)
  simp -dsimp -implicitDefEqProofs (maxDischargeDepth := 6) [e0, gs_W0, List.set_set]
  exact hK _ _ ⟨rfl, rfl⟩
 rintro a σ ⟨rfl, rfl⟩
 refine AWP_cond (ieq (ilen p0.Items) 0) rfl (fun C1 => ?_) (fun C1 => ?_)
 ·
  replace H := ifT C1 H
  refine AWP_sr tok [] [2, 3] (fun a σ => a = [(2, .int .i64 0), (3, .bool false)] ∧ σ = hp E0 [(w0, some ⟨64, 2, W0.set r0_ [.int .i64 p0.Room, .sl (N0 + 2) 0 p0.Items.length]⟩), (N0 + 2, some ⟨3, 1, encL rI p0.Items⟩)] (N0 + 11)) (fun K hK => ?_) ?_
  ·
   skip
   have e0 := nq (a := w0) (b := N0 + 2) (by omega)
   simp -dsimp -implicitDefEqProofs (maxDischargeDepth := 6) [e0, gs_W0, List.set_set]
   exact hK _ _ ⟨rfl, rfl⟩
  rintro a σ ⟨rfl, rfl⟩
  replace H := Option.some.inj H; subst H
  refine AWP_kp [2, 3] [(2, .int .i64 0), (3, .bool false)] rfl ?_
  refine gPk AWP_ref (k := p0.Items.length) (o := w0) (ob := ⟨64, 2, W0.set r0_ [.int .i64 p0.Room, .sl (N0 + 2) 0 p0.Items.length]⟩) (row := [.int .i64 p0.Room, .sl (N0 + 2) 0 p0.Items.length]) (d := (N0 + 2)) (obd := ⟨3, 1, encL rI p0.Items⟩) (r := r0_) (i := 1) [(w0, some ⟨64, 2, W0.set r0_ [.int .i64 p0.Room, .osl 3 1 (encL rI p0.Items)]⟩)] (by simp (disch := omega)) (by simp (disch := omega) [gs_W0]) rfl (by simp (disch := omega)) (by simp (disch := omega)) (by first | omega | simp) (by simp (disch := omega) [List.set_set, app_set] <;> omega) (by simp (disch := omega) [List.set_set, app_set]) ?_
  refine AWP_ret ?_
  refine ⟨[.int .i64 0, .bool false], by simp [gs_W0], N0 + 11, by omega, ?_, ?_⟩
  ·
   simp [encL_nil]
  ·
   first | rfl | simp [List.set_set]
 ·
  replace H := ifF C1 H
  refine AWP_skip ?_
  show K1 _ _
  refine keepE (l := [0]) (x := [(0, .ptr w0 r0_ 0)]) rfl fun a' ha => ?_
  refine hK1 _ _ ?_; rw [ha]
  refine Rc.mk ?_
  obtain ⟨v1, hv1, H⟩ := bindE H
  refine AWP_sr tok [] [0, 4] (fun a σ => a = [(0, .ptr w0 r0_ 0), (4, .int .i64 v1)] ∧ σ = hp E0 [(w0, some ⟨64, 2, W0.set r0_ [.int .i64 p0.Room, .sl (N0 + 2) 0 p0.Items.length]⟩), (N0 + 2, some ⟨3, 1, encL rI p0.Items⟩)] (N0 + 16)) (fun K hK => ?_) ?_
  ·
   skip
   have e0 := nq (a := w0) (b := N0 + 2) (by omega)
   simp -dsimp -implicitDefEqProofs (maxDischargeDepth := 6) [e0, gs_W0, List.set_set, ixo22 hv1, (show _[0]? = some v1 from (idx_lt3 hv1).2.2)]
   exact hK _ _ ⟨rfl, rfl⟩
  rintro a σ ⟨rfl, rfl⟩
  obtain ⟨l2, hl2, H⟩ := bindE H
  obtain ⟨l3, hl3, H⟩ := bindE H
  obtain ⟨l4, hl4, H⟩ := bindE H
  refine AWP_sd tok tokM [] [4, 5, 9, 10, 11, 14] [0, 1, 2, 3, 6, 7, 8, 4, 5, 9, 10, 11, 12, 13, 14] [4] (fun a σ => a = [(4, .int .i64 v1)] ∧ σ = hp E0 [(w0, some ⟨64, 2, W0.set r0_ [.int .i64 p0.Room, .sl (N0 + 27) 0 l4.length]⟩), (N0 + 27, some ⟨3, 1, encL rI l4⟩)] (N0 + 31)) (by decide) (fun K hK => ?_) ?_
  ·
   simp only [pickL, nthO_succ, nthO_zero]
   have e0 := nq (a := w0) (b := N0 + 2) (by omega)
   have e1 := nq (a := w0) (b := N0 + 27) (by omega)
   simp -dsimp -implicitDefEqProofs (maxDischargeDepth := 6) [e0, e1, gs_W0, List.set_set, cutoh_22 hl2, cutol_22 hl3, appv22 hl2 hl4, srcvn22 1 hl3 rfl]
   exact hK _ _ ⟨rfl, rfl⟩
  rintro a σ ⟨rfl, rfl⟩
  refine AWP_sr tok [] [2, 3] (fun a σ => a = [(2, .int .i64 v1), (3, .bool true)] ∧ σ = hp E0 [(w0, some ⟨64, 2, W0.set r0_ [.int .i64 p0.Room, .sl (N0 + 27) 0 l4.length]⟩), (N0 + 27, some ⟨3, 1, encL rI l4⟩)] (N0 + 34)) (fun K hK => ?_) ?_
  ·
   skip
   have e0 := nq (a := w0) (b := N0 + 27) (by omega)
   simp -dsimp -implicitDefEqProofs (maxDischargeDepth := 6) [e0, gs_W0, List.set_set]
   exact hK _ _ ⟨rfl, rfl⟩
  rintro a σ ⟨rfl, rfl⟩
  replace H := Option.some.inj H; subst H
  refine AWP_kp [2, 3] [(2, .int .i64 v1), (3, .bool true)] rfl ?_
  refine gPk AWP_ref (k := l4.length) (o := w0) (ob := ⟨64, 2, W0.set r0_ [.int .i64 p0.Room, .sl (N0 + 27) 0 l4.length]⟩) (row := [.int .i64 p0.Room, .sl (N0 + 27) 0 l4.length]) (d := (N0 + 27)) (obd := ⟨3, 1, encL rI l4⟩) (r := r0_) (i := 1) [(w0, some ⟨64, 2, W0.set r0_ [.int .i64 p0.Room, .osl 3 1 (encL rI l4)]⟩)] (by simp (disch := omega)) (by simp (disch := omega) [gs_W0]) rfl (by simp (disch := omega)) (by simp (disch := omega)) (by first | omega | simp) (by simp (disch := omega) [List.set_set, app_set] <;> omega) (by simp (disch := omega) [List.set_set, app_set]) ?_
  refine AWP_ret ?_
  refine ⟨[.int .i64 v1, .bool true], by simp [gs_W0], N0 + 34, by omega, ?_, ?_⟩
  ·
   simp [encL_nil]
  ·
   first | rfl | simp [List.set_set]
theorem c54 {p0 : gMachine} {p1 : (List gBox)} {p2 : (List Int)} {r : Int × gMachine × (List gBox) × (List Int)} (H : i_Machine_call p0 p1 p2 = some r) {σ : AHeap} {w0 : Nat} {W0 : List (List AV)} {r0_ : Nat} {w1 : Nat} {w2 : Nat} {W2 : List (List AV)} {r2_ : Nat} {x2_ : List AV} {i2_ : Nat} {t2_ s2_ : Nat} (q0 : σ.objs w0 = some ⟨28, 3, W0⟩) (g0 : W0[r0_]? = some [.osl 3 1 (encL rI p0.Regs), .int .i64 p0.Pc, .fsl (encL rI p0.Mem)]) (q1 : σ.objs w1 = some ⟨64, 2, encL rBox_o p1⟩) (q2 : σ.objs w2 = some ⟨t2_, s2_, W2⟩) (g2 : W2[r2_]? = some x2_) (k2 : x2_[i2_]? = some (.osl 3 1 (encL rI p2))) (d0_1 : ¬ w0 = w1) (d0_2 : ¬ w0 = w2) (d1_2 : ¬ w1 = w2) : ACalls Try.prog G 54 [.ptr w0 r0_ 0, .sl w1 0 p1.length, .ptr w2 r2_ i2_] σ (fun v σ' => ∃ M : Nat, σ.next ≤ M ∧ r.2.2.1.length = p1.length ∧ v = .int .i64 r.1 ∧ σ' = hp σ.objs [(w0, some ⟨28, 3, W0.set r0_ [.osl 3 1 (encL rI r.2.1.Regs), .int .i64 r.2.1.Pc, .fsl (encL rI r.2.1.Mem)]⟩), (w1, some ⟨64, 2, encL rBox_o r.2.2.1⟩), (w2, some ⟨t2_, s2_, W2.set r2_ (x2_.set i2_ (.osl 3 1 (encL rI r.2.2.2)))⟩)] M) := by
 refine ACalls_fr (L := [(w0, some ⟨28, 3, W0⟩), (w1, some ⟨64, 2, encL rBox_o p1⟩), (w2, some ⟨t2_, s2_, W2⟩)]) (Q1 := fun v σ' => ∃ M : Nat, σ.next ≤ M ∧ r.2.2.1.length = p1.length ∧ v = .int .i64 r.1 ∧ σ' = hp E0 [(w0, some ⟨28, 3, W0.set r0_ [.osl 3 1 (encL rI r.2.1.Regs), .int .i64 r.2.1.Pc, .fsl (encL rI r.2.1.Mem)]⟩), (w1, some ⟨64, 2, encL rBox_o r.2.2.1⟩), (w2, some ⟨t2_, s2_, W2.set r2_ (x2_.set i2_ (.osl 3 1 (encL rI r.2.2.2)))⟩)] M) (by simp [q0, q1, q2]) (fun hlt => ?_) ?_ ⟨_, Try.func54, rfl, rfl⟩
 rotate_left
 ·
  rintro v σ1 ⟨M, h0, h1, rfl, rfl⟩
  exact ⟨_, M, rfl, by simp, by simp; try omega, M, h0, h1, rfl, rfl⟩
 generalize σ.next = N0 at hlt ⊢
 have lw0 : w0 < N0 := hlt _ (.head _) rfl
 have lw1 : w1 < N0 := hlt _ (.tail _ (.head _)) rfl
 have lw2 : w2 < N0 := hlt _ (.tail _ (.tail _ (.head _))) rfl
 have gs_W0 : ∀ x, (W0.set r0_ x)[r0_]? = some x := gsetW g0
 rw [show W0 = W0.set r0_ [.osl 3 1 (encL rI p0.Regs), .int .i64 p0.Pc, .fsl (encL rI p0.Mem)] from (set_same g0).symm]
 have gs_W2 : ∀ x, (W2.set r2_ x)[r2_]? = some x := gsetW g2
 have gs_x2_ : ∀ x, (x2_.set i2_ x)[i2_]? = some x := gsetC k2
 have ws_x2_ := winS k2
 have wl_x2_ := winL k2
 rw [show W2 = W2.set r2_ (x2_.set i2_ (.osl 3 1 (encL rI p2))) from by rw [set_same k2, set_same g2]]
 refine ACalls_fn tok Try.func54 (by kernel_rfl) rfl Try.ntmps54 Try.results54 rfl ?_
 simp only [argsA, Nat.reduceAdd, hp_next]
 unfold i_Machine_call at H
 refine AWP_sr tok [] [0, 1, 2] (fun a σ => a = [(0, .ptr w0 r0_ 0), (1, .sl w1 0 p1.length), (2, .ptr w2 r2_ i2_)] ∧ σ = hp E0 [(w0, some ⟨28, 3, W0.set r0_ [.osl 3 1 (encL rI p0.Regs), .int .i64 p0.Pc, .fsl (encL rI p0.Mem)]⟩), (w1, some ⟨64, 2, encL rBox_o p1⟩), (w2, some ⟨t2_, s2_, W2.set r2_ (x2_.set i2_ (.osl 3 1 (encL rI p2)))⟩)] (N0 + 1)) (fun K hK => ?_) ?_
 ·
  skip
  have e0 := nq (a := w0) (b := w1) (by omega)
  have e1 := nq (a := w0) (b := w2) (by omega)
  have e2 := nq (a := w1) (b := w2) (by omega)
  simp -dsimp -implicitDefEqProofs (maxDischargeDepth := 6) [e0, e1, e2, gs_W0, List.set_set, gs_W2, gs_x2_, ws_x2_, wl_x2_]
  exact hK _ _ ⟨rfl, rfl⟩
 rintro a σ ⟨rfl, rfl⟩
 refine gUnp AWP_ref (ty := 3) (sz := 1) (es := encL rI p0.Regs) (o := w0) (ob := ⟨28, 3, W0.set r0_ [.osl 3 1 (encL rI p0.Regs), .int .i64 p0.Pc, .fsl (encL rI p0.Mem)]⟩) (row := [.osl 3 1 (encL rI p0.Regs), .int .i64 p0.Pc, .fsl (encL rI p0.Mem)]) (r := r0_) (i := 0) [(w0, some ⟨28, 3, W0.set r0_ [.sl (N0 + 1) 0 p0.Regs.length, .int .i64 p0.Pc, .fsl (encL rI p0.Mem)]⟩), (w1, some ⟨64, 2, encL rBox_o p1⟩), (w2, some ⟨t2_, s2_, W2.set r2_ (x2_.set i2_ (.osl 3 1 (encL rI p2)))⟩), (N0 + 1, some ⟨3, 1, encL rI p0.Regs⟩)] (by simp (disch := omega)) (by simp (disch := omega) [gs_W0]) rfl (by simp (disch := omega) [List.set_set]) ?_
 obtain ⟨v1, hv1, H⟩ := bindE H
 obtain ⟨v2, hv2, H⟩ := bindE H
 refine AWP_sd tok tokM [] [3, 4, 5, 9, 10, 11] [0, 1, 2, 6, 7, 8, 3, 4, 5, 12, 9, 10, 11, 13] [0, 1, 2, 7, 8] (fun a σ => a = [(0, .ptr w0 r0_ 0), (1, .sl w1 0 p1.length), (2, .ptr w2 r2_ i2_), (7, .int .i64 v1), (8, .int .i64 v2)] ∧ σ = hp E0 [(w0, some ⟨28, 3, W0.set r0_ [.sl (N0 + 1) 0 p0.Regs.length, .int .i64 p0.Pc, .fsl (encL rI p0.Mem)]⟩), (w1, some ⟨64, 2, encL rBox_o p1⟩), (w2, some ⟨t2_, s2_, W2.set r2_ (x2_.set i2_ (.osl 3 1 (encL rI p2)))⟩), (N0 + 1, some ⟨3, 1, encL rI p0.Regs⟩)] (N0 + 16)) (by decide) (fun K hK => ?_) ?_
 ·
  simp only [pickL, nthO_succ, nthO_zero]
  have e0 := nq (a := w0) (b := w1) (by omega)
  have e1 := nq (a := w0) (b := w2) (by omega)
  have e2 := nq (a := w0) (b := N0 + 1) (by omega)
  have e3 := nq (a := w1) (b := w2) (by omega)
  have e4 := nq (a := w1) (b := N0 + 1) (by omega)
  have e5 := nq (a := w2) (b := N0 + 1) (by omega)
  simp -dsimp -implicitDefEqProofs (maxDischargeDepth := 6) [e0, e1, e2, e3, e4, e5, gs_W0, List.set_set, gs_W2, gs_x2_, ws_x2_, wl_x2_, ixo22 hv1, (show _[17]? = some v1 from (idx_lt3 hv1).2.2), ixo22 hv2, (show _[11]? = some v2 from (idx_lt3 hv2).2.2)]
  exact hK _ _ ⟨rfl, rfl⟩
 rintro a σ ⟨rfl, rfl⟩
 refine AWP_sq [0, 1, 2, 7, 8] fun K1 hK1 => ?_
 obtain ⟨g6, hg6, H⟩ := bindE H
 refine AWP_sr tok [] [0, 1, 2, 7, 8, 46] (fun a σ => a = [(0, .ptr w0 r0_ 0), (1, .sl w1 0 p1.length), (2, .ptr w2 r2_ i2_), (7, .int .i64 v1), (8, .int .i64 v2), (46, .bool g6)] ∧ σ = hp E0 [(w0, some ⟨28, 3, W0.set r0_ [.sl (N0 + 1) 0 p0.Regs.length, .int .i64 p0.Pc, .fsl (encL rI p0.Mem)]⟩), (w1, some ⟨64, 2, encL rBox_o p1⟩), (w2, some ⟨t2_, s2_, W2.set r2_ (x2_.set i2_ (.osl 3 1 (encL rI p2)))⟩), (N0 + 1, some ⟨3, 1, encL rI p0.Regs⟩)] (N0 + 39)) (fun K hK => ?_) ?_
 ·
  skip
  have e0 := nq (a := w0) (b := w1) (by omega)
  have e1 := nq (a := w0) (b := w2) (by omega)
  have e2 := nq (a := w0) (b := N0 + 1) (by omega)
  have e3 := nq (a := w1) (b := w2) (by omega)
  have e4 := nq (a := w1) (b := N0 + 1) (by omega)
  have e5 := nq (a := w2) (b := N0 + 1) (by omega)
  simp -dsimp -implicitDefEqProofs (maxDischargeDepth := 6) [e0, e1, e2, e3, e4, e5, gs_W0, List.set_set, gs_W2, gs_x2_, ws_x2_, wl_x2_]
  cases hbg6 : ine p0.Pc 0
  ·
   replace hg6 := ifF hbg6 hg6
   obtain ⟨g3, hg3, hg6⟩ := bindE hg6
   obtain ⟨g5, hg5, hg6⟩ := bindE hg6
   replace hg6 := Option.some.inj hg6; subst hg6
   try simp -dsimp -implicitDefEqProofs (maxDischargeDepth := 6) [e0, e1, e2, e3, e4, e5, gs_W0, List.set_set, gs_W2, gs_x2_, ws_x2_, wl_x2_, hbg6]
   cases hbg3 : ieq v1 1
   ·
    replace hg3 := ifF hbg3 hg3
    replace hg3 := Option.some.inj hg3; subst hg3
    try simp -dsimp -implicitDefEqProofs (maxDischargeDepth := 6) [e0, e1, e2, e3, e4, e5, gs_W0, List.set_set, gs_W2, gs_x2_, ws_x2_, wl_x2_, hbg6, hbg3]
    cases hbg5 : (ieq v1 2)
    ·
     replace hg5 := ifF hbg5 hg5
     replace hg5 := Option.some.inj hg5; subst hg5
     try simp -dsimp -implicitDefEqProofs (maxDischargeDepth := 6) [e0, e1, e2, e3, e4, e5, gs_W0, List.set_set, gs_W2, gs_x2_, ws_x2_, wl_x2_, hbg6, hbg3, hbg5]
     exact hK _ _ ⟨rfl, rfl⟩
    ·
     replace hg5 := ifT hbg5 hg5
     obtain ⟨g4, hg4, hg5⟩ := bindE hg5
     replace hg5 := Option.some.inj hg5; subst hg5
     try simp -dsimp -implicitDefEqProofs (maxDischargeDepth := 6) [e0, e1, e2, e3, e4, e5, gs_W0, List.set_set, gs_W2, gs_x2_, ws_x2_, wl_x2_, hbg6, hbg3, hbg5]
     cases hbg4 : ilt v2 0
     ·
      replace hg4 := ifF hbg4 hg4
      replace hg4 := Option.some.inj hg4; subst hg4
      try simp -dsimp -implicitDefEqProofs (maxDischargeDepth := 6) [e0, e1, e2, e3, e4, e5, gs_W0, List.set_set, gs_W2, gs_x2_, ws_x2_, wl_x2_, hbg6, hbg3, hbg5, hbg4]
      exact hK _ _ ⟨rfl, rfl⟩
     ·
      replace hg4 := ifT hbg4 hg4
      replace hg4 := Option.some.inj hg4; subst hg4
      try simp -dsimp -implicitDefEqProofs (maxDischargeDepth := 6) [e0, e1, e2, e3, e4, e5, gs_W0, List.set_set, gs_W2, gs_x2_, ws_x2_, wl_x2_, hbg6, hbg3, hbg5, hbg4]
      exact hK _ _ ⟨rfl, rfl⟩
   ·
    replace hg3 := ifT hbg3 hg3
    replace hg3 := Option.some.inj hg3; subst hg3
    try simp -dsimp -implicitDefEqProofs (maxDischargeDepth := 6) [e0, e1, e2, e3, e4, e5, gs_W0, List.set_set, gs_W2, gs_x2_, ws_x2_, wl_x2_, hbg6, hbg3]
    replace hg5 := ifT rfl hg5
    obtain ⟨g4, hg4, hg5⟩ := bindE hg5
    replace hg5 := Option.some.inj hg5; subst hg5
    try simp -dsimp -implicitDefEqProofs (maxDischargeDepth := 6) [e0, e1, e2, e3, e4, e5, gs_W0, List.set_set, gs_W2, gs_x2_, ws_x2_, wl_x2_, hbg6, hbg3]
    cases hbg4 : ilt v2 0
    ·
     replace hg4 := ifF hbg4 hg4
     replace hg4 := Option.some.inj hg4; subst hg4
     try simp -dsimp -implicitDefEqProofs (maxDischargeDepth := 6) [e0, e1, e2, e3, e4, e5, gs_W0, List.set_set, gs_W2, gs_x2_, ws_x2_, wl_x2_, hbg6, hbg3, hbg4]
     exact hK _ _ ⟨rfl, rfl⟩
    ·
     replace hg4 := ifT hbg4 hg4
     replace hg4 := Option.some.inj hg4; subst hg4
     try simp -dsimp -implicitDefEqProofs (maxDischargeDepth := 6) [e0, e1, e2, e3, e4, e5, gs_W0, List.set_set, gs_W2, gs_x2_, ws_x2_, wl_x2_, hbg6, hbg3, hbg4]
     exact hK _ _ ⟨rfl, rfl⟩
  ·
   replace hg6 := ifT hbg6 hg6
   replace hg6 := Option.some.inj hg6; subst hg6
   try simp -dsimp -implicitDefEqProofs (maxDischargeDepth := 6) [e0, e1, e2, e3, e4, e5, gs_W0, List.set_set, gs_W2, gs_x2_, ws_x2_, wl_x2_, hbg6]
   exact hK _ _ ⟨rfl, rfl⟩
 rintro a σ ⟨rfl, rfl⟩
 refine AWP_cond g6 rfl (fun C1 => ?_) (fun C1 => ?_)
 ·
  replace H := ifT C1 H
  refine AWP_sr tok [] [6] (fun a σ => a = [(6, .int .i64 0)] ∧ σ = hp E0 [(w0, some ⟨28, 3, W0.set r0_ [.sl (N0 + 1) 0 p0.Regs.length, .int .i64 p0.Pc, .fsl (encL rI p0.Mem)]⟩), (w1, some ⟨64, 2, encL rBox_o p1⟩), (w2, some ⟨t2_, s2_, W2.set r2_ (x2_.set i2_ (.osl 3 1 (encL rI p2)))⟩), (N0 + 1, some ⟨3, 1, encL rI p0.Regs⟩)] (N0 + 40)) (fun K hK => ?_) ?_
  ·
   skip
   have e0 := nq (a := w0) (b := w1) (by omega)
   have e1 := nq (a := w0) (b := w2) (by omega)
   have e2 := nq (a := w0) (b := N0 + 1) (by omega)
   have e3 := nq (a := w1) (b := w2) (by omega)
   have e4 := nq (a := w1) (b := N0 + 1) (by omega)
   have e5 := nq (a := w2) (b := N0 + 1) (by omega)
   simp -dsimp -implicitDefEqProofs (maxDischargeDepth := 6) [e0, e1, e2, e3, e4, e5, gs_W0, List.set_set, gs_W2, gs_x2_, ws_x2_, wl_x2_]
   exact hK _ _ ⟨rfl, rfl⟩
  rintro a σ ⟨rfl, rfl⟩
  replace H := Option.some.inj H; subst H
  refine AWP_kp [6] [(6, .int .i64 0)] rfl ?_
  refine gPk AWP_ref (k := p0.Regs.length) (o := w0) (ob := ⟨28, 3, W0.set r0_ [.sl (N0 + 1) 0 p0.Regs.length, .int .i64 p0.Pc, .fsl (encL rI p0.Mem)]⟩) (row := [.sl (N0 + 1) 0 p0.Regs.length, .int .i64 p0.Pc, .fsl (encL rI p0.Mem)]) (d := (N0 + 1)) (obd := ⟨3, 1, encL rI p0.Regs⟩) (r := r0_) (i := 0) [(w0, some ⟨28, 3, W0.set r0_ [.osl 3 1 (encL rI p0.Regs), .int .i64 p0.Pc, .fsl (encL rI p0.Mem)]⟩), (w1, some ⟨64, 2, encL rBox_o p1⟩), (w2, some ⟨t2_, s2_, W2.set r2_ (x2_.set i2_ (.osl 3 1 (encL rI p2)))⟩)] (by simp (disch := omega)) (by simp (disch := omega) [gs_W0]) rfl (by simp (disch := omega)) (by simp (disch := omega)) (by first | omega | simp) (by simp (disch := omega) [List.set_set, app_set] <;> omega) (by simp (disch := omega) [List.set_set, app_set]) ?_
  have z0 := nq (a := w0) (b := w1) (by omega)
  have z1 := nq (a := w0) (b := w2) (by omega)
  have z2 := nq (a := w1) (b := w2) (by omega)
  refine AWP_ret ?_
  refine ⟨[.int .i64 0], by simp [z0, z1, z2, gs_W0, gs_W2, gs_x2_, ws_x2_, wl_x2_], N0 + 40, by omega, by first | rfl | exact rfl | omega, ?_, ?_⟩
  ·
   simp [encL_nil]
  ·
   first | rfl | simp [List.set_set]
 ·
  replace H := ifF C1 H
  refine AWP_skip ?_
  show K1 _ _
  refine keepE (l := [0, 1, 2, 7, 8]) (x := [(0, .ptr w0 r0_ 0), (1, .sl w1 0 p1.length), (2, .ptr w2 r2_ i2_), (7, .int .i64 v1), (8, .int .i64 v2)]) rfl fun a' ha => ?_
  refine hK1 _ _ ?_; rw [ha]
  refine Rc.mk ?_
  refine AWP_sr tok [] [0, 1, 2, 7, 8, 9] (fun a σ => a = [(0, .ptr w0 r0_ 0), (1, .sl w1 0 p1.length), (2, .ptr w2 r2_ i2_), (7, .int .i64 v1), (8, .int .i64 v2), (9, .int .i64 1)] ∧ σ = hp E0 [(w0, some ⟨28, 3, W0.set r0_ [.sl (N0 + 1) 0 p0.Regs.length, .int .i64 p0.Pc, .fsl (encL rI p0.Mem)]⟩), (w1, some ⟨64, 2, encL rBox_o p1⟩), (w2, some ⟨t2_, s2_, W2.set r2_ (x2_.set i2_ (.osl 3 1 (encL rI p2)))⟩), (N0 + 1, some ⟨3, 1, encL rI p0.Regs⟩)] (N0 + 40)) (fun K hK => ?_) ?_
  ·
   skip
   have e0 := nq (a := w0) (b := w1) (by omega)
   have e1 := nq (a := w0) (b := w2) (by omega)
   have e2 := nq (a := w0) (b := N0 + 1) (by omega)
   have e3 := nq (a := w1) (b := w2) (by omega)
   have e4 := nq (a := w1) (b := N0 + 1) (by omega)
   have e5 := nq (a := w2) (b := N0 + 1) (by omega)
   simp -dsimp -implicitDefEqProofs (maxDischargeDepth := 6) [e0, e1, e2, e3, e4, e5, gs_W0, List.set_set, gs_W2, gs_x2_, ws_x2_, wl_x2_]
   exact hK _ _ ⟨rfl, rfl⟩
  rintro a σ ⟨rfl, rfl⟩
  obtain ⟨flj1, hflj1, H⟩ := bindE H
  refine AWP_seq (AWP_named fun K2 hK2 => ?_)
  have hJ1 : ∀ (j1 : Int × gMachine × (List gBox) × (List Int)) a σ, flj1 = .next j1 → Rc G 107 N0 (fun a σ => ∃ M1 : Nat, N0 ≤ M1 ∧ j1.2.2.1.length = p1.length ∧ a = [(0, .ptr w0 r0_ 0), (9, .int .i64 j1.1)] ∧ σ = hp E0 [(w0, some ⟨28, 3, W0.set r0_ [.osl 3 1 (encL rI j1.2.1.Regs), .int .i64 j1.2.1.Pc, .fsl (encL rI j1.2.1.Mem)]⟩), (w1, some ⟨64, 2, encL rBox_o j1.2.2.1⟩), (w2, some ⟨t2_, s2_, W2.set r2_ (x2_.set i2_ (.osl 3 1 (encL rI j1.2.2.2)))⟩)] M1) (AAct.keep a [0, 9]) σ → K2 a σ := by
   rintro j1 a σ hfl ⟨b, τ, hr, M1, fM1_0, fM1_1, rfl, rfl⟩
   subst hfl; dsimp only at H
   refine hK2 _ _ (AWP_keep [0, 9] (AWP_ref hr ?_))
   refine gUnp AWP_ref (ty := 3) (sz := 1) (es := encL rI j1.2.1.Regs) (o := w0) (ob := ⟨28, 3, W0.set r0_ [.osl 3 1 (encL rI j1.2.1.Regs), .int .i64 j1.2.1.Pc, .fsl (encL rI j1.2.1.Mem)]⟩) (row := [.osl 3 1 (encL rI j1.2.1.Regs), .int .i64 j1.2.1.Pc, .fsl (encL rI j1.2.1.Mem)]) (r := r0_) (i := 0) [(w0, some ⟨28, 3, W0.set r0_ [.sl M1 0 j1.2.1.Regs.length, .int .i64 j1.2.1.Pc, .fsl (encL rI j1.2.1.Mem)]⟩), (w1, some ⟨64, 2, encL rBox_o j1.2.2.1⟩), (w2, some ⟨t2_, s2_, W2.set r2_ (x2_.set i2_ (.osl 3 1 (encL rI j1.2.2.2)))⟩), (M1, some ⟨3, 1, encL rI j1.2.1.Regs⟩)] (by simp (disch := omega)) (by simp (disch := omega) [gs_W0]) rfl (by simp (disch := omega) [List.set_set]) ?_
   obtain ⟨v11, hv11, H⟩ := bindE H
   refine AWP_sr tok [] [9] (fun a σ => a = [(9, .int .i64 j1.1)] ∧ σ = hp E0 [(w0, some ⟨28, 3, W0.set r0_ [.sl M1 0 j1.2.1.Regs.length, .int .i64 v11, .fsl (encL rI j1.2.1.Mem)]⟩), (w1, some ⟨64, 2, encL rBox_o j1.2.2.1⟩), (w2, some ⟨t2_, s2_, W2.set r2_ (x2_.set i2_ (.osl 3 1 (encL rI j1.2.2.2)))⟩), (M1, some ⟨3, 1, encL rI j1.2.1.Regs⟩)] (M1 + 11)) (fun K hK => ?_) ?_
   ·
    skip
    have e0 := nq (a := w0) (b := w1) (by omega)
    have e1 := nq (a := w0) (b := w2) (by omega)
    have e2 := nq (a := w0) (b := M1) (by omega)
    have e3 := nq (a := w1) (b := w2) (by omega)
    have e4 := nq (a := w1) (b := M1) (by omega)
    have e5 := nq (a := w2) (b := M1) (by omega)
    simp -dsimp -implicitDefEqProofs (maxDischargeDepth := 6) [e0, e1, e2, e3, e4, e5, gs_W0, List.set_set, gs_W2, gs_x2_, ws_x2_, wl_x2_, ixo22 hv11, (show _[1]? = some v11 from (idx_lt3 hv11).2.2)]
    exact hK _ _ ⟨rfl, rfl⟩
   rintro a σ ⟨rfl, rfl⟩
   refine AWP_sr tok [] [6] (fun a σ => a = [(6, .int .i64 j1.1)] ∧ σ = hp E0 [(w0, some ⟨28, 3, W0.set r0_ [.sl M1 0 j1.2.1.Regs.length, .int .i64 v11, .fsl (encL rI j1.2.1.Mem)]⟩), (w1, some ⟨64, 2, encL rBox_o j1.2.2.1⟩), (w2, some ⟨t2_, s2_, W2.set r2_ (x2_.set i2_ (.osl 3 1 (encL rI j1.2.2.2)))⟩), (M1, some ⟨3, 1, encL rI j1.2.1.Regs⟩)] (M1 + 13)) (fun K hK => ?_) ?_
   ·
    skip
    have e0 := nq (a := w0) (b := w1) (by omega)
    have e1 := nq (a := w0) (b := w2) (by omega)
    have e2 := nq (a := w0) (b := M1) (by omega)
    have e3 := nq (a := w1) (b := w2) (by omega)
    have e4 := nq (a := w1) (b := M1) (by omega)
    have e5 := nq (a := w2) (b := M1) (by omega)
    simp -dsimp -implicitDefEqProofs (maxDischargeDepth := 6) [e0, e1, e2, e3, e4, e5, gs_W0, List.set_set, gs_W2, gs_x2_, ws_x2_, wl_x2_]
    exact hK _ _ ⟨rfl, rfl⟩
   rintro a σ ⟨rfl, rfl⟩
   replace H := Option.some.inj H; subst H
   refine AWP_kp [6] [(6, .int .i64 j1.1)] rfl ?_
   refine gPk AWP_ref (k := j1.2.1.Regs.length) (o := w0) (ob := ⟨28, 3, W0.set r0_ [.sl M1 0 j1.2.1.Regs.length, .int .i64 v11, .fsl (encL rI j1.2.1.Mem)]⟩) (row := [.sl M1 0 j1.2.1.Regs.length, .int .i64 v11, .fsl (encL rI j1.2.1.Mem)]) (d := M1) (obd := ⟨3, 1, encL rI j1.2.1.Regs⟩) (r := r0_) (i := 0) [(w0, some ⟨28, 3, W0.set r0_ [.osl 3 1 (encL rI j1.2.1.Regs), .int .i64 v11, .fsl (encL rI j1.2.1.Mem)]⟩), (w1, some ⟨64, 2, encL rBox_o j1.2.2.1⟩), (w2, some ⟨t2_, s2_, W2.set r2_ (x2_.set i2_ (.osl 3 1 (encL rI j1.2.2.2)))⟩)] (by simp (disch := omega)) (by simp (disch := omega) [gs_W0]) rfl (by simp (disch := omega)) (by simp (disch := omega)) (by first | omega | simp) (by simp (disch := omega) [List.set_set, app_set] <;> omega) (by simp (disch := omega) [List.set_set, app_set]) ?_
   have z3 := nq (a := w0) (b := w1) (by omega)
   have z4 := nq (a := w0) (b := w2) (by omega)
   have z5 := nq (a := w1) (b := w2) (by omega)
   refine AWP_ret ?_
   refine ⟨[.int .i64 j1.1], by simp [z3, z4, z5, gs_W0, gs_W2, gs_x2_, ws_x2_, wl_x2_], M1 + 13, by omega, by first | rfl | exact fM1_1 | omega, ?_, ?_⟩
   ·
    simp [encL_nil]
   ·
    first | rfl | simp [List.set_set]
  have Gj1 := H; replace H := hflj1
  refine AWP_sr tok [] [0, 1, 2, 8, 9, 47] (fun a σ => a = [(0, .ptr w0 r0_ 0), (1, .sl w1 0 p1.length), (2, .ptr w2 r2_ i2_), (8, .int .i64 v2), (9, .int .i64 1), (47, .int .i64 v1)] ∧ σ = hp E0 [(w0, some ⟨28, 3, W0.set r0_ [.sl (N0 + 1) 0 p0.Regs.length, .int .i64 p0.Pc, .fsl (encL rI p0.Mem)]⟩), (w1, some ⟨64, 2, encL rBox_o p1⟩), (w2, some ⟨t2_, s2_, W2.set r2_ (x2_.set i2_ (.osl 3 1 (encL rI p2)))⟩), (N0 + 1, some ⟨3, 1, encL rI p0.Regs⟩)] (N0 + 41)) (fun K hK => ?_) ?_
  ·
   skip
   have e0 := nq (a := w0) (b := w1) (by omega)
   have e1 := nq (a := w0) (b := w2) (by omega)
   have e2 := nq (a := w0) (b := N0 + 1) (by omega)
   have e3 := nq (a := w1) (b := w2) (by omega)
   have e4 := nq (a := w1) (b := N0 + 1) (by omega)
   have e5 := nq (a := w2) (b := N0 + 1) (by omega)
   simp -dsimp -implicitDefEqProofs (maxDischargeDepth := 6) [e0, e1, e2, e3, e4, e5, gs_W0, List.set_set, gs_W2, gs_x2_, ws_x2_, wl_x2_]
   exact hK _ _ ⟨rfl, rfl⟩
  rintro a σ ⟨rfl, rfl⟩
  refine AWP_block (AWP_thenB ?_)
  refine AWP_sr tok [] [0, 1, 2, 8, 9, 47, 48] (fun a σ => a = [(0, .ptr w0 r0_ 0), (1, .sl w1 0 p1.length), (2, .ptr w2 r2_ i2_), (8, .int .i64 v2), (9, .int .i64 1), (47, .int .i64 v1), (48, .bool (ieq v1 1))] ∧ σ = hp E0 [(w0, some ⟨28, 3, W0.set r0_ [.sl (N0 + 1) 0 p0.Regs.length, .int .i64 p0.Pc, .fsl (encL rI p0.Mem)]⟩), (w1, some ⟨64, 2, encL rBox_o p1⟩), (w2, some ⟨t2_, s2_, W2.set r2_ (x2_.set i2_ (.osl 3 1 (encL rI p2)))⟩), (N0 + 1, some ⟨3, 1, encL rI p0.Regs⟩)] (N0 + 43)) (fun K hK => ?_) ?_
  ·
   skip
   have e0 := nq (a := w0) (b := w1) (by omega)
   have e1 := nq (a := w0) (b := w2) (by omega)
   have e2 := nq (a := w0) (b := N0 + 1) (by omega)
   have e3 := nq (a := w1) (b := w2) (by omega)
   have e4 := nq (a := w1) (b := N0 + 1) (by omega)
   have e5 := nq (a := w2) (b := N0 + 1) (by omega)
   simp -dsimp -implicitDefEqProofs (maxDischargeDepth := 6) [e0, e1, e2, e3, e4, e5, gs_W0, List.set_set, gs_W2, gs_x2_, ws_x2_, wl_x2_]
   exact hK _ _ ⟨rfl, rfl⟩
  rintro a σ ⟨rfl, rfl⟩
  refine AWP_cond (ieq v1 1) rfl (fun C2 => ?_) (fun C2 => ?_)
  ·
   replace H := ifT C2 H
   refine gPk AWP_ref (k := p0.Regs.length) (o := w0) (ob := ⟨28, 3, W0.set r0_ [.sl (N0 + 1) 0 p0.Regs.length, .int .i64 p0.Pc, .fsl (encL rI p0.Mem)]⟩) (row := [.sl (N0 + 1) 0 p0.Regs.length, .int .i64 p0.Pc, .fsl (encL rI p0.Mem)]) (d := (N0 + 1)) (obd := ⟨3, 1, encL rI p0.Regs⟩) (r := r0_) (i := 0) [(w0, some ⟨28, 3, W0.set r0_ [.osl 3 1 (encL rI p0.Regs), .int .i64 p0.Pc, .fsl (encL rI p0.Mem)]⟩), (w1, some ⟨64, 2, encL rBox_o p1⟩), (w2, some ⟨t2_, s2_, W2.set r2_ (x2_.set i2_ (.osl 3 1 (encL rI p2)))⟩)] (by simp (disch := omega)) (by simp (disch := omega) [gs_W0]) rfl (by simp (disch := omega)) (by simp (disch := omega)) (by first | omega | simp) (by simp (disch := omega) [List.set_set, app_set] <;> omega) (by simp (disch := omega) [List.set_set, app_set]) ?_
   refine gUnp AWP_ref (ty := 3) (sz := 1) (es := encL rI p0.Regs) (o := w0) (ob := ⟨28, 3, W0.set r0_ [.osl 3 1 (encL rI p0.Regs), .int .i64 p0.Pc, .fsl (encL rI p0.Mem)]⟩) (row := [.osl 3 1 (encL rI p0.Regs), .int .i64 p0.Pc, .fsl (encL rI p0.Mem)]) (r := r0_) (i := 0) [(w0, some ⟨28, 3, W0.set r0_ [.sl (N0 + 43) 0 p0.Regs.length, .int .i64 p0.Pc, .fsl (encL rI p0.Mem)]⟩), (w1, some ⟨64, 2, encL rBox_o p1⟩), (w2, some ⟨t2_, s2_, W2.set r2_ (x2_.set i2_ (.osl 3 1 (encL rI p2)))⟩), (N0 + 43, some ⟨3, 1, encL rI p0.Regs⟩)] (by simp (disch := omega)) (by simp (disch := omega) [gs_W0]) rfl (by simp (disch := omega) [List.set_set]) ?_
   obtain ⟨v13, hv13, H⟩ := bindE H
   obtain ⟨v14, hv14, H⟩ := bindE H
   obtain ⟨r15, hr15, H⟩ := bindE H
   obtain ⟨l16, hl16, H⟩ := bindE H
   refine AWP_sd tok tokM [] [2, 6, 7, 8, 9] [0, 1, 3, 4, 5, 2, 6, 7, 8, 9, 10] [0, 9, 60] (fun a σ => ∃ M2 : Nat, N0 + 55 ≤ M2 ∧ a = [(0, .ptr w0 r0_ 0), (9, .int .i64 1), (60, .bool (bnot r15.1))] ∧ σ = hp E0 [(w0, some ⟨28, 3, W0.set r0_ [.sl (N0 + 43) 0 p0.Regs.length, .int .i64 p0.Pc, .fsl (encL rI p0.Mem)]⟩), (w1, some ⟨64, 2, encL rBox_o l16⟩), (w2, some ⟨t2_, s2_, W2.set r2_ (x2_.set i2_ (.osl 3 1 (encL rI p2)))⟩), (N0 + 43, some ⟨3, 1, encL rI p0.Regs⟩)] M2) (by decide) (fun K hK => ?_) ?_
   ·
    simp only [pickL, nthO_succ, nthO_zero]
    have e0 := nq (a := w0) (b := w1) (by omega)
    have e1 := nq (a := w0) (b := w2) (by omega)
    have e2 := nq (a := w0) (b := N0 + 43) (by omega)
    have e3 := nq (a := w1) (b := w2) (by omega)
    have e4 := nq (a := w1) (b := N0 + 43) (by omega)
    have e5 := nq (a := w2) (b := N0 + 43) (by omega)
    simp -dsimp -implicitDefEqProofs (maxDischargeDepth := 6) [e0, e1, e2, e3, e4, e5, gs_W0, List.set_set, gs_W2, gs_x2_, ws_x2_, wl_x2_, ixo29 hv13, (idx_lt3 hv13).2.2, ixo22 hv14, (show _[10]? = some v14 from (idx_lt3 hv14).2.2), (setx_iff.1 hl16).2.symm, set_rBox_o]
    refine (c86 (W0 := encL rBox_o p1) (r0_ := v2.toNat) (H := hr15) (by simp [e0, e1, e2, e3, e4, e5, gs_W0, List.set_set, gs_W2, gs_x2_, ws_x2_, wl_x2_, ixo29 hv13, (idx_lt3 hv13).2.2, ixo22 hv14, (show _[10]? = some v14 from (idx_lt3 hv14).2.2), (setx_iff.1 hl16).2.symm, set_rBox_o]) (by simp [e0, e1, e2, e3, e4, e5, gs_W0, List.set_set, gs_W2, gs_x2_, ws_x2_, wl_x2_, ixo29 hv13, (idx_lt3 hv13).2.2, ixo22 hv14, (show _[10]? = some v14 from (idx_lt3 hv14).2.2), (setx_iff.1 hl16).2.symm, set_rBox_o])).mono ?_; rintro _ _ ⟨M2, fM2_0, rfl, rfl⟩; simp only [hp_next] at fM2_0
    try simp -dsimp -implicitDefEqProofs (maxDischargeDepth := 6) [e0, e1, e2, e3, e4, e5, gs_W0, List.set_set, gs_W2, gs_x2_, ws_x2_, wl_x2_, ixo29 hv13, (idx_lt3 hv13).2.2, ixo22 hv14, (show _[10]? = some v14 from (idx_lt3 hv14).2.2), (setx_iff.1 hl16).2.symm, set_rBox_o, hp_over_some, hp_over_none]
    exact hK _ _ ⟨M2, (by omega), rfl, rfl⟩
   rintro a σ ⟨M2, fM2_0, rfl, rfl⟩
   try rw [← setx_len hl16]
   refine AWP_cond (bnot r15.1) rfl (fun C3 => ?_) (fun C3 => ?_)
   ·
    replace H := ifT C3 H
    refine AWP_sr tok [] [6] (fun a σ => a = [(6, .int .i64 3)] ∧ σ = hp E0 [(w0, some ⟨28, 3, W0.set r0_ [.sl (N0 + 43) 0 p0.Regs.length, .int .i64 p0.Pc, .fsl (encL rI p0.Mem)]⟩), (w1, some ⟨64, 2, encL rBox_o l16⟩), (w2, some ⟨t2_, s2_, W2.set r2_ (x2_.set i2_ (.osl 3 1 (encL rI p2)))⟩), (N0 + 43, some ⟨3, 1, encL rI p0.Regs⟩)] (M2 + 1)) (fun K hK => ?_) ?_
    ·
     skip
     have e0 := nq (a := w0) (b := w1) (by omega)
     have e1 := nq (a := w0) (b := w2) (by omega)
     have e2 := nq (a := w0) (b := N0 + 43) (by omega)
     have e3 := nq (a := w1) (b := w2) (by omega)
     have e4 := nq (a := w1) (b := N0 + 43) (by omega)
     have e5 := nq (a := w2) (b := N0 + 43) (by omega)
     simp -dsimp -implicitDefEqProofs (maxDischargeDepth := 6) [e0, e1, e2, e3, e4, e5, gs_W0, List.set_set, gs_W2, gs_x2_, ws_x2_, wl_x2_]
     exact hK _ _ ⟨rfl, rfl⟩
    rintro a σ ⟨rfl, rfl⟩
    obtain ⟨z, hz, H⟩ := bindE H
    replace H := Option.some.inj H; subst H; dsimp only at Gj1; replace Gj1 := Option.some.inj Gj1; subst Gj1; have H := hz
    replace H := Option.some.inj H; subst H
    refine AWP_kp [6] [(6, .int .i64 3)] rfl ?_
    refine gPk AWP_ref (k := p0.Regs.length) (o := w0) (ob := ⟨28, 3, W0.set r0_ [.sl (N0 + 43) 0 p0.Regs.length, .int .i64 p0.Pc, .fsl (encL rI p0.Mem)]⟩) (row := [.sl (N0 + 43) 0 p0.Regs.length, .int .i64 p0.Pc, .fsl (encL rI p0.Mem)]) (d := (N0 + 43)) (obd := ⟨3, 1, encL rI p0.Regs⟩) (r := r0_) (i := 0) [(w0, some ⟨28, 3, W0.set r0_ [.osl 3 1 (encL rI p0.Regs), .int .i64 p0.Pc, .fsl (encL rI p0.Mem)]⟩), (w1, some ⟨64, 2, encL rBox_o l16⟩), (w2, some ⟨t2_, s2_, W2.set r2_ (x2_.set i2_ (.osl 3 1 (encL rI p2)))⟩)] (by simp (disch := omega)) (by simp (disch := omega) [gs_W0]) rfl (by simp (disch := omega)) (by simp (disch := omega)) (by first | omega | simp) (by simp (disch := omega) [List.set_set, app_set] <;> omega) (by simp (disch := omega) [List.set_set, app_set]) ?_
    have z6 := nq (a := w0) (b := w1) (by omega)
    have z7 := nq (a := w0) (b := w2) (by omega)
    have z8 := nq (a := w1) (b := w2) (by omega)
    refine AWP_ret ?_
    refine ⟨[.int .i64 3], by simp [z6, z7, z8, gs_W0, gs_W2, gs_x2_, ws_x2_, wl_x2_], M2 + 1, by omega, by first | rfl | exact (setx_len hl16) | omega, ?_, ?_⟩
    ·
     simp [encL_nil]
    ·
     first | rfl | simp [List.set_set]
   ·
    replace H := ifF C3 H
    refine AWP_skip ?_
    show K2 _ _
    refine keepE (l := [0, 9]) (x := [(0, .ptr w0 r0_ 0), (9, .int .i64 1)]) rfl fun a' ha => ?_
    replace H := Option.some.inj H
    refine hJ1 _ _ _ H.symm ?_; rw [ha]
    refine gPk Rc_ref (k := p0.Regs.length) (o := w0) (ob := ⟨28, 3, W0.set r0_ [.sl (N0 + 43) 0 p0.Regs.length, .int .i64 p0.Pc, .fsl (encL rI p0.Mem)]⟩) (row := [.sl (N0 + 43) 0 p0.Regs.length, .int .i64 p0.Pc, .fsl (encL rI p0.Mem)]) (d := (N0 + 43)) (obd := ⟨3, 1, encL rI p0.Regs⟩) (r := r0_) (i := 0) [(w0, some ⟨28, 3, W0.set r0_ [.osl 3 1 (encL rI p0.Regs), .int .i64 p0.Pc, .fsl (encL rI p0.Mem)]⟩), (w1, some ⟨64, 2, encL rBox_o l16⟩), (w2, some ⟨t2_, s2_, W2.set r2_ (x2_.set i2_ (.osl 3 1 (encL rI p2)))⟩)] (by simp (disch := omega)) (by simp (disch := omega) [gs_W0]) rfl (by simp (disch := omega)) (by simp (disch := omega)) (by first | omega | simp) (by simp (disch := omega) [List.set_set, app_set] <;> omega) (by simp (disch := omega) [List.set_set, app_set]) ?_
    exact Rc.fin (AHeap.Sub.refl _) ⟨M2, (by omega), (by first | rfl | exact (setx_len hl16) | omega), rfl, rfl⟩
  ·
   replace H := ifF C2 H
   refine AWP_sr tok [] [0, 1, 2, 8, 9, 47, 61] (fun a σ => a = [(0, .ptr w0 r0_ 0), (1, .sl w1 0 p1.length), (2, .ptr w2 r2_ i2_), (8, .int .i64 v2), (9, .int .i64 1), (47, .int .i64 v1), (61, .bool (ieq v1 2))] ∧ σ = hp E0 [(w0, some ⟨28, 3, W0.set r0_ [.sl (N0 + 1) 0 p0.Regs.length, .int .i64 p0.Pc, .fsl (encL rI p0.Mem)]⟩), (w1, some ⟨64, 2, encL rBox_o p1⟩), (w2, some ⟨t2_, s2_, W2.set r2_ (x2_.set i2_ (.osl 3 1 (encL rI p2)))⟩), (N0 + 1, some ⟨3, 1, encL rI p0.Regs⟩)] (N0 + 45)) (fun K hK => ?_) ?_
   ·
    skip
    have e0 := nq (a := w0) (b := w1) (by omega)
    have e1 := nq (a := w0) (b := w2) (by omega)
    have e2 := nq (a := w0) (b := N0 + 1) (by omega)
    have e3 := nq (a := w1) (b := w2) (by omega)
    have e4 := nq (a := w1) (b := N0 + 1) (by omega)
    have e5 := nq (a := w2) (b := N0 + 1) (by omega)
    simp -dsimp -implicitDefEqProofs (maxDischargeDepth := 6) [e0, e1, e2, e3, e4, e5, gs_W0, List.set_set, gs_W2, gs_x2_, ws_x2_, wl_x2_]
    exact hK _ _ ⟨rfl, rfl⟩
   rintro a σ ⟨rfl, rfl⟩
   refine AWP_cond (ieq v1 2) rfl (fun C4 => ?_) (fun C4 => ?_)
   ·
    replace H := ifT C4 H
    refine gPk AWP_ref (k := p0.Regs.length) (o := w0) (ob := ⟨28, 3, W0.set r0_ [.sl (N0 + 1) 0 p0.Regs.length, .int .i64 p0.Pc, .fsl (encL rI p0.Mem)]⟩) (row := [.sl (N0 + 1) 0 p0.Regs.length, .int .i64 p0.Pc, .fsl (encL rI p0.Mem)]) (d := (N0 + 1)) (obd := ⟨3, 1, encL rI p0.Regs⟩) (r := r0_) (i := 0) [(w0, some ⟨28, 3, W0.set r0_ [.osl 3 1 (encL rI p0.Regs), .int .i64 p0.Pc, .fsl (encL rI p0.Mem)]⟩), (w1, some ⟨64, 2, encL rBox_o p1⟩), (w2, some ⟨t2_, s2_, W2.set r2_ (x2_.set i2_ (.osl 3 1 (encL rI p2)))⟩)] (by simp (disch := omega)) (by simp (disch := omega) [gs_W0]) rfl (by simp (disch := omega)) (by simp (disch := omega)) (by first | omega | simp) (by simp (disch := omega) [List.set_set, app_set] <;> omega) (by simp (disch := omega) [List.set_set, app_set]) ?_
    obtain ⟨v17, hv17, H⟩ := bindE H
    obtain ⟨r18, hr18, H⟩ := bindE H
    obtain ⟨l19, hl19, H⟩ := bindE H
    refine AWP_sr tok [] [0, 9, 10, 11] (fun a σ => ∃ M3 : Nat, N0 + 54 ≤ M3 ∧ a = [(0, .ptr w0 r0_ 0), (9, .int .i64 1), (10, .int .i64 r18.1), (11, .bool r18.2.1)] ∧ σ = hp E0 [(w0, some ⟨28, 3, W0.set r0_ [.osl 3 1 (encL rI p0.Regs), .int .i64 p0.Pc, .fsl (encL rI p0.Mem)]⟩), (w1, some ⟨64, 2, encL rBox_o l19⟩), (w2, some ⟨t2_, s2_, W2.set r2_ (x2_.set i2_ (.osl 3 1 (encL rI p2)))⟩)] M3) (fun K hK => ?_) ?_
    ·
     skip
     have e0 := nq (a := w0) (b := w1) (by omega)
     have e1 := nq (a := w0) (b := w2) (by omega)
     have e2 := nq (a := w1) (b := w2) (by omega)
     simp -dsimp -implicitDefEqProofs (maxDischargeDepth := 6) [e0, e1, e2, gs_W0, List.set_set, gs_W2, gs_x2_, ws_x2_, wl_x2_, ixo29 hv17, (idx_lt3 hv17).2.2, (setx_iff.1 hl19).2.symm, set_rBox_o]
     refine (c87 (W0 := encL rBox_o p1) (r0_ := v2.toNat) (H := hr18) (by simp [e0, e1, e2, gs_W0, List.set_set, gs_W2, gs_x2_, ws_x2_, wl_x2_, ixo29 hv17, (idx_lt3 hv17).2.2, (setx_iff.1 hl19).2.symm, set_rBox_o]) (by simp [e0, e1, e2, gs_W0, List.set_set, gs_W2, gs_x2_, ws_x2_, wl_x2_, ixo29 hv17, (idx_lt3 hv17).2.2, (setx_iff.1 hl19).2.symm, set_rBox_o])).mono ?_; rintro _ _ ⟨M3, fM3_0, rfl, rfl⟩; simp only [hp_next] at fM3_0
     try simp -dsimp -implicitDefEqProofs (maxDischargeDepth := 6) [e0, e1, e2, gs_W0, List.set_set, gs_W2, gs_x2_, ws_x2_, wl_x2_, ixo29 hv17, (idx_lt3 hv17).2.2, (setx_iff.1 hl19).2.symm, set_rBox_o, hp_over_some, hp_over_none]
     exact hK _ _ ⟨M3, (by omega), rfl, rfl⟩
    rintro a σ ⟨M3, fM3_0, rfl, rfl⟩
    try rw [← setx_len hl19]
    refine AWP_sq [0, 9, 10] fun K3 hK3 => ?_
    refine AWP_sr tok [] [0, 9, 10, 71] (fun a σ => a = [(0, .ptr w0 r0_ 0), (9, .int .i64 1), (10, .int .i64 r18.1), (71, .bool (bnot r18.2.1))] ∧ σ = hp E0 [(w0, some ⟨28, 3, W0.set r0_ [.osl 3 1 (encL rI p0.Regs), .int .i64 p0.Pc, .fsl (encL rI p0.Mem)]⟩), (w1, some ⟨64, 2, encL rBox_o l19⟩), (w2, some ⟨t2_, s2_, W2.set r2_ (x2_.set i2_ (.osl 3 1 (encL rI p2)))⟩)] (M3 + 2)) (fun K hK => ?_) ?_
    ·
     skip
     have e0 := nq (a := w0) (b := w1) (by omega)
     have e1 := nq (a := w0) (b := w2) (by omega)
     have e2 := nq (a := w1) (b := w2) (by omega)
     simp -dsimp -implicitDefEqProofs (maxDischargeDepth := 6) [e0, e1, e2, gs_W0, List.set_set, gs_W2, gs_x2_, ws_x2_, wl_x2_]
     exact hK _ _ ⟨rfl, rfl⟩
    rintro a σ ⟨rfl, rfl⟩
    refine AWP_cond (bnot r18.2.1) rfl (fun C5 => ?_) (fun C5 => ?_)
    ·
     replace H := ifT C5 H
     refine AWP_sr tok [] [6] (fun a σ => a = [(6, .int .i64 3)] ∧ σ = hp E0 [(w0, some ⟨28, 3, W0.set r0_ [.osl 3 1 (encL rI p0.Regs), .int .i64 p0.Pc, .fsl (encL rI p0.Mem)]⟩), (w1, some ⟨64, 2, encL rBox_o l19⟩), (w2, some ⟨t2_, s2_, W2.set r2_ (x2_.set i2_ (.osl 3 1 (encL rI p2)))⟩)] (M3 + 3)) (fun K hK => ?_) ?_
     ·
      skip
      have e0 := nq (a := w0) (b := w1) (by omega)
      have e1 := nq (a := w0) (b := w2) (by omega)
      have e2 := nq (a := w1) (b := w2) (by omega)
      simp -dsimp -implicitDefEqProofs (maxDischargeDepth := 6) [e0, e1, e2, gs_W0, List.set_set, gs_W2, gs_x2_, ws_x2_, wl_x2_]
      exact hK _ _ ⟨rfl, rfl⟩
     rintro a σ ⟨rfl, rfl⟩
     obtain ⟨z, hz, H⟩ := bindE H
     replace H := Option.some.inj H; subst H; dsimp only at Gj1; replace Gj1 := Option.some.inj Gj1; subst Gj1; have H := hz
     replace H := Option.some.inj H; subst H
     refine AWP_kp [6] [(6, .int .i64 3)] rfl ?_
     have z9 := nq (a := w0) (b := w1) (by omega)
     have z10 := nq (a := w0) (b := w2) (by omega)
     have z11 := nq (a := w1) (b := w2) (by omega)
     refine AWP_ret ?_
     refine ⟨[.int .i64 3], by simp [z9, z10, z11, gs_W0, gs_W2, gs_x2_, ws_x2_, wl_x2_], M3 + 3, by omega, by first | rfl | exact (setx_len hl19) | omega, ?_, ?_⟩
     ·
      simp [encL_nil]
     ·
      first | rfl | simp [List.set_set]
    ·
     replace H := ifF C5 H
     refine AWP_skip ?_
     show K3 _ _
     refine keepE (l := [0, 9, 10]) (x := [(0, .ptr w0 r0_ 0), (9, .int .i64 1), (10, .int .i64 r18.1)]) rfl fun a' ha => ?_
     refine hK3 _ _ ?_; rw [ha]
     refine Rc.mk ?_
     refine gUnp AWP_ref (ty := 3) (sz := 1) (es := encL rI p0.Regs) (o := w0) (ob := ⟨28, 3, W0.set r0_ [.osl 3 1 (encL rI p0.Regs), .int .i64 p0.Pc, .fsl (encL rI p0.Mem)]⟩) (row := [.osl 3 1 (encL rI p0.Regs), .int .i64 p0.Pc, .fsl (encL rI p0.Mem)]) (r := r0_) (i := 0) [(w0, some ⟨28, 3, W0.set r0_ [.sl (M3 + 2) 0 p0.Regs.length, .int .i64 p0.Pc, .fsl (encL rI p0.Mem)]⟩), (w1, some ⟨64, 2, encL rBox_o l19⟩), (w2, some ⟨t2_, s2_, W2.set r2_ (x2_.set i2_ (.osl 3 1 (encL rI p2)))⟩), (M3 + 2, some ⟨3, 1, encL rI p0.Regs⟩)] (by simp (disch := omega)) (by simp (disch := omega) [gs_W0]) rfl (by simp (disch := omega) [List.set_set]) ?_
     obtain ⟨v20, hv20, H⟩ := bindE H
     obtain ⟨l21, hl21, H⟩ := bindE H
     refine AWP_rt tok [] [0, 9] (fun a σ => a = [(0, .ptr w0 r0_ 0), (9, .int .i64 1)] ∧ σ = hp E0 [(w0, some ⟨28, 3, W0.set r0_ [.sl (M3 + 2) 0 p0.Regs.length, .int .i64 p0.Pc, .fsl (encL rI p0.Mem)]⟩), (w1, some ⟨64, 2, encL rBox_o l19⟩), (w2, some ⟨t2_, s2_, W2.set r2_ (x2_.set i2_ (.osl 3 1 (encL rI p2)))⟩), (M3 + 2, some ⟨3, 1, encL rI l21⟩)] (M3 + 10)) (fun K hK => ?_) ?_
     ·
      skip
      have e0 := nq (a := w0) (b := w1) (by omega)
      have e1 := nq (a := w0) (b := w2) (by omega)
      have e2 := nq (a := w0) (b := M3 + 2) (by omega)
      have e3 := nq (a := w1) (b := w2) (by omega)
      have e4 := nq (a := w1) (b := M3 + 2) (by omega)
      have e5 := nq (a := w2) (b := M3 + 2) (by omega)
      simp -dsimp -implicitDefEqProofs (maxDischargeDepth := 6) [e0, e1, e2, e3, e4, e5, gs_W0, List.set_set, gs_W2, gs_x2_, ws_x2_, wl_x2_, ixo22 hv20, (show _[10]? = some v20 from (idx_lt3 hv20).2.2), (show List.set _ 10 _ = l21 from (setx_iff.1 hl21).2.symm)]
      exact hK _ _ ⟨rfl, rfl⟩
     rintro a σ ⟨ha, rfl⟩
     (try rw [← setx_len hl21] at ha); (try rw [← setx_len hl21])
     replace H := Option.some.inj H
     refine hJ1 _ _ _ H.symm ?_; rw [ha]
     refine gPk Rc_ref (k := l21.length) (o := w0) (ob := ⟨28, 3, W0.set r0_ [.sl (M3 + 2) 0 l21.length, .int .i64 p0.Pc, .fsl (encL rI p0.Mem)]⟩) (row := [.sl (M3 + 2) 0 l21.length, .int .i64 p0.Pc, .fsl (encL rI p0.Mem)]) (d := (M3 + 2)) (obd := ⟨3, 1, encL rI l21⟩) (r := r0_) (i := 0) [(w0, some ⟨28, 3, W0.set r0_ [.osl 3 1 (encL rI l21), .int .i64 p0.Pc, .fsl (encL rI p0.Mem)]⟩), (w1, some ⟨64, 2, encL rBox_o l19⟩), (w2, some ⟨t2_, s2_, W2.set r2_ (x2_.set i2_ (.osl 3 1 (encL rI p2)))⟩)] (by simp (disch := omega)) (by simp (disch := omega) [gs_W0]) rfl (by simp (disch := omega)) (by simp (disch := omega)) (by first | omega | simp) (by simp (disch := omega) [List.set_set, app_set] <;> omega) (by simp (disch := omega) [List.set_set, app_set]) ?_
     exact Rc.fin (AHeap.Sub.refl _) ⟨M3 + 10, (by omega), (by first | rfl | exact (setx_len hl19) | omega), rfl, rfl⟩
   ·
    replace H := ifF C4 H
    refine AWP_sr tok [] [0, 2, 9, 47, 78] (fun a σ => a = [(0, .ptr w0 r0_ 0), (2, .ptr w2 r2_ i2_), (9, .int .i64 1), (47, .int .i64 v1), (78, .bool (ieq v1 3))] ∧ σ = hp E0 [(w0, some ⟨28, 3, W0.set r0_ [.sl (N0 + 1) 0 p0.Regs.length, .int .i64 p0.Pc, .fsl (encL rI p0.Mem)]⟩), (w1, some ⟨64, 2, encL rBox_o p1⟩), (w2, some ⟨t2_, s2_, W2.set r2_ (x2_.set i2_ (.osl 3 1 (encL rI p2)))⟩), (N0 + 1, some ⟨3, 1, encL rI p0.Regs⟩)] (N0 + 47)) (fun K hK => ?_) ?_
    ·
     skip
     have e0 := nq (a := w0) (b := w1) (by omega)
     have e1 := nq (a := w0) (b := w2) (by omega)
     have e2 := nq (a := w0) (b := N0 + 1) (by omega)
     have e3 := nq (a := w1) (b := w2) (by omega)
     have e4 := nq (a := w1) (b := N0 + 1) (by omega)
     have e5 := nq (a := w2) (b := N0 + 1) (by omega)
     simp -dsimp -implicitDefEqProofs (maxDischargeDepth := 6) [e0, e1, e2, e3, e4, e5, gs_W0, List.set_set, gs_W2, gs_x2_, ws_x2_, wl_x2_]
     exact hK _ _ ⟨rfl, rfl⟩
    rintro a σ ⟨rfl, rfl⟩
    refine AWP_cond (ieq v1 3) rfl (fun C6 => ?_) (fun C6 => ?_)
    ·
     replace H := ifT C6 H
     refine AWP_rt tok [] [0, 9] (fun a σ => a = [(0, .ptr w0 r0_ 0), (9, .int .i64 2)] ∧ σ = hp E0 [(w0, some ⟨28, 3, W0.set r0_ [.sl (N0 + 1) 0 p0.Regs.length, .int .i64 p0.Pc, .fsl (encL rI p0.Mem)]⟩), (w1, some ⟨64, 2, encL rBox_o p1⟩), (w2, some ⟨t2_, s2_, W2.set r2_ (x2_.set i2_ (.osl 3 1 (encL rI p2)))⟩), (N0 + 1, some ⟨3, 1, encL rI p0.Regs⟩)] (N0 + 48)) (fun K hK => ?_) ?_
     ·
      skip
      have e0 := nq (a := w0) (b := w1) (by omega)
      have e1 := nq (a := w0) (b := w2) (by omega)
      have e2 := nq (a := w0) (b := N0 + 1) (by omega)
      have e3 := nq (a := w1) (b := w2) (by omega)
      have e4 := nq (a := w1) (b := N0 + 1) (by omega)
      have e5 := nq (a := w2) (b := N0 + 1) (by omega)
      simp -dsimp -implicitDefEqProofs (maxDischargeDepth := 6) [e0, e1, e2, e3, e4, e5, gs_W0, List.set_set, gs_W2, gs_x2_, ws_x2_, wl_x2_]
      exact hK _ _ ⟨rfl, rfl⟩
     rintro a σ ⟨ha, rfl⟩
     replace H := Option.some.inj H
     refine hJ1 _ _ _ H.symm ?_; rw [ha]
     refine gPk Rc_ref (k := p0.Regs.length) (o := w0) (ob := ⟨28, 3, W0.set r0_ [.sl (N0 + 1) 0 p0.Regs.length, .int .i64 p0.Pc, .fsl (encL rI p0.Mem)]⟩) (row := [.sl (N0 + 1) 0 p0.Regs.length, .int .i64 p0.Pc, .fsl (encL rI p0.Mem)]) (d := (N0 + 1)) (obd := ⟨3, 1, encL rI p0.Regs⟩) (r := r0_) (i := 0) [(w0, some ⟨28, 3, W0.set r0_ [.osl 3 1 (encL rI p0.Regs), .int .i64 p0.Pc, .fsl (encL rI p0.Mem)]⟩), (w1, some ⟨64, 2, encL rBox_o p1⟩), (w2, some ⟨t2_, s2_, W2.set r2_ (x2_.set i2_ (.osl 3 1 (encL rI p2)))⟩)] (by simp (disch := omega)) (by simp (disch := omega) [gs_W0]) rfl (by simp (disch := omega)) (by simp (disch := omega)) (by first | omega | simp) (by simp (disch := omega) [List.set_set, app_set] <;> omega) (by simp (disch := omega) [List.set_set, app_set]) ?_
     exact Rc.fin (AHeap.Sub.refl _) ⟨N0 + 48, (by omega), (by first | rfl | exact rfl | omega), rfl, rfl⟩
    ·
     replace H := ifF C6 H
     refine AWP_sr tok [] [0, 2, 9, 47, 80] (fun a σ => a = [(0, .ptr w0 r0_ 0), (2, .ptr w2 r2_ i2_), (9, .int .i64 1), (47, .int .i64 v1), (80, .bool (ieq v1 4))] ∧ σ = hp E0 [(w0, some ⟨28, 3, W0.set r0_ [.sl (N0 + 1) 0 p0.Regs.length, .int .i64 p0.Pc, .fsl (encL rI p0.Mem)]⟩), (w1, some ⟨64, 2, encL rBox_o p1⟩), (w2, some ⟨t2_, s2_, W2.set r2_ (x2_.set i2_ (.osl 3 1 (encL rI p2)))⟩), (N0 + 1, some ⟨3, 1, encL rI p0.Regs⟩)] (N0 + 49)) (fun K hK => ?_) ?_
     ·
      skip
      have e0 := nq (a := w0) (b := w1) (by omega)
      have e1 := nq (a := w0) (b := w2) (by omega)
      have e2 := nq (a := w0) (b := N0 + 1) (by omega)
      have e3 := nq (a := w1) (b := w2) (by omega)
      have e4 := nq (a := w1) (b := N0 + 1) (by omega)
      have e5 := nq (a := w2) (b := N0 + 1) (by omega)
      simp -dsimp -implicitDefEqProofs (maxDischargeDepth := 6) [e0, e1, e2, e3, e4, e5, gs_W0, List.set_set, gs_W2, gs_x2_, ws_x2_, wl_x2_]
      exact hK _ _ ⟨rfl, rfl⟩
     rintro a σ ⟨rfl, rfl⟩
     refine AWP_cond (ieq v1 4) rfl (fun C7 => ?_) (fun C7 => ?_)
     ·
      replace H := ifT C7 H
      refine gUnp AWP_ref (ty := 3) (sz := 1) (es := encL rI p2) (o := w2) (ob := ⟨t2_, s2_, W2.set r2_ (x2_.set i2_ (.osl 3 1 (encL rI p2)))⟩) (row := x2_.set i2_ (.osl 3 1 (encL rI p2))) (r := r2_) (i := i2_) [(w0, some ⟨28, 3, W0.set r0_ [.sl (N0 + 1) 0 p0.Regs.length, .int .i64 p0.Pc, .fsl (encL rI p0.Mem)]⟩), (w1, some ⟨64, 2, encL rBox_o p1⟩), (w2, some ⟨t2_, s2_, W2.set r2_ (x2_.set i2_ (.sl (N0 + 49) 0 p2.length))⟩), (N0 + 1, some ⟨3, 1, encL rI p0.Regs⟩), (N0 + 49, some ⟨3, 1, encL rI p2⟩)] (by simp (disch := omega)) (by simp (disch := omega) [gs_W2]) (by simp (disch := omega) [gs_x2_]) (by simp (disch := omega) [List.set_set]) ?_
      obtain ⟨v22, hv22, H⟩ := bindE H
      obtain ⟨l23, hl23, H⟩ := bindE H
      have q0 : ∀ σ i, buildSliceA T 22 true i 1 [(0, .int .i64 v22)] σ = some (.fsl (encL rI ([v22] : List Int)), σ) := fun _ _ => rfl
      refine AWP_ry tok tokM [10] [3, 7, 8, 9, 10, 11, 13] [0, 1, 2, 4, 5, 6, 3, 7, 8, 9, 10, 11, 12, 13] [(10, [3])] [0, 9] (fun a σ => a = [(0, .ptr w0 r0_ 0), (9, .int .i64 1)] ∧ σ = hp E0 [(w0, some ⟨28, 3, W0.set r0_ [.sl (N0 + 1) 0 p0.Regs.length, .int .i64 p0.Pc, .fsl (encL rI p0.Mem)]⟩), (w1, some ⟨64, 2, encL rBox_o p1⟩), (w2, some ⟨t2_, s2_, W2.set r2_ (x2_.set i2_ (.sl (N0 + 61) 0 l23.length))⟩), (N0 + 1, some ⟨3, 1, encL rI p0.Regs⟩), (N0 + 61, some ⟨3, 1, encL rI l23⟩)] (N0 + 64)) (by decide) (fun K hK => ?_) ?_
      ·
       simp only [pickL, nthO_succ, nthO_zero]
       have e0 := nq (a := w0) (b := w1) (by omega)
       have e1 := nq (a := w0) (b := w2) (by omega)
       have e2 := nq (a := w0) (b := N0 + 1) (by omega)
       have e3 := nq (a := w0) (b := N0 + 49) (by omega)
       have e4 := nq (a := w0) (b := N0 + 61) (by omega)
       have e5 := nq (a := w1) (b := w2) (by omega)
       have e6 := nq (a := w1) (b := N0 + 1) (by omega)
       have e7 := nq (a := w1) (b := N0 + 49) (by omega)
       have e8 := nq (a := w1) (b := N0 + 61) (by omega)
       have e9 := nq (a := w2) (b := N0 + 1) (by omega)
       have e10 := nq (a := w2) (b := N0 + 49) (by omega)
       have e11 := nq (a := w2) (b := N0 + 61) (by omega)
       simp -dsimp -implicitDefEqProofs (maxDischargeDepth := 6) [e0, e1, e2, e3, e4, e5, e6, e7, e8, e9, e10, e11, gs_W0, List.set_set, gs_W2, gs_x2_, ws_x2_, wl_x2_, ixo22 hv22, (show _[10]? = some v22 from (idx_lt3 hv22).2.2), q0, app22 hl23]
       exact hK _ _ ⟨rfl, rfl⟩
      rintro a σ ⟨ha, rfl⟩
      replace H := Option.some.inj H
      refine hJ1 _ _ _ H.symm ?_; rw [ha]
      refine gPk Rc_ref (k := p0.Regs.length) (o := w0) (ob := ⟨28, 3, W0.set r0_ [.sl (N0 + 1) 0 p0.Regs.length, .int .i64 p0.Pc, .fsl (encL rI p0.Mem)]⟩) (row := [.sl (N0 + 1) 0 p0.Regs.length, .int .i64 p0.Pc, .fsl (encL rI p0.Mem)]) (d := (N0 + 1)) (obd := ⟨3, 1, encL rI p0.Regs⟩) (r := r0_) (i := 0) [(w0, some ⟨28, 3, W0.set r0_ [.osl 3 1 (encL rI p0.Regs), .int .i64 p0.Pc, .fsl (encL rI p0.Mem)]⟩), (w1, some ⟨64, 2, encL rBox_o p1⟩), (w2, some ⟨t2_, s2_, W2.set r2_ (x2_.set i2_ (.sl (N0 + 61) 0 l23.length))⟩), (N0 + 61, some ⟨3, 1, encL rI l23⟩)] (by simp (disch := omega)) (by simp (disch := omega) [gs_W0]) rfl (by simp (disch := omega)) (by simp (disch := omega)) (by first | omega | simp) (by simp (disch := omega) [List.set_set, app_set] <;> omega) (by simp (disch := omega) [List.set_set, app_set]) ?_
      refine gPk Rc_ref (k := l23.length) (o := w2) (ob := ⟨t2_, s2_, W2.set r2_ (x2_.set i2_ (.sl (N0 + 61) 0 l23.length))⟩) (row := x2_.set i2_ (.sl (N0 + 61) 0 l23.length)) (d := (N0 + 61)) (obd := ⟨3, 1, encL rI l23⟩) (r := r2_) (i := i2_) [(w0, some ⟨28, 3, W0.set r0_ [.osl 3 1 (encL rI p0.Regs), .int .i64 p0.Pc, .fsl (encL rI p0.Mem)]⟩), (w1, some ⟨64, 2, encL rBox_o p1⟩), (w2, some ⟨t2_, s2_, W2.set r2_ (x2_.set i2_ (.osl 3 1 (encL rI l23)))⟩)] (by simp (disch := omega)) (by simp (disch := omega) [gs_W2]) (by simp (disch := omega) [gs_x2_]) (by simp (disch := omega)) (by simp (disch := omega)) (by first | omega | simp) (by simp (disch := omega) [List.set_set, app_set] <;> omega) (by simp (disch := omega) [List.set_set, app_set]) ?_
      exact Rc.fin (AHeap.Sub.refl _) ⟨N0 + 64, (by omega), (by first | rfl | exact rfl | omega), rfl, rfl⟩
     ·
      replace H := ifF C7 H
      refine AWP_sr tok [] [95] (fun a σ => a = [(95, .bool (ieq v1 5))] ∧ σ = hp E0 [(w0, some ⟨28, 3, W0.set r0_ [.sl (N0 + 1) 0 p0.Regs.length, .int .i64 p0.Pc, .fsl (encL rI p0.Mem)]⟩), (w1, some ⟨64, 2, encL rBox_o p1⟩), (w2, some ⟨t2_, s2_, W2.set r2_ (x2_.set i2_ (.osl 3 1 (encL rI p2)))⟩), (N0 + 1, some ⟨3, 1, encL rI p0.Regs⟩)] (N0 + 51)) (fun K hK => ?_) ?_
      ·
       skip
       have e0 := nq (a := w0) (b := w1) (by omega)
       have e1 := nq (a := w0) (b := w2) (by omega)
       have e2 := nq (a := w0) (b := N0 + 1) (by omega)
       have e3 := nq (a := w1) (b := w2) (by omega)
       have e4 := nq (a := w1) (b := N0 + 1) (by omega)
       have e5 := nq (a := w2) (b := N0 + 1) (by omega)
       simp -dsimp -implicitDefEqProofs (maxDischargeDepth := 6) [e0, e1, e2, e3, e4, e5, gs_W0, List.set_set, gs_W2, gs_x2_, ws_x2_, wl_x2_]
       exact hK _ _ ⟨rfl, rfl⟩
      rintro a σ ⟨rfl, rfl⟩
      refine AWP_cond (ieq v1 5) rfl (fun C8 => ?_) (fun C8 => ?_)
      ·
       replace H := ifT C8 H
       refine AWP_sr tok [] [6] (fun a σ => a = [(6, .int .i64 4)] ∧ σ = hp E0 [(w0, some ⟨28, 3, W0.set r0_ [.sl (N0 + 1) 0 p0.Regs.length, .int .i64 p0.Pc, .fsl (encL rI p0.Mem)]⟩), (w1, some ⟨64, 2, encL rBox_o p1⟩), (w2, some ⟨t2_, s2_, W2.set r2_ (x2_.set i2_ (.osl 3 1 (encL rI p2)))⟩), (N0 + 1, some ⟨3, 1, encL rI p0.Regs⟩)] (N0 + 52)) (fun K hK => ?_) ?_
       ·
        skip
        have e0 := nq (a := w0) (b := w1) (by omega)
        have e1 := nq (a := w0) (b := w2) (by omega)
        have e2 := nq (a := w0) (b := N0 + 1) (by omega)
        have e3 := nq (a := w1) (b := w2) (by omega)
        have e4 := nq (a := w1) (b := N0 + 1) (by omega)
        have e5 := nq (a := w2) (b := N0 + 1) (by omega)
        simp -dsimp -implicitDefEqProofs (maxDischargeDepth := 6) [e0, e1, e2, e3, e4, e5, gs_W0, List.set_set, gs_W2, gs_x2_, ws_x2_, wl_x2_]
        exact hK _ _ ⟨rfl, rfl⟩
       rintro a σ ⟨rfl, rfl⟩
       obtain ⟨z, hz, H⟩ := bindE H
       replace H := Option.some.inj H; subst H; dsimp only at Gj1; replace Gj1 := Option.some.inj Gj1; subst Gj1; have H := hz
       replace H := Option.some.inj H; subst H
       refine AWP_kp [6] [(6, .int .i64 4)] rfl ?_
       refine gPk AWP_ref (k := p0.Regs.length) (o := w0) (ob := ⟨28, 3, W0.set r0_ [.sl (N0 + 1) 0 p0.Regs.length, .int .i64 p0.Pc, .fsl (encL rI p0.Mem)]⟩) (row := [.sl (N0 + 1) 0 p0.Regs.length, .int .i64 p0.Pc, .fsl (encL rI p0.Mem)]) (d := (N0 + 1)) (obd := ⟨3, 1, encL rI p0.Regs⟩) (r := r0_) (i := 0) [(w0, some ⟨28, 3, W0.set r0_ [.osl 3 1 (encL rI p0.Regs), .int .i64 p0.Pc, .fsl (encL rI p0.Mem)]⟩), (w1, some ⟨64, 2, encL rBox_o p1⟩), (w2, some ⟨t2_, s2_, W2.set r2_ (x2_.set i2_ (.osl 3 1 (encL rI p2)))⟩)] (by simp (disch := omega)) (by simp (disch := omega) [gs_W0]) rfl (by simp (disch := omega)) (by simp (disch := omega)) (by first | omega | simp) (by simp (disch := omega) [List.set_set, app_set] <;> omega) (by simp (disch := omega) [List.set_set, app_set]) ?_
       have z12 := nq (a := w0) (b := w1) (by omega)
       have z13 := nq (a := w0) (b := w2) (by omega)
       have z14 := nq (a := w1) (b := w2) (by omega)
       refine AWP_ret ?_
       refine ⟨[.int .i64 4], by simp [z12, z13, z14, gs_W0, gs_W2, gs_x2_, ws_x2_, wl_x2_], N0 + 52, by omega, by first | rfl | exact rfl | omega, ?_, ?_⟩
       ·
        simp [encL_nil]
       ·
        first | rfl | simp [List.set_set]
      ·
       replace H := ifF C8 H
       refine AWP_sr tok [] [6] (fun a σ => a = [(6, .int .i64 0)] ∧ σ = hp E0 [(w0, some ⟨28, 3, W0.set r0_ [.sl (N0 + 1) 0 p0.Regs.length, .int .i64 p0.Pc, .fsl (encL rI p0.Mem)]⟩), (w1, some ⟨64, 2, encL rBox_o p1⟩), (w2, some ⟨t2_, s2_, W2.set r2_ (x2_.set i2_ (.osl 3 1 (encL rI p2)))⟩), (N0 + 1, some ⟨3, 1, encL rI p0.Regs⟩)] (N0 + 52)) (fun K hK => ?_) ?_
       ·
        skip
        have e0 := nq (a := w0) (b := w1) (by omega)
        have e1 := nq (a := w0) (b := w2) (by omega)
        have e2 := nq (a := w0) (b := N0 + 1) (by omega)
        have e3 := nq (a := w1) (b := w2) (by omega)
        have e4 := nq (a := w1) (b := N0 + 1) (by omega)
        have e5 := nq (a := w2) (b := N0 + 1) (by omega)
        simp -dsimp -implicitDefEqProofs (maxDischargeDepth := 6) [e0, e1, e2, e3, e4, e5, gs_W0, List.set_set, gs_W2, gs_x2_, ws_x2_, wl_x2_]
        exact hK _ _ ⟨rfl, rfl⟩
       rintro a σ ⟨rfl, rfl⟩
       obtain ⟨z, hz, H⟩ := bindE H
       replace H := Option.some.inj H; subst H; dsimp only at Gj1; replace Gj1 := Option.some.inj Gj1; subst Gj1; have H := hz
       replace H := Option.some.inj H; subst H
       refine AWP_kp [6] [(6, .int .i64 0)] rfl ?_
       refine gPk AWP_ref (k := p0.Regs.length) (o := w0) (ob := ⟨28, 3, W0.set r0_ [.sl (N0 + 1) 0 p0.Regs.length, .int .i64 p0.Pc, .fsl (encL rI p0.Mem)]⟩) (row := [.sl (N0 + 1) 0 p0.Regs.length, .int .i64 p0.Pc, .fsl (encL rI p0.Mem)]) (d := (N0 + 1)) (obd := ⟨3, 1, encL rI p0.Regs⟩) (r := r0_) (i := 0) [(w0, some ⟨28, 3, W0.set r0_ [.osl 3 1 (encL rI p0.Regs), .int .i64 p0.Pc, .fsl (encL rI p0.Mem)]⟩), (w1, some ⟨64, 2, encL rBox_o p1⟩), (w2, some ⟨t2_, s2_, W2.set r2_ (x2_.set i2_ (.osl 3 1 (encL rI p2)))⟩)] (by simp (disch := omega)) (by simp (disch := omega) [gs_W0]) rfl (by simp (disch := omega)) (by simp (disch := omega)) (by first | omega | simp) (by simp (disch := omega) [List.set_set, app_set] <;> omega) (by simp (disch := omega) [List.set_set, app_set]) ?_
       have z15 := nq (a := w0) (b := w1) (by omega)
       have z16 := nq (a := w0) (b := w2) (by omega)
       have z17 := nq (a := w1) (b := w2) (by omega)
       refine AWP_ret ?_
       refine ⟨[.int .i64 0], by simp [z15, z16, z17, gs_W0, gs_W2, gs_x2_, ws_x2_, wl_x2_], N0 + 52, by omega, by first | rfl | exact rfl | omega, ?_, ?_⟩
       ·
        simp [encL_nil]
       ·
        first | rfl | simp [List.set_set]
end Go.Proofs.Ytoklfbdcghgmlaa
