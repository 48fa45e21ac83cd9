/- The contracts of functions of the program, part 2: each computes what its mirror computes. No conditions. -/
import Derived.Test.YtoklfbdcghgmlaaNYT1
set_option linter.unusedSimpArgs false
set_option linter.unusedVariables false
set_option maxRecDepth 20000
set_option maxHeartbeats 4000000
namespace Go.Proofs.Ytoklfbdcghgmlaa
open Go Go.Abs Go.RowKit

theorem c90 {p0 : gMachine} {r : Bool} (H : i_squadValid_1 p0 = some r) : APure Try.prog G 90 [.agg [.fsl (encL rI p0.Regs), .int .i64 p0.Pc, .fsl (encL rI p0.Mem)]] (.bool r) := by
 refine APure_fn (fun N0 => ?_) (by simp)
 refine ACalls_fn tok Try.func90 (by kernel_rfl) rfl Try.ntmps90 Try.results90 rfl ?_
 simp only [argsA, Nat.reduceAdd, hp_next]
 unfold i_squadValid_1 at H
 refine AWP_sr tok [0] [1] (fun a σ => a = [(1, .fptr [.fsl (encL rI p0.Regs), .int .i64 p0.Pc, .fsl (encL rI p0.Mem)] 0)] ∧ σ = hp E0 [] (N0 + 2)) (fun K hK => ?_) ?_
 ·
  skip
  simp -dsimp -implicitDefEqProofs (maxDischargeDepth := 6)
  exact hK _ _ ⟨rfl, rfl⟩
 rintro a σ ⟨rfl, rfl⟩
 obtain ⟨r1, hr1, H⟩ := bindE H
 refine AWP_sr tok [] [2] (fun a σ => a = [(2, .bool (bnot r1))] ∧ σ = hp E0 [] (N0 + 6)) (fun K hK => ?_) ?_
 ·
  skip
  simp -dsimp -implicitDefEqProofs (maxDischargeDepth := 6)
  refine (c50 hr1).app ?_; try simp -dsimp -implicitDefEqProofs (maxDischargeDepth := 6)
  exact hK _ _ ⟨rfl, rfl⟩
 rintro a σ ⟨rfl, rfl⟩
 replace H := Option.some.inj H; subst H
 refine AWP_kp [2] [(2, .bool (bnot r1))] rfl ?_
 refine AWP_ret ?_
 exact ⟨[.bool (bnot r1)], by simp, 4, by simp [encL_nil]⟩
theorem c99_i_squadValid_1 {p0 : (List gMachine)} {r : Int} (H : slices_IndexFunc_impl_Machine_impl_Machine_i_squadValid_1 p0 = some r) : APure Try.prog G 99 [.fsl (encL rMachine p0), .clo 90 [] []] (.int .i64 r) := by
 refine APure_fn (fun N0 => ?_) (by simp)
 refine ACalls_fn tok Try.func99 (by kernel_rfl) rfl Try.ntmps99 Try.results99 rfl ?_
 simp only [argsA, Nat.reduceAdd, hp_next]
 unfold slices_IndexFunc_impl_Machine_impl_Machine_i_squadValid_1 at H
 refine AWP_sr tok [] [0, 1] (fun a σ => a = [(0, .fsl (encL rMachine p0)), (1, .clo 90 [] [])] ∧ σ = hp E0 [] (N0 + 1)) (fun K hK => ?_) ?_
 ·
  skip
  simp -dsimp -implicitDefEqProofs (maxDischargeDepth := 6)
  exact hK _ _ ⟨rfl, rfl⟩
 rintro a σ ⟨rfl, rfl⟩
 refine AWP_sq [] fun K1 hK1 => ?_
 refine AWP_sr tok [] [0, 1, 7, 8] (fun a σ => a = [(0, .fsl (encL rMachine p0)), (1, .clo 90 [] []), (7, .int .i64 (ilen p0)), (8, .int .i64 0)] ∧ σ = hp E0 [] (N0 + 4)) (fun K hK => ?_) ?_
 ·
  skip
  simp -dsimp -implicitDefEqProofs (maxDischargeDepth := 6)
  exact hK _ _ ⟨rfl, rfl⟩
 rintro a σ ⟨rfl, rfl⟩
 refine AWP_block (AWP_thenB ?_)
 obtain ⟨e1, hse1, H⟩ := bindE H
 refine AWP_lp [0, 1, 7, 8] (fun s a σ => ∃ M1 : Nat, N0 ≤ M1 ∧ a = [(0, .fsl (encL rMachine p0)), (1, .clo 90 [] []), (7, .int .i64 (ilen p0)), (8, .int .i64 s)] ∧ σ = hp E0 [] M1) (fun e x a σ => match e with | .inl s => x = .exit 0 ∧ Rc G 19 N0 (fun a σ => ∃ M2 : Nat, N0 ≤ M2 ∧ a = [] ∧ σ = hp E0 [] M2) (AAct.keep a []) σ | .inr s => x = .ret ∧ ∃ vs, resA T σ a [.tmp 4] = some vs ∧ ∃ d, thawA (fun _ => true) σ d (tupA vs) = .int .i64 s) hse1 ?_ ?_ ?_
 ·
  refine Rc.kp [0, 1, 7, 8] [(0, .fsl (encL rMachine p0)), (1, .clo 90 [] []), (7, .int .i64 (ilen p0)), (8, .int .i64 0)] rfl ?_
  exact Rc.fin (AHeap.Sub.refl _) ⟨N0 + 4, (by omega), rfl, rfl⟩
 ·
  clear H hse1
  rintro s1 fl a σ H ⟨M1, fM1_0, rfl, rfl⟩ K2 O2 hK2 hO2
  unfold slices_IndexFunc_impl_Machine_impl_Machine_i_squadValid_1_L1 at H; dsimp only at H
  refine AWP_sr tok [] [0, 1, 7, 8, 9] (fun a σ => a = [(0, .fsl (encL rMachine p0)), (1, .clo 90 [] []), (7, .int .i64 (ilen p0)), (8, .int .i64 s1), (9, .bool (ilt s1 (ilen p0)))] ∧ σ = hp E0 [] (M1 + 1)) (fun K hK => ?_) ?_
  ·
   skip
   simp -dsimp -implicitDefEqProofs (maxDischargeDepth := 6)
   exact hK _ _ ⟨rfl, rfl⟩
  rintro a σ ⟨rfl, rfl⟩
  refine AWP_sq [0, 1, 7, 8] fun K3 hK3 => ?_
  refine AWP_cond (ilt s1 (ilen p0)) rfl (fun C1 => ?_) (fun C1 => ?_)
  ·
   replace H := ifT C1 H
   refine AWP_skip ?_
   show K3 _ _
   refine keepE (l := [0, 1, 7, 8]) (x := [(0, .fsl (encL rMachine p0)), (1, .clo 90 [] []), (7, .int .i64 (ilen p0)), (8, .int .i64 s1)]) rfl fun a' ha => ?_
   refine hK3 _ _ ?_; rw [ha]
   refine Rc.mk ?_
   refine AWP_sq [0, 1, 7, 8] fun K4 hK4 => ?_
   refine AWP_block (AWP_thenB ?_)
   refine AWP_sr tok [] [0, 1, 5, 7, 8] (fun a σ => a = [(0, .fsl (encL rMachine p0)), (1, .clo 90 [] []), (5, .int .i64 s1), (7, .int .i64 (ilen p0)), (8, .int .i64 s1)] ∧ σ = hp E0 [] (M1 + 3)) (fun K hK => ?_) ?_
   ·
    skip
    simp -dsimp -implicitDefEqProofs (maxDischargeDepth := 6)
    exact hK _ _ ⟨rfl, rfl⟩
   rintro a σ ⟨rfl, rfl⟩
   obtain ⟨v2, hv2, H⟩ := bindE H
   obtain ⟨r3, hr3, H⟩ := bindE H
   refine AWP_sr tok [] [0, 1, 5, 7, 8, 16] (fun a σ => a = [(0, .fsl (encL rMachine p0)), (1, .clo 90 [] []), (5, .int .i64 s1), (7, .int .i64 (ilen p0)), (8, .int .i64 s1), (16, .bool r3)] ∧ σ = hp E0 [] (M1 + 9)) (fun K hK => ?_) ?_
   ·
    skip
    simp -dsimp -implicitDefEqProofs (maxDischargeDepth := 6) [ix50 hv2]
    refine (c90 hr3).app ?_; try simp -dsimp -implicitDefEqProofs (maxDischargeDepth := 6) [ix50 hv2]
    exact hK _ _ ⟨rfl, rfl⟩
   rintro a σ ⟨rfl, rfl⟩
   refine AWP_cond r3 rfl (fun C2 => ?_) (fun C2 => ?_)
   ·
    replace H := ifT C2 H
    refine AWP_sr tok [] [4] (fun a σ => a = [(4, .int .i64 s1)] ∧ σ = hp E0 [] (M1 + 11)) (fun K hK => ?_) ?_
    ·
     skip
     simp -dsimp -implicitDefEqProofs (maxDischargeDepth := 6)
     exact hK _ _ ⟨rfl, rfl⟩
    rintro a σ ⟨rfl, rfl⟩
    replace H := Option.some.inj H; subst H
    refine AWP_kp [4] [(4, .int .i64 s1)] rfl ?_
    refine AWP_ret (hO2 _ _ _ _ rfl ⟨rfl, ?_⟩)
    exact ⟨[.int .i64 s1], by simp, 4, by simp [encL_nil]⟩
   ·
    replace H := ifF C2 H
    refine AWP_skip ?_
    show K4 _ _
    refine keepE (l := [0, 1, 7, 8]) (x := [(0, .fsl (encL rMachine p0)), (1, .clo 90 [] []), (7, .int .i64 (ilen p0)), (8, .int .i64 s1)]) rfl fun a' ha => ?_
    refine hK4 _ _ ?_; rw [ha]
    refine Rc.mk ?_
    refine AWP_rt tok [] [0, 1, 7, 8] (fun a σ => a = [(0, .fsl (encL rMachine p0)), (1, .clo 90 [] []), (7, .int .i64 (ilen p0)), (8, .int .i64 (iadd .i64 s1 1))] ∧ σ = hp E0 [] (M1 + 11)) (fun K hK => ?_) ?_
    ·
     skip
     simp -dsimp -implicitDefEqProofs (maxDischargeDepth := 6)
     exact hK _ _ ⟨rfl, rfl⟩
    rintro a σ ⟨ha, rfl⟩
    replace H := Option.some.inj H; subst H
    refine hK2 _ _ _ rfl ?_; rw [ha]
    exact Rc.fin (AHeap.Sub.refl _) ⟨M1 + 11, (by omega), rfl, rfl⟩
  ·
   replace H := ifF C1 H
   replace H := Option.some.inj H; subst H
   refine AWP_exit (hO2 _ _ _ _ rfl ⟨rfl, ?_⟩)
   refine Rc.rw (l := []) (X := []) rfl ?_
   exact Rc.fin (AHeap.Sub.refl _) ⟨M1 + 1, (by omega), rfl, rfl⟩
 ·
  intro x a σ hx
  rcases e1 with ⟨⟩ | r0
  ·
   obtain ⟨rfl, b, τ, hr, M2, fM2_0, rfl, rfl⟩ := hx
   dsimp only at H
   show K1 _ _
   refine hK1 _ _ (Rc_ref hr ?_)
   refine Rc.mk ?_
   refine AWP_sr tok [] [4] (fun a σ => a = [(4, .int .i64 (-1))] ∧ σ = hp E0 [] (M2 + 1)) (fun K hK => ?_) ?_
   ·
    skip
    simp -dsimp -implicitDefEqProofs (maxDischargeDepth := 6)
    exact hK _ _ ⟨rfl, rfl⟩
   rintro a σ ⟨rfl, rfl⟩
   replace H := Option.some.inj H; subst H
   refine AWP_kp [4] [(4, .int .i64 (-1))] rfl ?_
   refine AWP_ret ?_
   exact ⟨[.int .i64 (-1)], by simp, 4, by simp [encL_nil]⟩
  ·
   obtain ⟨rfl, hx2⟩ := hx
   dsimp only at H
   replace H := Option.some.inj H; subst H; exact hx2
theorem c89_i_squadValid_1 {p0 : (List gMachine)} {r : Bool} (H : slices_ContainsFunc_impl_Machine_impl_Machine_i_squadValid_1 p0 = some r) : APure Try.prog G 89 [.fsl (encL rMachine p0), .clo 90 [] []] (.bool r) := by
 refine APure_fn (fun N0 => ?_) (by simp)
 refine ACalls_fn tok Try.func89 (by kernel_rfl) rfl Try.ntmps89 Try.results89 rfl ?_
 simp only [argsA, Nat.reduceAdd, hp_next]
 unfold slices_ContainsFunc_impl_Machine_impl_Machine_i_squadValid_1 at H
 refine AWP_sr tok [] [0, 1] (fun a σ => a = [(0, .fsl (encL rMachine p0)), (1, .clo 90 [] [])] ∧ σ = hp E0 [] (N0 + 1)) (fun K hK => ?_) ?_
 ·
  skip
  simp -dsimp -implicitDefEqProofs (maxDischargeDepth := 6)
  exact hK _ _ ⟨rfl, rfl⟩
 rintro a σ ⟨rfl, rfl⟩
 obtain ⟨r1, hr1, H⟩ := bindE H
 refine AWP_sr tok [] [4] (fun a σ => a = [(4, .bool (ige r1 0))] ∧ σ = hp E0 [] (N0 + 6)) (fun K hK => ?_) ?_
 ·
  skip
  simp -dsimp -implicitDefEqProofs (maxDischargeDepth := 6)
  refine (c99_i_squadValid_1 hr1).app ?_; try simp -dsimp -implicitDefEqProofs (maxDischargeDepth := 6)
  exact hK _ _ ⟨rfl, rfl⟩
 rintro a σ ⟨rfl, rfl⟩
 replace H := Option.some.inj H; subst H
 refine AWP_kp [4] [(4, .bool (ige r1 0))] rfl ?_
 refine AWP_ret ?_
 exact ⟨[.bool (ige r1 0)], by simp, 4, by simp [encL_nil]⟩
theorem c60 {p0 : gSquad} {r : Bool} (H : i_squadValid p0 = some r) : APure Try.prog G 60 [.agg [.fsl (encL rMachine p0.Harts), .fsl (encL rBox p0.Boxes), .int .i64 p0.Turn, .int .i64 p0.Idle, .fsl (encL rI p0.Out)]] (.bool r) := by
 refine APure_fn (fun N0 => ?_) (by simp)
 refine ACalls_fn tok Try.func60 (by kernel_rfl) rfl Try.ntmps60 Try.results60 rfl ?_
 simp only [argsA, Nat.reduceAdd, hp_next]
 unfold i_squadValid at H
 refine AWP_sr tok [0] [1] (fun a σ => a = [(1, .fptr [.fsl (encL rMachine p0.Harts), .fsl (encL rBox p0.Boxes), .int .i64 p0.Turn, .int .i64 p0.Idle, .fsl (encL rI p0.Out)] 0)] ∧ σ = hp E0 [] (N0 + 2)) (fun K hK => ?_) ?_
 ·
  skip
  simp -dsimp -implicitDefEqProofs (maxDischargeDepth := 6)
  exact hK _ _ ⟨rfl, rfl⟩
 rintro a σ ⟨rfl, rfl⟩
 obtain ⟨r1, hr1, H⟩ := bindE H
 obtain ⟨g3, hg3, H⟩ := bindE H
 obtain ⟨g5, hg5, H⟩ := bindE H
 refine AWP_sr tok [] [2] (fun a σ => a = [(2, .bool g5)] ∧ σ = hp E0 [] (N0 + 24)) (fun K hK => ?_) ?_
 ·
  skip
  simp -dsimp -implicitDefEqProofs (maxDischargeDepth := 6)
  refine (c88 hr1).app ?_; try simp -dsimp -implicitDefEqProofs (maxDischargeDepth := 6)
  cases hbg3 : r1
  ·
   replace hg3 := ifF hbg3 hg3
   replace hg3 := Option.some.inj hg3; subst hg3
   try simp -dsimp -implicitDefEqProofs (maxDischargeDepth := 6) [hbg3]
   replace hg5 := ifF rfl hg5
   replace hg5 := Option.some.inj hg5; subst hg5
   try simp -dsimp -implicitDefEqProofs (maxDischargeDepth := 6) [hbg3]
   exact hK _ _ ⟨rfl, rfl⟩
  ·
   replace hg3 := ifT hbg3 hg3
   obtain ⟨r2, hr2, hg3⟩ := bindE hg3
   replace hg3 := Option.some.inj hg3; subst hg3
   try simp -dsimp -implicitDefEqProofs (maxDischargeDepth := 6) [hbg3]
   refine (c51 hr2).app ?_; try simp -dsimp -implicitDefEqProofs (maxDischargeDepth := 6) [hbg3]
   cases hbg5 : r2
   ·
    replace hg5 := ifF hbg5 hg5
    replace hg5 := Option.some.inj hg5; subst hg5
    try simp -dsimp -implicitDefEqProofs (maxDischargeDepth := 6) [hbg3, hbg5]
    exact hK _ _ ⟨rfl, rfl⟩
   ·
    replace hg5 := ifT hbg5 hg5
    obtain ⟨r4, hr4, hg5⟩ := bindE hg5
    replace hg5 := Option.some.inj hg5; subst hg5
    try simp -dsimp -implicitDefEqProofs (maxDischargeDepth := 6) [hbg3, hbg5]
    refine (c89_i_squadValid_1 hr4).app ?_; try simp -dsimp -implicitDefEqProofs (maxDischargeDepth := 6) [hbg3, hbg5]
    exact hK _ _ ⟨rfl, rfl⟩
 rintro a σ ⟨rfl, rfl⟩
 replace H := Option.some.inj H; subst H
 refine AWP_kp [2] [(2, .bool g5)] rfl ?_
 refine AWP_ret ?_
 exact ⟨[.bool g5], by simp, 4, by simp [encL_nil]⟩
theorem c61_o {p0 : (List Int)} {p1 : (List gBox)} {p2 : Bool} {r : gOutcome} (H : i_outcomeOf_o p0 p1 p2 = some r) {σ : AHeap} : ACalls Try.prog G 61 [.fsl (encL rI p0), .fsl (encL rBox p1), .bool p2] σ (fun v σ' => ∃ M n0 : Nat, σ.next ≤ M ∧ σ.next ≤ n0 ∧ n0 < M ∧ v = .agg [.fsl (encL rI r.Out), .fsl (encL rL_I r.Items), .sl n0 0 r.Ended.length, .bool r.Rest] ∧ σ' = hp σ.objs [(n0, some ⟨4, 1, encL rB r.Ended⟩)] M) := by
 refine ACalls_fr (L := []) (Q1 := fun v σ' => ∃ M n0 : Nat, σ.next ≤ M ∧ σ.next ≤ n0 ∧ n0 < M ∧ v = .agg [.fsl (encL rI r.Out), .fsl (encL rL_I r.Items), .sl n0 0 r.Ended.length, .bool r.Rest] ∧ σ' = hp E0 [(n0, some ⟨4, 1, encL rB r.Ended⟩)] M) (by simp []) (fun hlt => ?_) ?_ ⟨_, Try.func61, rfl, rfl⟩
 rotate_left
 ·
  rintro v σ1 ⟨M, n0, h0, h1, h2, rfl, rfl⟩
  exact ⟨_, M, rfl, by simp, by simp; try omega, M, n0, h0, h1, h2, rfl, rfl⟩
 generalize σ.next = N0 at hlt ⊢
 refine ACalls_thaw 4 ?_
 refine ACalls_fn tok Try.func61 (by kernel_rfl) rfl Try.ntmps61 Try.results61 rfl ?_
 simp only [argsA, Nat.reduceAdd, hp_next]
 unfold i_outcomeOf_o at H
 refine AWP_sr tok [] [0, 1, 2, 6] (fun a σ => a = [(0, .fsl (encL rI p0)), (1, .fsl (encL rBox p1)), (2, .bool p2), (6, .ptr N0 0 0)] ∧ σ = hp E0 [(N0, some ⟨48, 4, [[.nilsl, .nilsl, .nilsl, .bool false]]⟩)] (N0 + 1)) (fun K hK => ?_) ?_
 ·
  skip
  simp -dsimp -implicitDefEqProofs (maxDischargeDepth := 6)
  exact hK _ _ ⟨rfl, rfl⟩
 rintro a σ ⟨rfl, rfl⟩
 refine gWkC AWP_ref (o := N0) (ob := ⟨48, 4, [[.nilsl, .nilsl, .nilsl, .bool false]]⟩) (row := [.nilsl, .nilsl, .nilsl, .bool false]) (r := 0) (i := 0) [(N0, some ⟨48, 4, [[.fsl [], .nilsl, .nilsl, .bool false]]⟩)] (by simp (disch := omega)) rfl rfl (by simp (disch := omega)) (by simp (disch := omega) [encL_nil, List.set_set, app_set]) ?_
 refine gPk0 AWP_ref (o := N0) (ob := ⟨48, 4, [[.fsl [], .nilsl, .nilsl, .bool false]]⟩) (row := [.fsl [], .nilsl, .nilsl, .bool false]) (r := 0) (i := 1) 22 1 [(N0, some ⟨48, 4, [[.fsl [], .osl 22 1 (encL rL_I ([] : List (List Int))), .nilsl, .bool false]]⟩)] (by simp (disch := omega)) rfl rfl (by simp (disch := omega)) (by simp (disch := omega) [encL_nil, List.set_set, app_set]) ?_
 refine gPk0 AWP_ref (o := N0) (ob := ⟨48, 4, [[.fsl [], .osl 22 1 (encL rL_I ([] : List (List Int))), .nilsl, .bool false]]⟩) (row := [.fsl [], .osl 22 1 (encL rL_I ([] : List (List Int))), .nilsl, .bool false]) (r := 0) (i := 2) 4 1 [(N0, some ⟨48, 4, [[.fsl [], .osl 22 1 (encL rL_I ([] : List (List Int))), .osl 4 1 (encL rB ([] : List Bool)), .bool false]]⟩)] (by simp (disch := omega)) rfl rfl (by simp (disch := omega)) (by simp (disch := omega) [encL_nil, List.set_set, app_set]) ?_
 obtain ⟨r1, hr1, H⟩ := bindE H
 refine AWP_sr tok [3] [1, 6, 7] (fun a σ => a = [(1, .fsl (encL rBox p1)), (6, .ptr N0 0 0), (7, .ptr (N0 + 5) 0 0)] ∧ σ = hp E0 [(N0, some ⟨48, 4, [[.fsl [], .osl 22 1 (encL rL_I ([] : List (List Int))), .osl 4 1 (encL rB ([] : List Bool)), .bool false]]⟩), (N0 + 5, some ⟨48, 4, [[.fsl (encL rI r1), .nilsl, .nilsl, .bool p2]]⟩)] (N0 + 7)) (fun K hK => ?_) ?_
 ·
  skip
  simp -dsimp -implicitDefEqProofs (maxDischargeDepth := 6)
  refine (c79 hr1).app ?_; try simp -dsimp -implicitDefEqProofs (maxDischargeDepth := 6)
  exact hK _ _ ⟨rfl, rfl⟩
 rintro a σ ⟨rfl, rfl⟩
 refine AWP_sq [6, 7] fun K1 hK1 => ?_
 refine AWP_sr tok [] [6, 7, 14, 15, 16] (fun a σ => a = [(6, .ptr N0 0 0), (7, .ptr (N0 + 5) 0 0), (14, .fsl (encL rBox p1)), (15, .int .i64 (ilen p1)), (16, .int .i64 0)] ∧ σ = hp E0 [(N0, some ⟨48, 4, [[.fsl [], .osl 22 1 (encL rL_I ([] : List (List Int))), .osl 4 1 (encL rB ([] : List Bool)), .bool false]]⟩), (N0 + 5, some ⟨48, 4, [[.fsl (encL rI r1), .nilsl, .nilsl, .bool p2]]⟩)] (N0 + 10)) (fun K hK => ?_) ?_
 ·
  skip
  simp -dsimp -implicitDefEqProofs (maxDischargeDepth := 6)
  exact hK _ _ ⟨rfl, rfl⟩
 rintro a σ ⟨rfl, rfl⟩
 refine AWP_block (AWP_thenB ?_)
 obtain ⟨e1, hse1, H⟩ := bindE H
 refine AWP_lp [6, 7, 14, 15, 16] (fun s a σ => ∃ M1 o1 o2 : Nat, N0 ≤ M1 ∧ N0 ≤ o1 ∧ o1 < M1 ∧ N0 ≤ o2 ∧ o2 < M1 ∧ ¬ o1 = o2 ∧ a = [(6, .ptr o1 0 0), (7, .ptr o2 0 0), (14, .fsl (encL rBox p1)), (15, .int .i64 (ilen p1)), (16, .int .i64 s.1)] ∧ σ = hp E0 [(o1, some ⟨48, 4, [[.fsl (encL rI s.2.1.Out), .osl 22 1 (encL rL_I s.2.1.Items), .osl 4 1 (encL rB s.2.1.Ended), .bool s.2.1.Rest]]⟩), (o2, some ⟨48, 4, [[.fsl (encL rI s.2.2.Out), .osl 22 1 (encL rL_I s.2.2.Items), .osl 4 1 (encL rB s.2.2.Ended), .bool s.2.2.Rest]]⟩)] M1) (fun s x a σ => x = .exit 0 ∧ Rc G 30 N0 (fun a σ => ∃ M2 o3 o4 : Nat, N0 ≤ M2 ∧ N0 ≤ o3 ∧ o3 < M2 ∧ N0 ≤ o4 ∧ o4 < M2 ∧ ¬ o3 = o4 ∧ a = [(6, .ptr o3 0 0), (7, .ptr o4 0 0)] ∧ σ = hp E0 [(o3, some ⟨48, 4, [[.fsl (encL rI s.1.Out), .osl 22 1 (encL rL_I s.1.Items), .osl 4 1 (encL rB s.1.Ended), .bool s.1.Rest]]⟩), (o4, some ⟨48, 4, [[.fsl (encL rI s.2.Out), .osl 22 1 (encL rL_I s.2.Items), .osl 4 1 (encL rB s.2.Ended), .bool s.2.Rest]]⟩)] M2) (AAct.keep a [6, 7]) σ) hse1 ?_ ?_ ?_
 ·
  refine Rc.kp [6, 7, 14, 15, 16] [(6, .ptr N0 0 0), (7, .ptr (N0 + 5) 0 0), (14, .fsl (encL rBox p1)), (15, .int .i64 (ilen p1)), (16, .int .i64 0)] rfl ?_
  refine gPk0 Rc_ref (o := (N0 + 5)) (ob := ⟨48, 4, [[.fsl (encL rI r1), .nilsl, .nilsl, .bool p2]]⟩) (row := [.fsl (encL rI r1), .nilsl, .nilsl, .bool p2]) (r := 0) (i := 1) 22 1 [(N0, some ⟨48, 4, [[.fsl [], .osl 22 1 (encL rL_I ([] : List (List Int))), .osl 4 1 (encL rB ([] : List Bool)), .bool false]]⟩), (N0 + 5, some ⟨48, 4, [[.fsl (encL rI r1), .osl 22 1 (encL rL_I ([] : List (List Int))), .nilsl, .bool p2]]⟩)] (by simp (disch := omega)) rfl rfl (by simp (disch := omega)) (by simp (disch := omega) [encL_nil, List.set_set, app_set]) ?_
  refine gPk0 Rc_ref (o := (N0 + 5)) (ob := ⟨48, 4, [[.fsl (encL rI r1), .osl 22 1 (encL rL_I ([] : List (List Int))), .nilsl, .bool p2]]⟩) (row := [.fsl (encL rI r1), .osl 22 1 (encL rL_I ([] : List (List Int))), .nilsl, .bool p2]) (r := 0) (i := 2) 4 1 [(N0, some ⟨48, 4, [[.fsl [], .osl 22 1 (encL rL_I ([] : List (List Int))), .osl 4 1 (encL rB ([] : List Bool)), .bool false]]⟩), (N0 + 5, some ⟨48, 4, [[.fsl (encL rI r1), .osl 22 1 (encL rL_I ([] : List (List Int))), .osl 4 1 (encL rB ([] : List Bool)), .bool p2]]⟩)] (by simp (disch := omega)) rfl rfl (by simp (disch := omega)) (by simp (disch := omega) [encL_nil, List.set_set, app_set]) ?_
  exact Rc.fin (AHeap.Sub.refl _) ⟨N0 + 10, N0, (N0 + 5), (by omega), (by omega), (by omega), (by omega), (by omega), (by omega), rfl, rfl⟩
 ·
  clear H hse1
  rintro ⟨s2, s3, s4⟩ fl a σ H ⟨M1, o1, o2, fM1_0, fM1_1, fM1_2, fM1_3, fM1_4, fM1_5, rfl, rfl⟩ K2 O2 hK2 hO2
  unfold i_outcomeOf_o_L1 at H; dsimp only at H
  refine AWP_sr tok [] [6, 7, 14, 15, 16, 17] (fun a σ => a = [(6, .ptr o1 0 0), (7, .ptr o2 0 0), (14, .fsl (encL rBox p1)), (15, .int .i64 (ilen p1)), (16, .int .i64 s2), (17, .bool (ilt s2 (ilen p1)))] ∧ σ = hp E0 [(o1, some ⟨48, 4, [[.fsl (encL rI s3.Out), .osl 22 1 (encL rL_I s3.Items), .osl 4 1 (encL rB s3.Ended), .bool s3.Rest]]⟩), (o2, some ⟨48, 4, [[.fsl (encL rI s4.Out), .osl 22 1 (encL rL_I s4.Items), .osl 4 1 (encL rB s4.Ended), .bool s4.Rest]]⟩)] (M1 + 1)) (fun K hK => ?_) ?_
  ·
   skip
   have e0 := nq (a := o1) (b := o2) (by omega)
   simp -dsimp -implicitDefEqProofs (maxDischargeDepth := 6) [e0]
   exact hK _ _ ⟨rfl, rfl⟩
  rintro a σ ⟨rfl, rfl⟩
  refine AWP_sq [6, 7, 14, 15, 16] fun K3 hK3 => ?_
  refine AWP_cond (ilt s2 (ilen p1)) rfl (fun C1 => ?_) (fun C1 => ?_)
  ·
   replace H := ifT C1 H
   refine AWP_skip ?_
   show K3 _ _
   refine keepE (l := [6, 7, 14, 15, 16]) (x := [(6, .ptr o1 0 0), (7, .ptr o2 0 0), (14, .fsl (encL rBox p1)), (15, .int .i64 (ilen p1)), (16, .int .i64 s2)]) rfl fun a' ha => ?_
   refine hK3 _ _ ?_; rw [ha]
   refine Rc.mk ?_
   refine AWP_sq [6, 7, 14, 15, 16] fun K4 hK4 => ?_
   refine AWP_block (AWP_thenB ?_)
   obtain ⟨v7, hv7, H⟩ := bindE H
   refine AWP_sr tok [] [6, 7, 9, 14, 15, 16] (fun a σ => a = [(6, .ptr o1 0 0), (7, .ptr o2 0 0), (9, .ptr (M1 + 3) 0 0), (14, .fsl (encL rBox p1)), (15, .int .i64 (ilen p1)), (16, .int .i64 s2)] ∧ σ = hp E0 [(o1, some ⟨48, 4, [[.fsl (encL rI s3.Out), .osl 22 1 (encL rL_I s3.Items), .osl 4 1 (encL rB s3.Ended), .bool s3.Rest]]⟩), (o2, some ⟨48, 4, [[.fsl (encL rI s4.Out), .osl 22 1 (encL rL_I s4.Items), .osl 4 1 (encL rB s4.Ended), .bool s4.Rest]]⟩), (M1 + 3, some ⟨64, 2, [[.int .i64 v7.Room, .fsl (encL rI v7.Items)]]⟩)] (M1 + 5)) (fun K hK => ?_) ?_
   ·
    skip
    have e0 := nq (a := o1) (b := o2) (by omega)
    have e1 := nq (a := o1) (b := M1 + 3) (by omega)
    have e2 := nq (a := o2) (b := M1 + 3) (by omega)
    simp -dsimp -implicitDefEqProofs (maxDischargeDepth := 6) [e0, e1, e2, ix29 hv7]
    exact hK _ _ ⟨rfl, rfl⟩
   rintro a σ ⟨rfl, rfl⟩
   refine gUnp AWP_ref (ty := 22) (sz := 1) (es := encL rL_I s4.Items) (o := o2) (ob := ⟨48, 4, [[.fsl (encL rI s4.Out), .osl 22 1 (encL rL_I s4.Items), .osl 4 1 (encL rB s4.Ended), .bool s4.Rest]]⟩) (row := [.fsl (encL rI s4.Out), .osl 22 1 (encL rL_I s4.Items), .osl 4 1 (encL rB s4.Ended), .bool s4.Rest]) (r := 0) (i := 1) [(o1, some ⟨48, 4, [[.fsl (encL rI s3.Out), .osl 22 1 (encL rL_I s3.Items), .osl 4 1 (encL rB s3.Ended), .bool s3.Rest]]⟩), (o2, some ⟨48, 4, [[.fsl (encL rI s4.Out), .sl (M1 + 5) 0 s4.Items.length, .osl 4 1 (encL rB s4.Ended), .bool s4.Rest]]⟩), (M1 + 3, some ⟨64, 2, [[.int .i64 v7.Room, .fsl (encL rI v7.Items)]]⟩), (M1 + 5, some ⟨22, 1, encL rL_I s4.Items⟩)] (by simp (disch := omega)) rfl rfl (by simp (disch := omega) [List.set_set]) ?_
   obtain ⟨r8, hr8, H⟩ := bindE H
   obtain ⟨l9, hl9, H⟩ := bindE H
   have q0 : ∀ σ i, buildSliceA T 45 true i 1 [(0, .fsl (encL rI r8))] σ = some (.fsl (encL rL_I ([r8] : List (List Int))), σ) := fun _ _ => rfl
   refine AWP_rd tok tokM [5] [1, 3, 6, 8] [0, 2, 3, 4, 5, 1, 6, 7, 8] [6, 7, 14, 15, 16] (fun a σ => a = [(6, .ptr o1 0 0), (7, .ptr o2 0 0), (14, .fsl (encL rBox p1)), (15, .int .i64 (ilen p1)), (16, .int .i64 s2)] ∧ σ = hp E0 [(o1, some ⟨48, 4, [[.fsl (encL rI s3.Out), .osl 22 1 (encL rL_I s3.Items), .osl 4 1 (encL rB s3.Ended), .bool s3.Rest]]⟩), (o2, some ⟨48, 4, [[.fsl (encL rI s4.Out), .sl (M1 + 12) 0 l9.length, .osl 4 1 (encL rB s4.Ended), .bool s4.Rest]]⟩), (M1 + 3, some ⟨64, 2, [[.int .i64 v7.Room, .fsl (encL rI v7.Items)]]⟩), (M1 + 12, some ⟨22, 1, encL rL_I l9⟩)] (M1 + 15)) (by decide) (fun K hK => ?_) ?_
   ·
    simp only [pickL, nthO_succ, nthO_zero]
    have e0 := nq (a := o1) (b := o2) (by omega)
    have e1 := nq (a := o1) (b := M1 + 3) (by omega)
    have e2 := nq (a := o1) (b := M1 + 5) (by omega)
    have e3 := nq (a := o1) (b := M1 + 12) (by omega)
    have e4 := nq (a := o2) (b := M1 + 3) (by omega)
    have e5 := nq (a := o2) (b := M1 + 5) (by omega)
    have e6 := nq (a := o2) (b := M1 + 12) (by omega)
    simp -dsimp -implicitDefEqProofs (maxDischargeDepth := 6) [e0, e1, e2, e3, e4, e5, e6, q0, app45 hl9]
    refine Pc.mk (c79 hr8) ?_; try simp -dsimp -implicitDefEqProofs (maxDischargeDepth := 6) [e0, e1, e2, e3, e4, e5, e6, q0, app45 hl9]
    exact hK _ _ ⟨rfl, rfl⟩
   rintro a σ ⟨ha, rfl⟩
   refine hK4 _ _ ?_; rw [ha]
   refine Rc.mk ?_
   refine AWP_rt tok [] [6, 7, 14, 15, 16] (fun a σ => a = [(6, .ptr o1 0 0), (7, .ptr o2 0 0), (14, .fsl (encL rBox p1)), (15, .int .i64 (ilen p1)), (16, .int .i64 (iadd .i64 s2 1))] ∧ σ = hp E0 [(o1, some ⟨48, 4, [[.fsl (encL rI s3.Out), .osl 22 1 (encL rL_I s3.Items), .osl 4 1 (encL rB s3.Ended), .bool s3.Rest]]⟩), (o2, some ⟨48, 4, [[.fsl (encL rI s4.Out), .sl (M1 + 12) 0 l9.length, .osl 4 1 (encL rB s4.Ended), .bool s4.Rest]]⟩), (M1 + 3, some ⟨64, 2, [[.int .i64 v7.Room, .fsl (encL rI v7.Items)]]⟩), (M1 + 12, some ⟨22, 1, encL rL_I l9⟩)] (M1 + 17)) (fun K hK => ?_) ?_
   ·
    skip
    have e0 := nq (a := o1) (b := o2) (by omega)
    have e1 := nq (a := o1) (b := M1 + 3) (by omega)
    have e2 := nq (a := o1) (b := M1 + 12) (by omega)
    have e3 := nq (a := o2) (b := M1 + 3) (by omega)
    have e4 := nq (a := o2) (b := M1 + 12) (by omega)
    simp -dsimp -implicitDefEqProofs (maxDischargeDepth := 6) [e0, e1, e2, e3, e4]
    exact hK _ _ ⟨rfl, rfl⟩
   rintro a σ ⟨ha, rfl⟩
   replace H := Option.some.inj H; subst H
   refine hK2 _ _ _ rfl ?_; rw [ha]
   refine gPk Rc_ref (k := l9.length) (o := o2) (ob := ⟨48, 4, [[.fsl (encL rI s4.Out), .sl (M1 + 12) 0 l9.length, .osl 4 1 (encL rB s4.Ended), .bool s4.Rest]]⟩) (row := [.fsl (encL rI s4.Out), .sl (M1 + 12) 0 l9.length, .osl 4 1 (encL rB s4.Ended), .bool s4.Rest]) (d := (M1 + 12)) (obd := ⟨22, 1, encL rL_I l9⟩) (r := 0) (i := 1) [(o1, some ⟨48, 4, [[.fsl (encL rI s3.Out), .osl 22 1 (encL rL_I s3.Items), .osl 4 1 (encL rB s3.Ended), .bool s3.Rest]]⟩), (o2, some ⟨48, 4, [[.fsl (encL rI s4.Out), .osl 22 1 (encL rL_I l9), .osl 4 1 (encL rB s4.Ended), .bool s4.Rest]]⟩), (M1 + 3, some ⟨64, 2, [[.int .i64 v7.Room, .fsl (encL rI v7.Items)]]⟩)] (by simp (disch := omega)) rfl rfl (by simp (disch := omega)) (by simp (disch := omega)) (by first | omega | simp) (by simp (disch := omega) [List.set_set, app_set] <;> omega) (by simp (disch := omega) [List.set_set, app_set]) ?_
   exact Rc.fin (hp_skip (hp_skip (AHeap.Sub.trans (AHeap.Sub.refl _) (hp_drop rfl (by simp; try omega))))) ⟨M1 + 17, o1, o2, (by omega), (by omega), (by omega), (by omega), (by omega), (by omega), rfl, rfl⟩
  ·
   replace H := ifF C1 H
   replace H := Option.some.inj H; subst H
   refine AWP_exit (hO2 _ _ _ _ rfl ⟨rfl, ?_⟩)
   refine Rc.rw (l := [6, 7]) (X := [(6, .ptr o1 0 0), (7, .ptr o2 0 0)]) rfl ?_
   exact Rc.fin (AHeap.Sub.refl _) ⟨M1 + 1, o1, o2, (by omega), (by omega), (by omega), (by omega), (by omega), (by omega), rfl, rfl⟩
 ·
  intro x a σ hx
  obtain ⟨y5, y6⟩ := e1
  obtain ⟨rfl, b, τ, hr, M2, o3, o4, fM2_0, fM2_1, fM2_2, fM2_3, fM2_4, fM2_5, rfl, rfl⟩ := hx
  dsimp only at H
  show K1 _ _
  refine hK1 _ _ (Rc_ref hr ?_)
  refine Rc.mk ?_
  refine gUnp AWP_ref (ty := 22) (sz := 1) (es := encL rL_I y6.Items) (o := o4) (ob := ⟨48, 4, [[.fsl (encL rI y6.Out), .osl 22 1 (encL rL_I y6.Items), .osl 4 1 (encL rB y6.Ended), .bool y6.Rest]]⟩) (row := [.fsl (encL rI y6.Out), .osl 22 1 (encL rL_I y6.Items), .osl 4 1 (encL rB y6.Ended), .bool y6.Rest]) (r := 0) (i := 1) [(o3, some ⟨48, 4, [[.fsl (encL rI y5.Out), .osl 22 1 (encL rL_I y5.Items), .osl 4 1 (encL rB y5.Ended), .bool y5.Rest]]⟩), (o4, some ⟨48, 4, [[.fsl (encL rI y6.Out), .sl M2 0 y6.Items.length, .osl 4 1 (encL rB y6.Ended), .bool y6.Rest]]⟩), (M2, some ⟨22, 1, encL rL_I y6.Items⟩)] (by simp (disch := omega)) rfl rfl (by simp (disch := omega) [List.set_set]) ?_
  refine gUnp AWP_ref (ty := 4) (sz := 1) (es := encL rB y6.Ended) (o := o4) (ob := ⟨48, 4, [[.fsl (encL rI y6.Out), .sl M2 0 y6.Items.length, .osl 4 1 (encL rB y6.Ended), .bool y6.Rest]]⟩) (row := [.fsl (encL rI y6.Out), .sl M2 0 y6.Items.length, .osl 4 1 (encL rB y6.Ended), .bool y6.Rest]) (r := 0) (i := 2) [(o3, some ⟨48, 4, [[.fsl (encL rI y5.Out), .osl 22 1 (encL rL_I y5.Items), .osl 4 1 (encL rB y5.Ended), .bool y5.Rest]]⟩), (o4, some ⟨48, 4, [[.fsl (encL rI y6.Out), .sl M2 0 y6.Items.length, .sl (M2 + 1) 0 y6.Ended.length, .bool y6.Rest]]⟩), (M2, some ⟨22, 1, encL rL_I y6.Items⟩), (M2 + 1, some ⟨4, 1, encL rB y6.Ended⟩)] (by simp (disch := omega)) rfl rfl (by simp (disch := omega) [List.set_set]) ?_
  refine AWP_sr tok [] [6] (fun a σ => a = [(6, .ptr o3 0 0)] ∧ σ = hp E0 [(o3, some ⟨48, 4, [[.fsl (encL rI y6.Out), .sl M2 0 y6.Items.length, .sl (M2 + 1) 0 y6.Ended.length, .bool y6.Rest]]⟩), (o4, some ⟨48, 4, [[.fsl (encL rI y6.Out), .sl M2 0 y6.Items.length, .sl (M2 + 1) 0 y6.Ended.length, .bool y6.Rest]]⟩), (M2, some ⟨22, 1, encL rL_I y6.Items⟩), (M2 + 1, some ⟨4, 1, encL rB y6.Ended⟩)] (M2 + 4)) (fun K hK => ?_) ?_
  ·
   skip
   have e0 := nq (a := o3) (b := o4) (by omega)
   have e1 := nq (a := o3) (b := M2) (by omega)
   have e2 := nq (a := o3) (b := M2 + 1) (by omega)
   have e3 := nq (a := o4) (b := M2) (by omega)
   have e4 := nq (a := o4) (b := M2 + 1) (by omega)
   simp -dsimp -implicitDefEqProofs (maxDischargeDepth := 6) [e0, e1, e2, e3, e4]
   exact hK _ _ ⟨rfl, rfl⟩
  rintro a σ ⟨rfl, rfl⟩
  replace H := Option.some.inj H; subst H
  refine AWP_kp [6] [(6, .ptr o3 0 0)] rfl ?_
  refine gDrop AWP_ref [(o3, some ⟨48, 4, [[.fsl (encL rI y6.Out), .sl M2 0 y6.Items.length, .sl (M2 + 1) 0 y6.Ended.length, .bool y6.Rest]]⟩), (M2, some ⟨22, 1, encL rL_I y6.Items⟩), (M2 + 1, some ⟨4, 1, encL rB y6.Ended⟩)] (hp_skip (AHeap.Sub.trans (hp_skip (hp_skip (AHeap.Sub.refl _))) (hp_drop rfl (by simp; try omega)))) ?_
  refine gPk AWP_ref (k := y6.Items.length) (o := o3) (ob := ⟨48, 4, [[.fsl (encL rI y6.Out), .sl M2 0 y6.Items.length, .sl (M2 + 1) 0 y6.Ended.length, .bool y6.Rest]]⟩) (row := [.fsl (encL rI y6.Out), .sl M2 0 y6.Items.length, .sl (M2 + 1) 0 y6.Ended.length, .bool y6.Rest]) (d := M2) (obd := ⟨22, 1, encL rL_I y6.Items⟩) (r := 0) (i := 1) [(o3, some ⟨48, 4, [[.fsl (encL rI y6.Out), .osl 22 1 (encL rL_I y6.Items), .sl (M2 + 1) 0 y6.Ended.length, .bool y6.Rest]]⟩), (M2 + 1, some ⟨4, 1, encL rB y6.Ended⟩)] (by simp (disch := omega)) rfl rfl (by simp (disch := omega)) (by simp (disch := omega)) (by first | omega | simp) (by simp (disch := omega) [List.set_set, app_set] <;> omega) (by simp (disch := omega) [List.set_set, app_set]) ?_
  refine gPk AWP_ref (k := y6.Ended.length) (o := o3) (ob := ⟨48, 4, [[.fsl (encL rI y6.Out), .osl 22 1 (encL rL_I y6.Items), .sl (M2 + 1) 0 y6.Ended.length, .bool y6.Rest]]⟩) (row := [.fsl (encL rI y6.Out), .osl 22 1 (encL rL_I y6.Items), .sl (M2 + 1) 0 y6.Ended.length, .bool y6.Rest]) (d := (M2 + 1)) (obd := ⟨4, 1, encL rB y6.Ended⟩) (r := 0) (i := 2) [(o3, some ⟨48, 4, [[.fsl (encL rI y6.Out), .osl 22 1 (encL rL_I y6.Items), .osl 4 1 (encL rB y6.Ended), .bool y6.Rest]]⟩)] (by simp (disch := omega)) rfl rfl (by simp (disch := omega)) (by simp (disch := omega)) (by first | omega | simp) (by simp (disch := omega) [List.set_set, app_set] <;> omega) (by simp (disch := omega) [List.set_set, app_set]) ?_
  refine gUnp AWP_ref (ty := 22) (sz := 1) (es := encL rL_I y6.Items) (o := o3) (ob := ⟨48, 4, [[.fsl (encL rI y6.Out), .osl 22 1 (encL rL_I y6.Items), .osl 4 1 (encL rB y6.Ended), .bool y6.Rest]]⟩) (row := [.fsl (encL rI y6.Out), .osl 22 1 (encL rL_I y6.Items), .osl 4 1 (encL rB y6.Ended), .bool y6.Rest]) (r := 0) (i := 1) [(o3, some ⟨48, 4, [[.fsl (encL rI y6.Out), .sl (M2 + 4) 0 y6.Items.length, .osl 4 1 (encL rB y6.Ended), .bool y6.Rest]]⟩), (M2 + 4, some ⟨22, 1, encL rL_I y6.Items⟩)] (by simp (disch := omega)) rfl rfl (by simp (disch := omega) [List.set_set]) ?_
  refine gUnp AWP_ref (ty := 4) (sz := 1) (es := encL rB y6.Ended) (o := o3) (ob := ⟨48, 4, [[.fsl (encL rI y6.Out), .sl (M2 + 4) 0 y6.Items.length, .osl 4 1 (encL rB y6.Ended), .bool y6.Rest]]⟩) (row := [.fsl (encL rI y6.Out), .sl (M2 + 4) 0 y6.Items.length, .osl 4 1 (encL rB y6.Ended), .bool y6.Rest]) (r := 0) (i := 2) [(o3, some ⟨48, 4, [[.fsl (encL rI y6.Out), .sl (M2 + 4) 0 y6.Items.length, .sl (M2 + 5) 0 y6.Ended.length, .bool y6.Rest]]⟩), (M2 + 4, some ⟨22, 1, encL rL_I y6.Items⟩), (M2 + 5, some ⟨4, 1, encL rB y6.Ended⟩)] (by simp (disch := omega)) rfl rfl (by simp (disch := omega) [List.set_set]) ?_
  have z0 := nq (a := o3) (b := M2 + 4) (by omega)
  have z1 := nq (a := o3) (b := M2 + 5) (by omega)
  refine AWP_ret ?_
  refine ⟨[.agg [.fsl (encL rI y6.Out), .sl (M2 + 4) 0 y6.Items.length, .sl (M2 + 5) 0 y6.Ended.length, .bool y6.Rest]], by simp [z0, z1], (fun o => [o3, M2 + 4].contains o), M2 + 6, M2 + 5, by omega, by omega, by omega, ?_, ?_⟩
  ·
   simp [encL_nil, z0, z1]
  ·
   rw [cutD (L' := [(M2 + 5, some ⟨4, 1, encL rB y6.Ended⟩)]) (by simp [z0, z1])]
   first | done | rfl | simp [List.set_set]
theorem c26 {p0 : gSquad} {r : gOutcome} (H : i_SquadOutcome p0 = some r) : APure Try.prog G 26 [.agg [.fsl (encL rMachine p0.Harts), .fsl (encL rBox p0.Boxes), .int .i64 p0.Turn, .int .i64 p0.Idle, .fsl (encL rI p0.Out)]] (.agg [.fsl (encL rI r.Out), .fsl (encL rL_I r.Items), .fsl (encL rB r.Ended), .bool r.Rest]) := by
 refine APure_fn (fun N0 => ?_) (by simp)
 refine ACalls_fn tok Try.func26 (by kernel_rfl) rfl Try.ntmps26 Try.results26 rfl ?_
 simp only [argsA, Nat.reduceAdd, hp_next]
 unfold i_SquadOutcome at H
 refine AWP_sr tok [0] [1, 2] (fun a σ => a = [(1, .fptr [.fsl (encL rMachine p0.Harts), .fsl (encL rBox p0.Boxes), .int .i64 p0.Turn, .int .i64 p0.Idle, .fsl (encL rI p0.Out)] 0), (2, .ptr (N0 + 1) 0 0)] ∧ σ = hp E0 [(N0 + 1, some ⟨48, 4, [[.nilsl, .nilsl, .nilsl, .bool false]]⟩)] (N0 + 2)) (fun K hK => ?_) ?_
 ·
  skip
  simp -dsimp -implicitDefEqProofs (maxDischargeDepth := 6)
  exact hK _ _ ⟨rfl, rfl⟩
 rintro a σ ⟨rfl, rfl⟩
 refine AWP_sq [1, 2] fun K1 hK1 => ?_
 refine gWkC AWP_ref (o := (N0 + 1)) (ob := ⟨48, 4, [[.nilsl, .nilsl, .nilsl, .bool false]]⟩) (row := [.nilsl, .nilsl, .nilsl, .bool false]) (r := 0) (i := 0) [(N0 + 1, some ⟨48, 4, [[.fsl [], .nilsl, .nilsl, .bool false]]⟩)] (by simp (disch := omega)) rfl rfl (by simp (disch := omega)) (by simp (disch := omega) [encL_nil, List.set_set, app_set]) ?_
 refine gWkC AWP_ref (o := (N0 + 1)) (ob := ⟨48, 4, [[.fsl [], .nilsl, .nilsl, .bool false]]⟩) (row := [.fsl [], .nilsl, .nilsl, .bool false]) (r := 0) (i := 1) [(N0 + 1, some ⟨48, 4, [[.fsl [], .fsl [], .nilsl, .bool false]]⟩)] (by simp (disch := omega)) rfl rfl (by simp (disch := omega)) (by simp (disch := omega) [encL_nil, List.set_set, app_set]) ?_
 refine gWkC AWP_ref (o := (N0 + 1)) (ob := ⟨48, 4, [[.fsl [], .fsl [], .nilsl, .bool false]]⟩) (row := [.fsl [], .fsl [], .nilsl, .bool false]) (r := 0) (i := 2) [(N0 + 1, some ⟨48, 4, [[.fsl [], .fsl [], .fsl [], .bool false]]⟩)] (by simp (disch := omega)) rfl rfl (by simp (disch := omega)) (by simp (disch := omega) [encL_nil, List.set_set, app_set]) ?_
 obtain ⟨r1, hr1, H⟩ := bindE H
 refine AWP_sr tok [] [1, 2, 8] (fun a σ => a = [(1, .fptr [.fsl (encL rMachine p0.Harts), .fsl (encL rBox p0.Boxes), .int .i64 p0.Turn, .int .i64 p0.Idle, .fsl (encL rI p0.Out)] 0), (2, .ptr (N0 + 1) 0 0), (8, .bool (bnot r1))] ∧ σ = hp E0 [(N0 + 1, some ⟨48, 4, [[.fsl [], .fsl [], .fsl [], .bool false]]⟩)] (N0 + 5)) (fun K hK => ?_) ?_
 ·
  skip
  simp -dsimp -implicitDefEqProofs (maxDischargeDepth := 6)
  refine (c60 hr1).app ?_; try simp -dsimp -implicitDefEqProofs (maxDischargeDepth := 6)
  exact hK _ _ ⟨rfl, rfl⟩
 rintro a σ ⟨rfl, rfl⟩
 refine AWP_cond (bnot r1) rfl (fun C1 => ?_) (fun C1 => ?_)
 ·
  replace H := ifT C1 H
  refine AWP_sr tok [] [2] (fun a σ => a = [(2, .ptr (N0 + 1) 0 0)] ∧ σ = hp E0 [(N0 + 1, some ⟨48, 4, [[.fsl [], .fsl [], .fsl [], .bool false]]⟩)] (N0 + 7)) (fun K hK => ?_) ?_
  ·
   skip
   simp -dsimp -implicitDefEqProofs (maxDischargeDepth := 6)
   exact hK _ _ ⟨rfl, rfl⟩
  rintro a σ ⟨rfl, rfl⟩
  replace H := Option.some.inj H; subst H
  refine AWP_kp [2] [(2, .ptr (N0 + 1) 0 0)] rfl ?_
  refine AWP_ret ?_
  exact ⟨[.agg [.fsl [], .fsl [], .fsl [], .bool false]], by simp, 4, by simp [encL_nil]⟩
 ·
  replace H := ifF C1 H
  refine AWP_skip ?_
  show K1 _ _
  refine keepE (l := [1, 2]) (x := [(1, .fptr [.fsl (encL rMachine p0.Harts), .fsl (encL rBox p0.Boxes), .int .i64 p0.Turn, .int .i64 p0.Idle, .fsl (encL rI p0.Out)] 0), (2, .ptr (N0 + 1) 0 0)]) rfl fun a' ha => ?_
  refine hK1 _ _ ?_; rw [ha]
  refine Rc.mk ?_
  obtain ⟨r2, hr2, H⟩ := bindE H
  refine AWP_sr tok [] [1, 2, 3] (fun a σ => ∃ M1 o1 : Nat, N0 + 18 ≤ M1 ∧ N0 + 18 ≤ o1 ∧ o1 < M1 ∧ a = [(1, .fptr [.fsl (encL rMachine p0.Harts), .fsl (encL rBox p0.Boxes), .int .i64 p0.Turn, .int .i64 p0.Idle, .fsl (encL rI p0.Out)] 0), (2, .ptr (N0 + 1) 0 0), (3, .ptr (N0 + 16) 0 0)] ∧ σ = hp E0 [(N0 + 1, some ⟨48, 4, [[.fsl [], .fsl [], .fsl [], .bool false]]⟩), (o1, some ⟨4, 1, encL rB r2.Ended⟩), (N0 + 16, some ⟨48, 4, [[.fsl (encL rI r2.Out), .fsl (encL rL_I r2.Items), .sl o1 0 r2.Ended.length, .bool r2.Rest]]⟩)] M1) (fun K hK => ?_) ?_
  ·
   skip
   simp -dsimp -implicitDefEqProofs (maxDischargeDepth := 6)
   refine (c61_o (H := hr2) ).mono ?_; rintro _ _ ⟨M1, o1, fM1_0, fM1_1, fM1_2, rfl, rfl⟩; simp only [hp_next] at fM1_0 fM1_1 fM1_2
   have eM1_0 := nq (a := o1) (b := N0 + 1) (by omega)
   have eM1_1 := nq (a := o1) (b := N0 + 16) (by omega)
   try simp -dsimp -implicitDefEqProofs (maxDischargeDepth := 6) [eM1_0, eM1_1, hp_over_some, hp_over_none]
   exact hK _ _ ⟨M1, o1, (by omega), (by omega), (by omega), rfl, rfl⟩
  rintro a σ ⟨M1, o1, fM1_0, fM1_1, fM1_2, rfl, rfl⟩
  refine AWP_sq [2, 3] fun K2 hK2 => ?_
  refine AWP_sr tok [] [2, 3, 22, 23, 24] (fun a σ => a = [(2, .ptr (N0 + 1) 0 0), (3, .ptr (N0 + 16) 0 0), (22, .fsl (encL rMachine p0.Harts)), (23, .int .i64 (ilen p0.Harts)), (24, .int .i64 0)] ∧ σ = hp E0 [(N0 + 1, some ⟨48, 4, [[.fsl [], .fsl [], .fsl [], .bool false]]⟩), (o1, some ⟨4, 1, encL rB r2.Ended⟩), (N0 + 16, some ⟨48, 4, [[.fsl (encL rI r2.Out), .fsl (encL rL_I r2.Items), .sl o1 0 r2.Ended.length, .bool r2.Rest]]⟩)] (M1 + 4)) (fun K hK => ?_) ?_
  ·
   skip
   have e0 := nq (a := N0 + 1) (b := o1) (by omega)
   have e1 := nq (a := o1) (b := N0 + 16) (by omega)
   simp -dsimp -implicitDefEqProofs (maxDischargeDepth := 6) [e0, e1]
   exact hK _ _ ⟨rfl, rfl⟩
  rintro a σ ⟨rfl, rfl⟩
  refine AWP_block (AWP_thenB ?_)
  obtain ⟨e1, hse1, H⟩ := bindE H
  refine AWP_lp [2, 3, 22, 23, 24] (fun s a σ => ∃ M2 o2 o3 : Nat, N0 ≤ M2 ∧ N0 ≤ o2 ∧ o2 < M2 ∧ N0 ≤ o3 ∧ o3 < M2 ∧ ¬ o2 = o3 ∧ a = [(2, .ptr o2 0 0), (3, .ptr o3 0 0), (22, .fsl (encL rMachine p0.Harts)), (23, .int .i64 (ilen p0.Harts)), (24, .int .i64 s.1)] ∧ σ = hp E0 [(o2, some ⟨48, 4, [[.fsl (encL rI s.2.1.Out), .fsl (encL rL_I s.2.1.Items), .fsl (encL rB s.2.1.Ended), .bool s.2.1.Rest]]⟩), (o3, some ⟨48, 4, [[.fsl (encL rI s.2.2.Out), .fsl (encL rL_I s.2.2.Items), .osl 4 1 (encL rB s.2.2.Ended), .bool s.2.2.Rest]]⟩)] M2) (fun s x a σ => x = .exit 0 ∧ Rc G 45 N0 (fun a σ => ∃ M3 o4 o5 : Nat, N0 ≤ M3 ∧ N0 ≤ o4 ∧ o4 < M3 ∧ N0 ≤ o5 ∧ o5 < M3 ∧ ¬ o4 = o5 ∧ a = [(2, .ptr o4 0 0), (3, .ptr o5 0 0)] ∧ σ = hp E0 [(o4, some ⟨48, 4, [[.fsl (encL rI s.1.Out), .fsl (encL rL_I s.1.Items), .fsl (encL rB s.1.Ended), .bool s.1.Rest]]⟩), (o5, some ⟨48, 4, [[.fsl (encL rI s.2.Out), .fsl (encL rL_I s.2.Items), .osl 4 1 (encL rB s.2.Ended), .bool s.2.Rest]]⟩)] M3) (AAct.keep a [2, 3]) σ) hse1 ?_ ?_ ?_
  ·
   refine Rc.kp [2, 3, 22, 23, 24] [(2, .ptr (N0 + 1) 0 0), (3, .ptr (N0 + 16) 0 0), (22, .fsl (encL rMachine p0.Harts)), (23, .int .i64 (ilen p0.Harts)), (24, .int .i64 0)] rfl ?_
   refine gPk Rc_ref (k := r2.Ended.length) (o := (N0 + 16)) (ob := ⟨48, 4, [[.fsl (encL rI r2.Out), .fsl (encL rL_I r2.Items), .sl o1 0 r2.Ended.length, .bool r2.Rest]]⟩) (row := [.fsl (encL rI r2.Out), .fsl (encL rL_I r2.Items), .sl o1 0 r2.Ended.length, .bool r2.Rest]) (d := o1) (obd := ⟨4, 1, encL rB r2.Ended⟩) (r := 0) (i := 2) [(N0 + 1, some ⟨48, 4, [[.fsl [], .fsl [], .fsl [], .bool false]]⟩), (N0 + 16, some ⟨48, 4, [[.fsl (encL rI r2.Out), .fsl (encL rL_I r2.Items), .osl 4 1 (encL rB r2.Ended), .bool r2.Rest]]⟩)] (by simp (disch := omega)) rfl rfl (by simp (disch := omega)) (by simp (disch := omega)) (by first | omega | simp) (by simp (disch := omega) [List.set_set, app_set] <;> omega) (by simp (disch := omega) [List.set_set, app_set]) ?_
   exact Rc.fin (AHeap.Sub.refl _) ⟨M1 + 4, (N0 + 1), (N0 + 16), (by omega), (by omega), (by omega), (by omega), (by omega), (by omega), rfl, rfl⟩
  ·
   clear H hse1
   rintro ⟨s3, s4, s5⟩ fl a σ H ⟨M2, o2, o3, fM2_0, fM2_1, fM2_2, fM2_3, fM2_4, fM2_5, rfl, rfl⟩ K3 O3 hK3 hO3
   unfold i_SquadOutcome_L1 at H; dsimp only at H
   refine AWP_sr tok [] [2, 3, 22, 23, 24, 25] (fun a σ => a = [(2, .ptr o2 0 0), (3, .ptr o3 0 0), (22, .fsl (encL rMachine p0.Harts)), (23, .int .i64 (ilen p0.Harts)), (24, .int .i64 s3), (25, .bool (ilt s3 (ilen p0.Harts)))] ∧ σ = hp E0 [(o2, some ⟨48, 4, [[.fsl (encL rI s4.Out), .fsl (encL rL_I s4.Items), .fsl (encL rB s4.Ended), .bool s4.Rest]]⟩), (o3, some ⟨48, 4, [[.fsl (encL rI s5.Out), .fsl (encL rL_I s5.Items), .osl 4 1 (encL rB s5.Ended), .bool s5.Rest]]⟩)] (M2 + 1)) (fun K hK => ?_) ?_
   ·
    skip
    have e0 := nq (a := o2) (b := o3) (by omega)
    simp -dsimp -implicitDefEqProofs (maxDischargeDepth := 6) [e0]
    exact hK _ _ ⟨rfl, rfl⟩
   rintro a σ ⟨rfl, rfl⟩
   refine AWP_sq [2, 3, 22, 23, 24] fun K4 hK4 => ?_
   refine AWP_cond (ilt s3 (ilen p0.Harts)) rfl (fun C2 => ?_) (fun C2 => ?_)
   ·
    replace H := ifT C2 H
    refine AWP_skip ?_
    show K4 _ _
    refine keepE (l := [2, 3, 22, 23, 24]) (x := [(2, .ptr o2 0 0), (3, .ptr o3 0 0), (22, .fsl (encL rMachine p0.Harts)), (23, .int .i64 (ilen p0.Harts)), (24, .int .i64 s3)]) rfl fun a' ha => ?_
    refine hK4 _ _ ?_; rw [ha]
    refine Rc.mk ?_
    refine AWP_sq [2, 3, 22, 23, 24] fun K5 hK5 => ?_
    refine AWP_block (AWP_thenB ?_)
    obtain ⟨v8, hv8, H⟩ := bindE H
    refine AWP_sr tok [] [2, 3, 5, 22, 23, 24] (fun a σ => a = [(2, .ptr o2 0 0), (3, .ptr o3 0 0), (5, .ptr (M2 + 3) 0 0), (22, .fsl (encL rMachine p0.Harts)), (23, .int .i64 (ilen p0.Harts)), (24, .int .i64 s3)] ∧ σ = hp E0 [(o2, some ⟨48, 4, [[.fsl (encL rI s4.Out), .fsl (encL rL_I s4.Items), .fsl (encL rB s4.Ended), .bool s4.Rest]]⟩), (o3, some ⟨48, 4, [[.fsl (encL rI s5.Out), .fsl (encL rL_I s5.Items), .osl 4 1 (encL rB s5.Ended), .bool s5.Rest]]⟩), (M2 + 3, some ⟨28, 3, [[.fsl (encL rI v8.Regs), .int .i64 v8.Pc, .fsl (encL rI v8.Mem)]]⟩)] (M2 + 5)) (fun K hK => ?_) ?_
    ·
     skip
     have e0 := nq (a := o2) (b := o3) (by omega)
     have e1 := nq (a := o2) (b := M2 + 3) (by omega)
     have e2 := nq (a := o3) (b := M2 + 3) (by omega)
     simp -dsimp -implicitDefEqProofs (maxDischargeDepth := 6) [e0, e1, e2, ix50 hv8]
     exact hK _ _ ⟨rfl, rfl⟩
    rintro a σ ⟨rfl, rfl⟩
    refine gUnp AWP_ref (ty := 4) (sz := 1) (es := encL rB s5.Ended) (o := o3) (ob := ⟨48, 4, [[.fsl (encL rI s5.Out), .fsl (encL rL_I s5.Items), .osl 4 1 (encL rB s5.Ended), .bool s5.Rest]]⟩) (row := [.fsl (encL rI s5.Out), .fsl (encL rL_I s5.Items), .osl 4 1 (encL rB s5.Ended), .bool s5.Rest]) (r := 0) (i := 2) [(o2, some ⟨48, 4, [[.fsl (encL rI s4.Out), .fsl (encL rL_I s4.Items), .fsl (encL rB s4.Ended), .bool s4.Rest]]⟩), (o3, some ⟨48, 4, [[.fsl (encL rI s5.Out), .fsl (encL rL_I s5.Items), .sl (M2 + 5) 0 s5.Ended.length, .bool s5.Rest]]⟩), (M2 + 3, some ⟨28, 3, [[.fsl (encL rI v8.Regs), .int .i64 v8.Pc, .fsl (encL rI v8.Mem)]]⟩), (M2 + 5, some ⟨4, 1, encL rB s5.Ended⟩)] (by simp (disch := omega)) rfl rfl (by simp (disch := omega) [List.set_set]) ?_
    obtain ⟨g10, hg10, H⟩ := bindE H
    obtain ⟨l11, hl11, H⟩ := bindE H
    have q0 : ∀ σ i, buildSliceA T 46 true i 1 [(0, .bool g10)] σ = some (.fsl (encL rB ([g10] : List Bool)), σ) := fun _ _ => rfl
    refine AWP_ry tok tokM [12] [1, 3, 4, 5, 6, 7, 8, 9, 10, 11, 12, 13, 15] [0, 2, 1, 3, 4, 5, 6, 7, 8, 9, 10, 11, 12, 13, 14, 15] [(12, [1])] [2, 3, 22, 23, 24] (fun a σ => a = [(2, .ptr o2 0 0), (3, .ptr o3 0 0), (22, .fsl (encL rMachine p0.Harts)), (23, .int .i64 (ilen p0.Harts)), (24, .int .i64 s3)] ∧ σ = hp E0 [(o2, some ⟨48, 4, [[.fsl (encL rI s4.Out), .fsl (encL rL_I s4.Items), .fsl (encL rB s4.Ended), .bool s4.Rest]]⟩), (o3, some ⟨48, 4, [[.fsl (encL rI s5.Out), .fsl (encL rL_I s5.Items), .sl (M2 + 19) 0 l11.length, .bool s5.Rest]]⟩), (M2 + 3, some ⟨28, 3, [[.fsl (encL rI v8.Regs), .int .i64 v8.Pc, .fsl (encL rI v8.Mem)]]⟩), (M2 + 19, some ⟨4, 1, encL rB l11⟩)] (M2 + 22)) (by decide) (fun K hK => ?_) ?_
    ·
     simp only [pickL, nthO_succ, nthO_zero]
     have e0 := nq (a := o2) (b := o3) (by omega)
     have e1 := nq (a := o2) (b := M2 + 3) (by omega)
     have e2 := nq (a := o2) (b := M2 + 5) (by omega)
     have e3 := nq (a := o2) (b := M2 + 19) (by omega)
     have e4 := nq (a := o3) (b := M2 + 3) (by omega)
     have e5 := nq (a := o3) (b := M2 + 5) (by omega)
     have e6 := nq (a := o3) (b := M2 + 19) (by omega)
     simp -dsimp -implicitDefEqProofs (maxDischargeDepth := 6) [e0, e1, e2, e3, e4, e5, e6, q0, app46 hl11]
     cases hbg10 : ieq v8.Pc 0
     ·
      replace hg10 := ifF hbg10 hg10
      replace hg10 := Option.some.inj hg10; subst hg10
      try simp -dsimp -implicitDefEqProofs (maxDischargeDepth := 6) [e0, e1, e2, e3, e4, e5, e6, q0, app46 hl11, hbg10]
      exact hK _ _ ⟨rfl, rfl⟩
     ·
      replace hg10 := ifT hbg10 hg10
      obtain ⟨v9, hv9, hg10⟩ := bindE hg10
      replace hg10 := Option.some.inj hg10; subst hg10
      try simp -dsimp -implicitDefEqProofs (maxDischargeDepth := 6) [e0, e1, e2, e3, e4, e5, e6, q0, app46 hl11, hbg10, ix22 hv9]
      exact hK _ _ ⟨rfl, rfl⟩
    rintro a σ ⟨ha, rfl⟩
    refine hK5 _ _ ?_; rw [ha]
    refine Rc.mk ?_
    refine AWP_rt tok [] [2, 3, 22, 23, 24] (fun a σ => a = [(2, .ptr o2 0 0), (3, .ptr o3 0 0), (22, .fsl (encL rMachine p0.Harts)), (23, .int .i64 (ilen p0.Harts)), (24, .int .i64 (iadd .i64 s3 1))] ∧ σ = hp E0 [(o2, some ⟨48, 4, [[.fsl (encL rI s4.Out), .fsl (encL rL_I s4.Items), .fsl (encL rB s4.Ended), .bool s4.Rest]]⟩), (o3, some ⟨48, 4, [[.fsl (encL rI s5.Out), .fsl (encL rL_I s5.Items), .sl (M2 + 19) 0 l11.length, .bool s5.Rest]]⟩), (M2 + 3, some ⟨28, 3, [[.fsl (encL rI v8.Regs), .int .i64 v8.Pc, .fsl (encL rI v8.Mem)]]⟩), (M2 + 19, some ⟨4, 1, encL rB l11⟩)] (M2 + 24)) (fun K hK => ?_) ?_
    ·
     skip
     have e0 := nq (a := o2) (b := o3) (by omega)
     have e1 := nq (a := o2) (b := M2 + 3) (by omega)
     have e2 := nq (a := o2) (b := M2 + 19) (by omega)
     have e3 := nq (a := o3) (b := M2 + 3) (by omega)
     have e4 := nq (a := o3) (b := M2 + 19) (by omega)
     simp -dsimp -implicitDefEqProofs (maxDischargeDepth := 6) [e0, e1, e2, e3, e4]
     exact hK _ _ ⟨rfl, rfl⟩
    rintro a σ ⟨ha, rfl⟩
    replace H := Option.some.inj H; subst H
    refine hK3 _ _ _ rfl ?_; rw [ha]
    refine gPk Rc_ref (k := l11.length) (o := o3) (ob := ⟨48, 4, [[.fsl (encL rI s5.Out), .fsl (encL rL_I s5.Items), .sl (M2 + 19) 0 l11.length, .bool s5.Rest]]⟩) (row := [.fsl (encL rI s5.Out), .fsl (encL rL_I s5.Items), .sl (M2 + 19) 0 l11.length, .bool s5.Rest]) (d := (M2 + 19)) (obd := ⟨4, 1, encL rB l11⟩) (r := 0) (i := 2) [(o2, some ⟨48, 4, [[.fsl (encL rI s4.Out), .fsl (encL rL_I s4.Items), .fsl (encL rB s4.Ended), .bool s4.Rest]]⟩), (o3, some ⟨48, 4, [[.fsl (encL rI s5.Out), .fsl (encL rL_I s5.Items), .osl 4 1 (encL rB l11), .bool s5.Rest]]⟩), (M2 + 3, some ⟨28, 3, [[.fsl (encL rI v8.Regs), .int .i64 v8.Pc, .fsl (encL rI v8.Mem)]]⟩)] (by simp (disch := omega)) rfl rfl (by simp (disch := omega)) (by simp (disch := omega)) (by first | omega | simp) (by simp (disch := omega) [List.set_set, app_set] <;> omega) (by simp (disch := omega) [List.set_set, app_set]) ?_
    exact Rc.fin (hp_skip (hp_skip (AHeap.Sub.trans (AHeap.Sub.refl _) (hp_drop rfl (by simp; try omega))))) ⟨M2 + 24, o2, o3, (by omega), (by omega), (by omega), (by omega), (by omega), (by omega), rfl, rfl⟩
   ·
    replace H := ifF C2 H
    replace H := Option.some.inj H; subst H
    refine AWP_exit (hO3 _ _ _ _ rfl ⟨rfl, ?_⟩)
    refine Rc.rw (l := [2, 3]) (X := [(2, .ptr o2 0 0), (3, .ptr o3 0 0)]) rfl ?_
    exact Rc.fin (AHeap.Sub.refl _) ⟨M2 + 1, o2, o3, (by omega), (by omega), (by omega), (by omega), (by omega), (by omega), rfl, rfl⟩
  ·
   intro x a σ hx
   obtain ⟨y6, y7⟩ := e1
   obtain ⟨rfl, b, τ, hr, M3, o4, o5, fM3_0, fM3_1, fM3_2, fM3_3, fM3_4, fM3_5, rfl, rfl⟩ := hx
   dsimp only at H
   show K2 _ _
   refine hK2 _ _ (Rc_ref hr ?_)
   refine Rc.mk ?_
   refine gUnp AWP_ref (ty := 4) (sz := 1) (es := encL rB y7.Ended) (o := o5) (ob := ⟨48, 4, [[.fsl (encL rI y7.Out), .fsl (encL rL_I y7.Items), .osl 4 1 (encL rB y7.Ended), .bool y7.Rest]]⟩) (row := [.fsl (encL rI y7.Out), .fsl (encL rL_I y7.Items), .osl 4 1 (encL rB y7.Ended), .bool y7.Rest]) (r := 0) (i := 2) [(o4, some ⟨48, 4, [[.fsl (encL rI y6.Out), .fsl (encL rL_I y6.Items), .fsl (encL rB y6.Ended), .bool y6.Rest]]⟩), (o5, some ⟨48, 4, [[.fsl (encL rI y7.Out), .fsl (encL rL_I y7.Items), .sl M3 0 y7.Ended.length, .bool y7.Rest]]⟩), (M3, some ⟨4, 1, encL rB y7.Ended⟩)] (by simp (disch := omega)) rfl rfl (by simp (disch := omega) [List.set_set]) ?_
   refine AWP_sr tok [] [2] (fun a σ => a = [(2, .ptr o4 0 0)] ∧ σ = hp E0 [(o4, some ⟨48, 4, [[.fsl (encL rI y7.Out), .fsl (encL rL_I y7.Items), .sl M3 0 y7.Ended.length, .bool y7.Rest]]⟩), (o5, some ⟨48, 4, [[.fsl (encL rI y7.Out), .fsl (encL rL_I y7.Items), .sl M3 0 y7.Ended.length, .bool y7.Rest]]⟩), (M3, some ⟨4, 1, encL rB y7.Ended⟩)] (M3 + 3)) (fun K hK => ?_) ?_
   ·
    skip
    have e0 := nq (a := o4) (b := o5) (by omega)
    have e1 := nq (a := o4) (b := M3) (by omega)
    have e2 := nq (a := o5) (b := M3) (by omega)
    simp -dsimp -implicitDefEqProofs (maxDischargeDepth := 6) [e0, e1, e2]
    exact hK _ _ ⟨rfl, rfl⟩
   rintro a σ ⟨rfl, rfl⟩
   replace H := Option.some.inj H; subst H
   refine AWP_kp [2] [(2, .ptr o4 0 0)] rfl ?_
   have z0 := nq (a := o4) (b := o5) (by omega)
   have z1 := nq (a := o4) (b := M3) (by omega)
   have z2 := nq (a := o5) (b := M3) (by omega)
   refine AWP_ret ?_
   exact ⟨[.agg [.fsl (encL rI y7.Out), .fsl (encL rL_I y7.Items), .sl M3 0 y7.Ended.length, .bool y7.Rest]], by simp [z0, z1, z2], 4, by simp [encL_nil, z0, z1, z2]⟩
theorem c62 {p0 : (List (List Int))} {p1 : (List (List Int))} {r : Bool} (H : l_eqIntSS p0 p1 = some r) : APure Try.prog G 62 [.fsl (encL rL_I p0), .fsl (encL rL_I p1)] (.bool r) := by
 refine APure_fn (fun N0 => ?_) (by simp)
 refine ACalls_fn tok Try.func62 (by kernel_rfl) rfl Try.ntmps62 Try.results62 rfl ?_
 simp only [argsA, Nat.reduceAdd, hp_next]
 unfold l_eqIntSS at H
 refine AWP_sr tok [] [0, 1] (fun a σ => a = [(0, .fsl (encL rL_I p0)), (1, .fsl (encL rL_I p1))] ∧ σ = hp E0 [] (N0 + 1)) (fun K hK => ?_) ?_
 ·
  skip
  simp -dsimp -implicitDefEqProofs (maxDischargeDepth := 6)
  exact hK _ _ ⟨rfl, rfl⟩
 rintro a σ ⟨rfl, rfl⟩
 refine AWP_sq [0, 1] fun K1 hK1 => ?_
 refine AWP_sr tok [] [0, 1, 10] (fun a σ => a = [(0, .fsl (encL rL_I p0)), (1, .fsl (encL rL_I p1)), (10, .bool (ine (ilen p0) (ilen p1)))] ∧ σ = hp E0 [] (N0 + 6)) (fun K hK => ?_) ?_
 ·
  skip
  simp -dsimp -implicitDefEqProofs (maxDischargeDepth := 6)
  exact hK _ _ ⟨rfl, rfl⟩
 rintro a σ ⟨rfl, rfl⟩
 refine AWP_cond (ine (ilen p0) (ilen p1)) rfl (fun C1 => ?_) (fun C1 => ?_)
 ·
  replace H := ifT C1 H
  refine AWP_sr tok [] [4] (fun a σ => a = [(4, .bool false)] ∧ σ = hp E0 [] (N0 + 7)) (fun K hK => ?_) ?_
  ·
   skip
   simp -dsimp -implicitDefEqProofs (maxDischargeDepth := 6)
   exact hK _ _ ⟨rfl, rfl⟩
  rintro a σ ⟨rfl, rfl⟩
  replace H := Option.some.inj H; subst H
  refine AWP_kp [4] [(4, .bool false)] rfl ?_
  refine AWP_ret ?_
  exact ⟨[.bool false], by simp, 4, by simp [encL_nil]⟩
 ·
  replace H := ifF C1 H
  refine AWP_skip ?_
  show K1 _ _
  refine keepE (l := [0, 1]) (x := [(0, .fsl (encL rL_I p0)), (1, .fsl (encL rL_I p1))]) rfl fun a' ha => ?_
  refine hK1 _ _ ?_; rw [ha]
  refine Rc.mk ?_
  refine AWP_sq [] fun K2 hK2 => ?_
  refine AWP_sr tok [] [0, 1, 5] (fun a σ => a = [(0, .fsl (encL rL_I p0)), (1, .fsl (encL rL_I p1)), (5, .int .i64 0)] ∧ σ = hp E0 [] (N0 + 7)) (fun K hK => ?_) ?_
  ·
   skip
   simp -dsimp -implicitDefEqProofs (maxDischargeDepth := 6)
   exact hK _ _ ⟨rfl, rfl⟩
  rintro a σ ⟨rfl, rfl⟩
  refine AWP_block (AWP_thenB ?_)
  obtain ⟨e1, hse1, H⟩ := bindE H
  refine AWP_lp [0, 1, 5] (fun s a σ => ∃ M1 : Nat, N0 ≤ M1 ∧ a = [(0, .fsl (encL rL_I p0)), (1, .fsl (encL rL_I p1)), (5, .int .i64 s)] ∧ σ = hp E0 [] M1) (fun e x a σ => match e with | .inl s => x = .exit 0 ∧ Rc G 27 N0 (fun a σ => ∃ M2 : Nat, N0 ≤ M2 ∧ a = [] ∧ σ = hp E0 [] M2) (AAct.keep a []) σ | .inr s => x = .ret ∧ ∃ vs, resA T σ a [.tmp 4] = some vs ∧ ∃ d, thawA (fun _ => true) σ d (tupA vs) = .bool s) hse1 ?_ ?_ ?_
  ·
   refine Rc.kp [0, 1, 5] [(0, .fsl (encL rL_I p0)), (1, .fsl (encL rL_I p1)), (5, .int .i64 0)] rfl ?_
   exact Rc.fin (AHeap.Sub.refl _) ⟨N0 + 7, (by omega), rfl, rfl⟩
  ·
   clear H hse1
   rintro s1 fl a σ H ⟨M1, fM1_0, rfl, rfl⟩ K3 O3 hK3 hO3
   unfold l_eqIntSS_L1 at H; dsimp only at H
   refine AWP_sq [0, 1, 5] fun K4 hK4 => ?_
   refine AWP_sr tok [] [0, 1, 5, 14] (fun a σ => a = [(0, .fsl (encL rL_I p0)), (1, .fsl (encL rL_I p1)), (5, .int .i64 s1), (14, .bool (ilt s1 (ilen p0)))] ∧ σ = hp E0 [] (M1 + 4)) (fun K hK => ?_) ?_
   ·
    skip
    simp -dsimp -implicitDefEqProofs (maxDischargeDepth := 6)
    exact hK _ _ ⟨rfl, rfl⟩
   rintro a σ ⟨rfl, rfl⟩
   refine AWP_cond (ilt s1 (ilen p0)) rfl (fun C2 => ?_) (fun C2 => ?_)
   ·
    replace H := ifT C2 H
    refine AWP_skip ?_
    show K4 _ _
    refine keepE (l := [0, 1, 5]) (x := [(0, .fsl (encL rL_I p0)), (1, .fsl (encL rL_I p1)), (5, .int .i64 s1)]) rfl fun a' ha => ?_
    refine hK4 _ _ ?_; rw [ha]
    refine Rc.mk ?_
    refine AWP_sq [0, 1, 5] fun K5 hK5 => ?_
    refine AWP_block (AWP_thenB ?_)
    obtain ⟨v2, hv2, H⟩ := bindE H
    obtain ⟨v3, hv3, H⟩ := bindE H
    obtain ⟨r4, hr4, H⟩ := bindE H
    refine AWP_sd tok tokM [] [] [0, 1, 2, 3, 4, 5, 6, 7, 8, 9] [0, 1, 5, 26] (fun a σ => a = [(0, .fsl (encL rL_I p0)), (1, .fsl (encL rL_I p1)), (5, .int .i64 s1), (26, .bool (bnot r4))] ∧ σ = hp E0 [] (M1 + 14)) (by decide) (fun K hK => ?_) ?_
    ·
     simp only [pickL, nthO_succ, nthO_zero]
     simp -dsimp -implicitDefEqProofs (maxDischargeDepth := 6) [ix45 hv2, ix45 hv3]
     refine Pc.mk (c16 hr4) ?_; try simp -dsimp -implicitDefEqProofs (maxDischargeDepth := 6) [ix45 hv2, ix45 hv3]
     exact hK _ _ ⟨rfl, rfl⟩
    rintro a σ ⟨rfl, rfl⟩
    refine AWP_cond (bnot r4) rfl (fun C3 => ?_) (fun C3 => ?_)
    ·
     replace H := ifT C3 H
     refine AWP_sr tok [] [4] (fun a σ => a = [(4, .bool false)] ∧ σ = hp E0 [] (M1 + 15)) (fun K hK => ?_) ?_
     ·
      skip
      simp -dsimp -implicitDefEqProofs (maxDischargeDepth := 6)
      exact hK _ _ ⟨rfl, rfl⟩
     rintro a σ ⟨rfl, rfl⟩
     replace H := Option.some.inj H; subst H
     refine AWP_kp [4] [(4, .bool false)] rfl ?_
     refine AWP_ret (hO3 _ _ _ _ rfl ⟨rfl, ?_⟩)
     exact ⟨[.bool false], by simp, 4, by simp [encL_nil]⟩
    ·
     replace H := ifF C3 H
     refine AWP_skip ?_
     show K5 _ _
     refine keepE (l := [0, 1, 5]) (x := [(0, .fsl (encL rL_I p0)), (1, .fsl (encL rL_I p1)), (5, .int .i64 s1)]) rfl fun a' ha => ?_
     refine hK5 _ _ ?_; rw [ha]
     refine Rc.mk ?_
     refine AWP_rt tok [] [0, 1, 5] (fun a σ => a = [(0, .fsl (encL rL_I p0)), (1, .fsl (encL rL_I p1)), (5, .int .i64 (iadd .i64 s1 1))] ∧ σ = hp E0 [] (M1 + 17)) (fun K hK => ?_) ?_
     ·
      skip
      simp -dsimp -implicitDefEqProofs (maxDischargeDepth := 6)
      exact hK _ _ ⟨rfl, rfl⟩
     rintro a σ ⟨ha, rfl⟩
     replace H := Option.some.inj H; subst H
     refine hK3 _ _ _ rfl ?_; rw [ha]
     exact Rc.fin (AHeap.Sub.refl _) ⟨M1 + 17, (by omega), rfl, rfl⟩
   ·
    replace H := ifF C2 H
    replace H := Option.some.inj H; subst H
    refine AWP_exit (hO3 _ _ _ _ rfl ⟨rfl, ?_⟩)
    refine Rc.rw (l := []) (X := []) rfl ?_
    exact Rc.fin (AHeap.Sub.refl _) ⟨M1 + 4, (by omega), rfl, rfl⟩
  ·
   intro x a σ hx
   rcases e1 with ⟨⟩ | r0
   ·
    obtain ⟨rfl, b, τ, hr, M2, fM2_0, rfl, rfl⟩ := hx
    dsimp only at H
    show K2 _ _
    refine hK2 _ _ (Rc_ref hr ?_)
    refine Rc.mk ?_
    refine AWP_sr tok [] [4] (fun a σ => a = [(4, .bool true)] ∧ σ = hp E0 [] (M2 + 1)) (fun K hK => ?_) ?_
    ·
     skip
     simp -dsimp -implicitDefEqProofs (maxDischargeDepth := 6)
     exact hK _ _ ⟨rfl, rfl⟩
    rintro a σ ⟨rfl, rfl⟩
    replace H := Option.some.inj H; subst H
    refine AWP_kp [4] [(4, .bool true)] rfl ?_
    refine AWP_ret ?_
    exact ⟨[.bool true], by simp, 4, by simp [encL_nil]⟩
   ·
    obtain ⟨rfl, hx2⟩ := hx
    dsimp only at H
    replace H := Option.some.inj H; subst H; exact hx2
theorem c63 {p0 : (List Bool)} {p1 : (List Bool)} {r : Bool} (H : l_eqBoolS p0 p1 = some r) : APure Try.prog G 63 [.fsl (encL rB p0), .fsl (encL rB p1)] (.bool r) := by
 refine APure_fn (fun N0 => ?_) (by simp)
 refine ACalls_fn tok Try.func63 (by kernel_rfl) rfl Try.ntmps63 Try.results63 rfl ?_
 simp only [argsA, Nat.reduceAdd, hp_next]
 unfold l_eqBoolS at H
 refine AWP_sr tok [] [0, 1] (fun a σ => a = [(0, .fsl (encL rB p0)), (1, .fsl (encL rB p1))] ∧ σ = hp E0 [] (N0 + 1)) (fun K hK => ?_) ?_
 ·
  skip
  simp -dsimp -implicitDefEqProofs (maxDischargeDepth := 6)
  exact hK _ _ ⟨rfl, rfl⟩
 rintro a σ ⟨rfl, rfl⟩
 refine AWP_sq [0, 1] fun K1 hK1 => ?_
 refine AWP_sr tok [] [0, 1, 10] (fun a σ => a = [(0, .fsl (encL rB p0)), (1, .fsl (encL rB p1)), (10, .bool (ine (ilen p0) (ilen p1)))] ∧ σ = hp E0 [] (N0 + 6)) (fun K hK => ?_) ?_
 ·
  skip
  simp -dsimp -implicitDefEqProofs (maxDischargeDepth := 6)
  exact hK _ _ ⟨rfl, rfl⟩
 rintro a σ ⟨rfl, rfl⟩
 refine AWP_cond (ine (ilen p0) (ilen p1)) rfl (fun C1 => ?_) (fun C1 => ?_)
 ·
  replace H := ifT C1 H
  refine AWP_sr tok [] [4] (fun a σ => a = [(4, .bool false)] ∧ σ = hp E0 [] (N0 + 7)) (fun K hK => ?_) ?_
  ·
   skip
   simp -dsimp -implicitDefEqProofs (maxDischargeDepth := 6)
   exact hK _ _ ⟨rfl, rfl⟩
  rintro a σ ⟨rfl, rfl⟩
  replace H := Option.some.inj H; subst H
  refine AWP_kp [4] [(4, .bool false)] rfl ?_
  refine AWP_ret ?_
  exact ⟨[.bool false], by simp, 4, by simp [encL_nil]⟩
 ·
  replace H := ifF C1 H
  refine AWP_skip ?_
  show K1 _ _
  refine keepE (l := [0, 1]) (x := [(0, .fsl (encL rB p0)), (1, .fsl (encL rB p1))]) rfl fun a' ha => ?_
  refine hK1 _ _ ?_; rw [ha]
  refine Rc.mk ?_
  refine AWP_sq [] fun K2 hK2 => ?_
  refine AWP_sr tok [] [0, 1, 5] (fun a σ => a = [(0, .fsl (encL rB p0)), (1, .fsl (encL rB p1)), (5, .int .i64 0)] ∧ σ = hp E0 [] (N0 + 7)) (fun K hK => ?_) ?_
  ·
   skip
   simp -dsimp -implicitDefEqProofs (maxDischargeDepth := 6)
   exact hK _ _ ⟨rfl, rfl⟩
  rintro a σ ⟨rfl, rfl⟩
  refine AWP_block (AWP_thenB ?_)
  obtain ⟨e1, hse1, H⟩ := bindE H
  refine AWP_lp [0, 1, 5] (fun s a σ => ∃ M1 : Nat, N0 ≤ M1 ∧ a = [(0, .fsl (encL rB p0)), (1, .fsl (encL rB p1)), (5, .int .i64 s)] ∧ σ = hp E0 [] M1) (fun e x a σ => match e with | .inl s => x = .exit 0 ∧ Rc G 26 N0 (fun a σ => ∃ M2 : Nat, N0 ≤ M2 ∧ a = [] ∧ σ = hp E0 [] M2) (AAct.keep a []) σ | .inr s => x = .ret ∧ ∃ vs, resA T σ a [.tmp 4] = some vs ∧ ∃ d, thawA (fun _ => true) σ d (tupA vs) = .bool s) hse1 ?_ ?_ ?_
  ·
   refine Rc.kp [0, 1, 5] [(0, .fsl (encL rB p0)), (1, .fsl (encL rB p1)), (5, .int .i64 0)] rfl ?_
   exact Rc.fin (AHeap.Sub.refl _) ⟨N0 + 7, (by omega), rfl, rfl⟩
  ·
   clear H hse1
   rintro s1 fl a σ H ⟨M1, fM1_0, rfl, rfl⟩ K3 O3 hK3 hO3
   unfold l_eqBoolS_L1 at H; dsimp only at H
   refine AWP_sq [0, 1, 5] fun K4 hK4 => ?_
   refine AWP_sr tok [] [0, 1, 5, 14] (fun a σ => a = [(0, .fsl (encL rB p0)), (1, .fsl (encL rB p1)), (5, .int .i64 s1), (14, .bool (ilt s1 (ilen p0)))] ∧ σ = hp E0 [] (M1 + 4)) (fun K hK => ?_) ?_
   ·
    skip
    simp -dsimp -implicitDefEqProofs (maxDischargeDepth := 6)
    exact hK _ _ ⟨rfl, rfl⟩
   rintro a σ ⟨rfl, rfl⟩
   refine AWP_cond (ilt s1 (ilen p0)) rfl (fun C2 => ?_) (fun C2 => ?_)
   ·
    replace H := ifT C2 H
    refine AWP_skip ?_
    show K4 _ _
    refine keepE (l := [0, 1, 5]) (x := [(0, .fsl (encL rB p0)), (1, .fsl (encL rB p1)), (5, .int .i64 s1)]) rfl fun a' ha => ?_
    refine hK4 _ _ ?_; rw [ha]
    refine Rc.mk ?_
    refine AWP_sq [0, 1, 5] fun K5 hK5 => ?_
    refine AWP_block (AWP_thenB ?_)
    obtain ⟨v2, hv2, H⟩ := bindE H
    obtain ⟨v3, hv3, H⟩ := bindE H
    refine AWP_sd tok tokM [] [] [0, 1, 2, 3, 4, 5, 6, 7, 8] [0, 1, 5, 25] (fun a σ => a = [(0, .fsl (encL rB p0)), (1, .fsl (encL rB p1)), (5, .int .i64 s1), (25, .bool (bneb v2 v3))] ∧ σ = hp E0 [] (M1 + 13)) (by decide) (fun K hK => ?_) ?_
    ·
     simp only [pickL, nthO_succ, nthO_zero]
     simp -dsimp -implicitDefEqProofs (maxDischargeDepth := 6) [ix46 hv2, ix46 hv3]
     exact hK _ _ ⟨rfl, rfl⟩
    rintro a σ ⟨rfl, rfl⟩
    refine AWP_cond (bneb v2 v3) rfl (fun C3 => ?_) (fun C3 => ?_)
    ·
     replace H := ifT C3 H
     refine AWP_sr tok [] [4] (fun a σ => a = [(4, .bool false)] ∧ σ = hp E0 [] (M1 + 14)) (fun K hK => ?_) ?_
     ·
      skip
      simp -dsimp -implicitDefEqProofs (maxDischargeDepth := 6)
      exact hK _ _ ⟨rfl, rfl⟩
     rintro a σ ⟨rfl, rfl⟩
     replace H := Option.some.inj H; subst H
     refine AWP_kp [4] [(4, .bool false)] rfl ?_
     refine AWP_ret (hO3 _ _ _ _ rfl ⟨rfl, ?_⟩)
     exact ⟨[.bool false], by simp, 4, by simp [encL_nil]⟩
    ·
     replace H := ifF C3 H
     refine AWP_skip ?_
     show K5 _ _
     refine keepE (l := [0, 1, 5]) (x := [(0, .fsl (encL rB p0)), (1, .fsl (encL rB p1)), (5, .int .i64 s1)]) rfl fun a' ha => ?_
     refine hK5 _ _ ?_; rw [ha]
     refine Rc.mk ?_
     refine AWP_rt tok [] [0, 1, 5] (fun a σ => a = [(0, .fsl (encL rB p0)), (1, .fsl (encL rB p1)), (5, .int .i64 (iadd .i64 s1 1))] ∧ σ = hp E0 [] (M1 + 16)) (fun K hK => ?_) ?_
     ·
      skip
      simp -dsimp -implicitDefEqProofs (maxDischargeDepth := 6)
      exact hK _ _ ⟨rfl, rfl⟩
     rintro a σ ⟨ha, rfl⟩
     replace H := Option.some.inj H; subst H
     refine hK3 _ _ _ rfl ?_; rw [ha]
     exact Rc.fin (AHeap.Sub.refl _) ⟨M1 + 16, (by omega), rfl, rfl⟩
   ·
    replace H := ifF C2 H
    replace H := Option.some.inj H; subst H
    refine AWP_exit (hO3 _ _ _ _ rfl ⟨rfl, ?_⟩)
    refine Rc.rw (l := []) (X := []) rfl ?_
    exact Rc.fin (AHeap.Sub.refl _) ⟨M1 + 4, (by omega), rfl, rfl⟩
  ·
   intro x a σ hx
   rcases e1 with ⟨⟩ | r0
   ·
    obtain ⟨rfl, b, τ, hr, M2, fM2_0, rfl, rfl⟩ := hx
    dsimp only at H
    show K2 _ _
    refine hK2 _ _ (Rc_ref hr ?_)
    refine Rc.mk ?_
    refine AWP_sr tok [] [4] (fun a σ => a = [(4, .bool true)] ∧ σ = hp E0 [] (M2 + 1)) (fun K hK => ?_) ?_
    ·
     skip
     simp -dsimp -implicitDefEqProofs (maxDischargeDepth := 6)
     exact hK _ _ ⟨rfl, rfl⟩
    rintro a σ ⟨rfl, rfl⟩
    replace H := Option.some.inj H; subst H
    refine AWP_kp [4] [(4, .bool true)] rfl ?_
    refine AWP_ret ?_
    exact ⟨[.bool true], by simp, 4, by simp [encL_nil]⟩
   ·
    obtain ⟨rfl, hx2⟩ := hx
    dsimp only at H
    replace H := Option.some.inj H; subst H; exact hx2
theorem c27 {p0 : gOutcome} {p1 : gOutcome} {r : Bool} (H : l_eqOutcome p0 p1 = some r) : APure Try.prog G 27 [.agg [.fsl (encL rI p0.Out), .fsl (encL rL_I p0.Items), .fsl (encL rB p0.Ended), .bool p0.Rest], .agg [.fsl (encL rI p1.Out), .fsl (encL rL_I p1.Items), .fsl (encL rB p1.Ended), .bool p1.Rest]] (.bool r) := by
 refine APure_fn (fun N0 => ?_) (by simp)
 refine ACalls_fn tok Try.func27 (by kernel_rfl) rfl Try.ntmps27 Try.results27 rfl ?_
 simp only [argsA, Nat.reduceAdd, hp_next]
 unfold l_eqOutcome at H
 refine AWP_sr tok [0, 1] [2, 3] (fun a σ => a = [(2, .fptr [.fsl (encL rI p0.Out), .fsl (encL rL_I p0.Items), .fsl (encL rB p0.Ended), .bool p0.Rest] 0), (3, .fptr [.fsl (encL rI p1.Out), .fsl (encL rL_I p1.Items), .fsl (encL rB p1.Ended), .bool p1.Rest] 0)] ∧ σ = hp E0 [] (N0 + 3)) (fun K hK => ?_) ?_
 ·
  skip
  simp -dsimp -implicitDefEqProofs (maxDischargeDepth := 6)
  exact hK _ _ ⟨rfl, rfl⟩
 rintro a σ ⟨rfl, rfl⟩
 refine AWP_sq [2, 3] fun K1 hK1 => ?_
 obtain ⟨r1, hr1, H⟩ := bindE H
 refine AWP_sr tok [] [2, 3, 10] (fun a σ => a = [(2, .fptr [.fsl (encL rI p0.Out), .fsl (encL rL_I p0.Items), .fsl (encL rB p0.Ended), .bool p0.Rest] 0), (3, .fptr [.fsl (encL rI p1.Out), .fsl (encL rL_I p1.Items), .fsl (encL rB p1.Ended), .bool p1.Rest] 0), (10, .bool (bnot r1))] ∧ σ = hp E0 [] (N0 + 9)) (fun K hK => ?_) ?_
 ·
  skip
  simp -dsimp -implicitDefEqProofs (maxDischargeDepth := 6)
  refine (c16 hr1).app ?_; try simp -dsimp -implicitDefEqProofs (maxDischargeDepth := 6)
  exact hK _ _ ⟨rfl, rfl⟩
 rintro a σ ⟨rfl, rfl⟩
 refine AWP_cond (bnot r1) rfl (fun C1 => ?_) (fun C1 => ?_)
 ·
  replace H := ifT C1 H
  refine AWP_sr tok [] [4] (fun a σ => a = [(4, .bool false)] ∧ σ = hp E0 [] (N0 + 10)) (fun K hK => ?_) ?_
  ·
   skip
   simp -dsimp -implicitDefEqProofs (maxDischargeDepth := 6)
   exact hK _ _ ⟨rfl, rfl⟩
  rintro a σ ⟨rfl, rfl⟩
  replace H := Option.some.inj H; subst H
  refine AWP_kp [4] [(4, .bool false)] rfl ?_
  refine AWP_ret ?_
  exact ⟨[.bool false], by simp, 4, by simp [encL_nil]⟩
 ·
  replace H := ifF C1 H
  refine AWP_skip ?_
  show K1 _ _
  refine keepE (l := [2, 3]) (x := [(2, .fptr [.fsl (encL rI p0.Out), .fsl (encL rL_I p0.Items), .fsl (encL rB p0.Ended), .bool p0.Rest] 0), (3, .fptr [.fsl (encL rI p1.Out), .fsl (encL rL_I p1.Items), .fsl (encL rB p1.Ended), .bool p1.Rest] 0)]) rfl fun a' ha => ?_
  refine hK1 _ _ ?_; rw [ha]
  refine Rc.mk ?_
  refine AWP_sq [2, 3] fun K2 hK2 => ?_
  obtain ⟨r2, hr2, H⟩ := bindE H
  refine AWP_sr tok [] [2, 3, 16] (fun a σ => a = [(2, .fptr [.fsl (encL rI p0.Out), .fsl (encL rL_I p0.Items), .fsl (encL rB p0.Ended), .bool p0.Rest] 0), (3, .fptr [.fsl (encL rI p1.Out), .fsl (encL rL_I p1.Items), .fsl (encL rB p1.Ended), .bool p1.Rest] 0), (16, .bool (bnot r2))] ∧ σ = hp E0 [] (N0 + 15)) (fun K hK => ?_) ?_
  ·
   skip
   simp -dsimp -implicitDefEqProofs (maxDischargeDepth := 6)
   refine (c62 hr2).app ?_; try simp -dsimp -implicitDefEqProofs (maxDischargeDepth := 6)
   exact hK _ _ ⟨rfl, rfl⟩
  rintro a σ ⟨rfl, rfl⟩
  refine AWP_cond (bnot r2) rfl (fun C2 => ?_) (fun C2 => ?_)
  ·
   replace H := ifT C2 H
   refine AWP_sr tok [] [4] (fun a σ => a = [(4, .bool false)] ∧ σ = hp E0 [] (N0 + 16)) (fun K hK => ?_) ?_
   ·
    skip
    simp -dsimp -implicitDefEqProofs (maxDischargeDepth := 6)
    exact hK _ _ ⟨rfl, rfl⟩
   rintro a σ ⟨rfl, rfl⟩
   replace H := Option.some.inj H; subst H
   refine AWP_kp [4] [(4, .bool false)] rfl ?_
   refine AWP_ret ?_
   exact ⟨[.bool false], by simp, 4, by simp [encL_nil]⟩
  ·
   replace H := ifF C2 H
   refine AWP_skip ?_
   show K2 _ _
   refine keepE (l := [2, 3]) (x := [(2, .fptr [.fsl (encL rI p0.Out), .fsl (encL rL_I p0.Items), .fsl (encL rB p0.Ended), .bool p0.Rest] 0), (3, .fptr [.fsl (encL rI p1.Out), .fsl (encL rL_I p1.Items), .fsl (encL rB p1.Ended), .bool p1.Rest] 0)]) rfl fun a' ha => ?_
   refine hK2 _ _ ?_; rw [ha]
   refine Rc.mk ?_
   refine AWP_sq [2, 3] fun K3 hK3 => ?_
   obtain ⟨r3, hr3, H⟩ := bindE H
   refine AWP_sr tok [] [2, 3, 22] (fun a σ => a = [(2, .fptr [.fsl (encL rI p0.Out), .fsl (encL rL_I p0.Items), .fsl (encL rB p0.Ended), .bool p0.Rest] 0), (3, .fptr [.fsl (encL rI p1.Out), .fsl (encL rL_I p1.Items), .fsl (encL rB p1.Ended), .bool p1.Rest] 0), (22, .bool (bnot r3))] ∧ σ = hp E0 [] (N0 + 21)) (fun K hK => ?_) ?_
   ·
    skip
    simp -dsimp -implicitDefEqProofs (maxDischargeDepth := 6)
    refine (c63 hr3).app ?_; try simp -dsimp -implicitDefEqProofs (maxDischargeDepth := 6)
    exact hK _ _ ⟨rfl, rfl⟩
   rintro a σ ⟨rfl, rfl⟩
   refine AWP_cond (bnot r3) rfl (fun C3 => ?_) (fun C3 => ?_)
   ·
    replace H := ifT C3 H
    refine AWP_sr tok [] [4] (fun a σ => a = [(4, .bool false)] ∧ σ = hp E0 [] (N0 + 22)) (fun K hK => ?_) ?_
    ·
     skip
     simp -dsimp -implicitDefEqProofs (maxDischargeDepth := 6)
     exact hK _ _ ⟨rfl, rfl⟩
    rintro a σ ⟨rfl, rfl⟩
    replace H := Option.some.inj H; subst H
    refine AWP_kp [4] [(4, .bool false)] rfl ?_
    refine AWP_ret ?_
    exact ⟨[.bool false], by simp, 4, by simp [encL_nil]⟩
   ·
    replace H := ifF C3 H
    refine AWP_skip ?_
    show K3 _ _
    refine keepE (l := [2, 3]) (x := [(2, .fptr [.fsl (encL rI p0.Out), .fsl (encL rL_I p0.Items), .fsl (encL rB p0.Ended), .bool p0.Rest] 0), (3, .fptr [.fsl (encL rI p1.Out), .fsl (encL rL_I p1.Items), .fsl (encL rB p1.Ended), .bool p1.Rest] 0)]) rfl fun a' ha => ?_
    refine hK3 _ _ ?_; rw [ha]
    refine Rc.mk ?_
    refine AWP_sq [] fun K4 hK4 => ?_
    refine AWP_sr tok [] [27] (fun a σ => a = [(27, .bool (bneb p0.Rest p1.Rest))] ∧ σ = hp E0 [] (N0 + 26)) (fun K hK => ?_) ?_
    ·
     skip
     simp -dsimp -implicitDefEqProofs (maxDischargeDepth := 6)
     exact hK _ _ ⟨rfl, rfl⟩
    rintro a σ ⟨rfl, rfl⟩
    refine AWP_cond (bneb p0.Rest p1.Rest) rfl (fun C4 => ?_) (fun C4 => ?_)
    ·
     replace H := ifT C4 H
     refine AWP_sr tok [] [4] (fun a σ => a = [(4, .bool false)] ∧ σ = hp E0 [] (N0 + 27)) (fun K hK => ?_) ?_
     ·
      skip
      simp -dsimp -implicitDefEqProofs (maxDischargeDepth := 6)
      exact hK _ _ ⟨rfl, rfl⟩
     rintro a σ ⟨rfl, rfl⟩
     replace H := Option.some.inj H; subst H
     refine AWP_kp [4] [(4, .bool false)] rfl ?_
     refine AWP_ret ?_
     exact ⟨[.bool false], by simp, 4, by simp [encL_nil]⟩
    ·
     replace H := ifF C4 H
     refine AWP_skip ?_
     show K4 _ _
     refine keepE (l := []) (x := []) rfl fun a' ha => ?_
     refine hK4 _ _ ?_; rw [ha]
     refine Rc.mk ?_
     refine AWP_sr tok [] [4] (fun a σ => a = [(4, .bool true)] ∧ σ = hp E0 [] (N0 + 27)) (fun K hK => ?_) ?_
     ·
      skip
      simp -dsimp -implicitDefEqProofs (maxDischargeDepth := 6)
      exact hK _ _ ⟨rfl, rfl⟩
     rintro a σ ⟨rfl, rfl⟩
     replace H := Option.some.inj H; subst H
     refine AWP_kp [4] [(4, .bool true)] rfl ?_
     refine AWP_ret ?_
     exact ⟨[.bool true], by simp, 4, by simp [encL_nil]⟩
theorem c64 {p0 : (List gMachine)} {p1 : (List gMachine)} {r : Bool} (H : l_eqMachineS p0 p1 = some r) : APure Try.prog G 64 [.fsl (encL rMachine p0), .fsl (encL rMachine p1)] (.bool r) := by
 refine APure_fn (fun N0 => ?_) (by simp)
 refine ACalls_fn tok Try.func64 (by kernel_rfl) rfl Try.ntmps64 Try.results64 rfl ?_
 simp only [argsA, Nat.reduceAdd, hp_next]
 unfold l_eqMachineS at H
 refine AWP_sr tok [] [0, 1] (fun a σ => a = [(0, .fsl (encL rMachine p0)), (1, .fsl (encL rMachine p1))] ∧ σ = hp E0 [] (N0 + 1)) (fun K hK => ?_) ?_
 ·
  skip
  simp -dsimp -implicitDefEqProofs (maxDischargeDepth := 6)
  exact hK _ _ ⟨rfl, rfl⟩
 rintro a σ ⟨rfl, rfl⟩
 refine AWP_sq [0, 1] fun K1 hK1 => ?_
 refine AWP_sr tok [] [0, 1, 10] (fun a σ => a = [(0, .fsl (encL rMachine p0)), (1, .fsl (encL rMachine p1)), (10, .bool (ine (ilen p0) (ilen p1)))] ∧ σ = hp E0 [] (N0 + 6)) (fun K hK => ?_) ?_
 ·
  skip
  simp -dsimp -implicitDefEqProofs (maxDischargeDepth := 6)
  exact hK _ _ ⟨rfl, rfl⟩
 rintro a σ ⟨rfl, rfl⟩
 refine AWP_cond (ine (ilen p0) (ilen p1)) rfl (fun C1 => ?_) (fun C1 => ?_)
 ·
  replace H := ifT C1 H
  refine AWP_sr tok [] [4] (fun a σ => a = [(4, .bool false)] ∧ σ = hp E0 [] (N0 + 7)) (fun K hK => ?_) ?_
  ·
   skip
   simp -dsimp -implicitDefEqProofs (maxDischargeDepth := 6)
   exact hK _ _ ⟨rfl, rfl⟩
  rintro a σ ⟨rfl, rfl⟩
  replace H := Option.some.inj H; subst H
  refine AWP_kp [4] [(4, .bool false)] rfl ?_
  refine AWP_ret ?_
  exact ⟨[.bool false], by simp, 4, by simp [encL_nil]⟩
 ·
  replace H := ifF C1 H
  refine AWP_skip ?_
  show K1 _ _
  refine keepE (l := [0, 1]) (x := [(0, .fsl (encL rMachine p0)), (1, .fsl (encL rMachine p1))]) rfl fun a' ha => ?_
  refine hK1 _ _ ?_; rw [ha]
  refine Rc.mk ?_
  refine AWP_sq [] fun K2 hK2 => ?_
  refine AWP_sr tok [] [0, 1, 5] (fun a σ => a = [(0, .fsl (encL rMachine p0)), (1, .fsl (encL rMachine p1)), (5, .int .i64 0)] ∧ σ = hp E0 [] (N0 + 7)) (fun K hK => ?_) ?_
  ·
   skip
   simp -dsimp -implicitDefEqProofs (maxDischargeDepth := 6)
   exact hK _ _ ⟨rfl, rfl⟩
  rintro a σ ⟨rfl, rfl⟩
  refine AWP_block (AWP_thenB ?_)
  obtain ⟨e1, hse1, H⟩ := bindE H
  refine AWP_lp [0, 1, 5] (fun s a σ => ∃ M1 : Nat, N0 ≤ M1 ∧ a = [(0, .fsl (encL rMachine p0)), (1, .fsl (encL rMachine p1)), (5, .int .i64 s)] ∧ σ = hp E0 [] M1) (fun e x a σ => match e with | .inl s => x = .exit 0 ∧ Rc G 27 N0 (fun a σ => ∃ M2 : Nat, N0 ≤ M2 ∧ a = [] ∧ σ = hp E0 [] M2) (AAct.keep a []) σ | .inr s => x = .ret ∧ ∃ vs, resA T σ a [.tmp 4] = some vs ∧ ∃ d, thawA (fun _ => true) σ d (tupA vs) = .bool s) hse1 ?_ ?_ ?_
  ·
   refine Rc.kp [0, 1, 5] [(0, .fsl (encL rMachine p0)), (1, .fsl (encL rMachine p1)), (5, .int .i64 0)] rfl ?_
   exact Rc.fin (AHeap.Sub.refl _) ⟨N0 + 7, (by omega), rfl, rfl⟩
  ·
   clear H hse1
   rintro s1 fl a σ H ⟨M1, fM1_0, rfl, rfl⟩ K3 O3 hK3 hO3
   unfold l_eqMachineS_L1 at H; dsimp only at H
   refine AWP_sq [0, 1, 5] fun K4 hK4 => ?_
   refine AWP_sr tok [] [0, 1, 5, 14] (fun a σ => a = [(0, .fsl (encL rMachine p0)), (1, .fsl (encL rMachine p1)), (5, .int .i64 s1), (14, .bool (ilt s1 (ilen p0)))] ∧ σ = hp E0 [] (M1 + 4)) (fun K hK => ?_) ?_
   ·
    skip
    simp -dsimp -implicitDefEqProofs (maxDischargeDepth := 6)
    exact hK _ _ ⟨rfl, rfl⟩
   rintro a σ ⟨rfl, rfl⟩
   refine AWP_cond (ilt s1 (ilen p0)) rfl (fun C2 => ?_) (fun C2 => ?_)
   ·
    replace H := ifT C2 H
    refine AWP_skip ?_
    show K4 _ _
    refine keepE (l := [0, 1, 5]) (x := [(0, .fsl (encL rMachine p0)), (1, .fsl (encL rMachine p1)), (5, .int .i64 s1)]) rfl fun a' ha => ?_
    refine hK4 _ _ ?_; rw [ha]
    refine Rc.mk ?_
    refine AWP_sq [0, 1, 5] fun K5 hK5 => ?_
    refine AWP_block (AWP_thenB ?_)
    obtain ⟨v2, hv2, H⟩ := bindE H
    obtain ⟨v3, hv3, H⟩ := bindE H
    obtain ⟨r4, hr4, H⟩ := bindE H
    refine AWP_sd tok tokM [] [] [0, 1, 2, 3, 4, 5, 6, 7, 8, 9] [0, 1, 5, 26] (fun a σ => a = [(0, .fsl (encL rMachine p0)), (1, .fsl (encL rMachine p1)), (5, .int .i64 s1), (26, .bool (bnot r4))] ∧ σ = hp E0 [] (M1 + 14)) (by decide) (fun K hK => ?_) ?_
    ·
     simp only [pickL, nthO_succ, nthO_zero]
     simp -dsimp -implicitDefEqProofs (maxDischargeDepth := 6) [ix50 hv2, ix50 hv3]
     refine Pc.mk (c14 hr4) ?_; try simp -dsimp -implicitDefEqProofs (maxDischargeDepth := 6) [ix50 hv2, ix50 hv3]
     exact hK _ _ ⟨rfl, rfl⟩
    rintro a σ ⟨rfl, rfl⟩
    refine AWP_cond (bnot r4) rfl (fun C3 => ?_) (fun C3 => ?_)
    ·
     replace H := ifT C3 H
     refine AWP_sr tok [] [4] (fun a σ => a = [(4, .bool false)] ∧ σ = hp E0 [] (M1 + 15)) (fun K hK => ?_) ?_
     ·
      skip
      simp -dsimp -implicitDefEqProofs (maxDischargeDepth := 6)
      exact hK _ _ ⟨rfl, rfl⟩
     rintro a σ ⟨rfl, rfl⟩
     replace H := Option.some.inj H; subst H
     refine AWP_kp [4] [(4, .bool false)] rfl ?_
     refine AWP_ret (hO3 _ _ _ _ rfl ⟨rfl, ?_⟩)
     exact ⟨[.bool false], by simp, 4, by simp [encL_nil]⟩
    ·
     replace H := ifF C3 H
     refine AWP_skip ?_
     show K5 _ _
     refine keepE (l := [0, 1, 5]) (x := [(0, .fsl (encL rMachine p0)), (1, .fsl (encL rMachine p1)), (5, .int .i64 s1)]) rfl fun a' ha => ?_
     refine hK5 _ _ ?_; rw [ha]
     refine Rc.mk ?_
     refine AWP_rt tok [] [0, 1, 5] (fun a σ => a = [(0, .fsl (encL rMachine p0)), (1, .fsl (encL rMachine p1)), (5, .int .i64 (iadd .i64 s1 1))] ∧ σ = hp E0 [] (M1 + 17)) (fun K hK => ?_) ?_
     ·
      skip
      simp -dsimp -implicitDefEqProofs (maxDischargeDepth := 6)
      exact hK _ _ ⟨rfl, rfl⟩
     rintro a σ ⟨ha, rfl⟩
     replace H := Option.some.inj H; subst H
     refine hK3 _ _ _ rfl ?_; rw [ha]
     exact Rc.fin (AHeap.Sub.refl _) ⟨M1 + 17, (by omega), rfl, rfl⟩
   ·
    replace H := ifF C2 H
    replace H := Option.some.inj H; subst H
    refine AWP_exit (hO3 _ _ _ _ rfl ⟨rfl, ?_⟩)
    refine Rc.rw (l := []) (X := []) rfl ?_
    exact Rc.fin (AHeap.Sub.refl _) ⟨M1 + 4, (by omega), rfl, rfl⟩
  ·
   intro x a σ hx
   rcases e1 with ⟨⟩ | r0
   ·
    obtain ⟨rfl, b, τ, hr, M2, fM2_0, rfl, rfl⟩ := hx
    dsimp only at H
    show K2 _ _
    refine hK2 _ _ (Rc_ref hr ?_)
    refine Rc.mk ?_
    refine AWP_sr tok [] [4] (fun a σ => a = [(4, .bool true)] ∧ σ = hp E0 [] (M2 + 1)) (fun K hK => ?_) ?_
    ·
     skip
     simp -dsimp -implicitDefEqProofs (maxDischargeDepth := 6)
     exact hK _ _ ⟨rfl, rfl⟩
    rintro a σ ⟨rfl, rfl⟩
    replace H := Option.some.inj H; subst H
    refine AWP_kp [4] [(4, .bool true)] rfl ?_
    refine AWP_ret ?_
    exact ⟨[.bool true], by simp, 4, by simp [encL_nil]⟩
   ·
    obtain ⟨rfl, hx2⟩ := hx
    dsimp only at H
    replace H := Option.some.inj H; subst H; exact hx2
theorem c28 {p0 : gSquad} {p1 : gSquad} {r : Bool} (H : l_eqSquad p0 p1 = some r) : APure Try.prog G 28 [.agg [.fsl (encL rMachine p0.Harts), .fsl (encL rBox p0.Boxes), .int .i64 p0.Turn, .int .i64 p0.Idle, .fsl (encL rI p0.Out)], .agg [.fsl (encL rMachine p1.Harts), .fsl (encL rBox p1.Boxes), .int .i64 p1.Turn, .int .i64 p1.Idle, .fsl (encL rI p1.Out)]] (.bool r) := by
 refine APure_fn (fun N0 => ?_) (by simp)
 refine ACalls_fn tok Try.func28 (by kernel_rfl) rfl Try.ntmps28 Try.results28 rfl ?_
 simp only [argsA, Nat.reduceAdd, hp_next]
 unfold l_eqSquad at H
 refine AWP_sr tok [0, 1] [2, 3] (fun a σ => a = [(2, .fptr [.fsl (encL rMachine p0.Harts), .fsl (encL rBox p0.Boxes), .int .i64 p0.Turn, .int .i64 p0.Idle, .fsl (encL rI p0.Out)] 0), (3, .fptr [.fsl (encL rMachine p1.Harts), .fsl (encL rBox p1.Boxes), .int .i64 p1.Turn, .int .i64 p1.Idle, .fsl (encL rI p1.Out)] 0)] ∧ σ = hp E0 [] (N0 + 3)) (fun K hK => ?_) ?_
 ·
  skip
  simp -dsimp -implicitDefEqProofs (maxDischargeDepth := 6)
  exact hK _ _ ⟨rfl, rfl⟩
 rintro a σ ⟨rfl, rfl⟩
 refine AWP_sq [2, 3] fun K1 hK1 => ?_
 obtain ⟨r1, hr1, H⟩ := bindE H
 refine AWP_sr tok [] [2, 3, 10] (fun a σ => a = [(2, .fptr [.fsl (encL rMachine p0.Harts), .fsl (encL rBox p0.Boxes), .int .i64 p0.Turn, .int .i64 p0.Idle, .fsl (encL rI p0.Out)] 0), (3, .fptr [.fsl (encL rMachine p1.Harts), .fsl (encL rBox p1.Boxes), .int .i64 p1.Turn, .int .i64 p1.Idle, .fsl (encL rI p1.Out)] 0), (10, .bool (bnot r1))] ∧ σ = hp E0 [] (N0 + 9)) (fun K hK => ?_) ?_
 ·
  skip
  simp -dsimp -implicitDefEqProofs (maxDischargeDepth := 6)
  refine (c64 hr1).app ?_; try simp -dsimp -implicitDefEqProofs (maxDischargeDepth := 6)
  exact hK _ _ ⟨rfl, rfl⟩
 rintro a σ ⟨rfl, rfl⟩
 refine AWP_cond (bnot r1) rfl (fun C1 => ?_) (fun C1 => ?_)
 ·
  replace H := ifT C1 H
  refine AWP_sr tok [] [4] (fun a σ => a = [(4, .bool false)] ∧ σ = hp E0 [] (N0 + 10)) (fun K hK => ?_) ?_
  ·
   skip
   simp -dsimp -implicitDefEqProofs (maxDischargeDepth := 6)
   exact hK _ _ ⟨rfl, rfl⟩
  rintro a σ ⟨rfl, rfl⟩
  replace H := Option.some.inj H; subst H
  refine AWP_kp [4] [(4, .bool false)] rfl ?_
  refine AWP_ret ?_
  exact ⟨[.bool false], by simp, 4, by simp [encL_nil]⟩
 ·
  replace H := ifF C1 H
  refine AWP_skip ?_
  show K1 _ _
  refine keepE (l := [2, 3]) (x := [(2, .fptr [.fsl (encL rMachine p0.Harts), .fsl (encL rBox p0.Boxes), .int .i64 p0.Turn, .int .i64 p0.Idle, .fsl (encL rI p0.Out)] 0), (3, .fptr [.fsl (encL rMachine p1.Harts), .fsl (encL rBox p1.Boxes), .int .i64 p1.Turn, .int .i64 p1.Idle, .fsl (encL rI p1.Out)] 0)]) rfl fun a' ha => ?_
  refine hK1 _ _ ?_; rw [ha]
  refine Rc.mk ?_
  refine AWP_sq [2, 3] fun K2 hK2 => ?_
  obtain ⟨r2, hr2, H⟩ := bindE H
  refine AWP_sr tok [] [2, 3, 16] (fun a σ => a = [(2, .fptr [.fsl (encL rMachine p0.Harts), .fsl (encL rBox p0.Boxes), .int .i64 p0.Turn, .int .i64 p0.Idle, .fsl (encL rI p0.Out)] 0), (3, .fptr [.fsl (encL rMachine p1.Harts), .fsl (encL rBox p1.Boxes), .int .i64 p1.Turn, .int .i64 p1.Idle, .fsl (encL rI p1.Out)] 0), (16, .bool (bnot r2))] ∧ σ = hp E0 [] (N0 + 15)) (fun K hK => ?_) ?_
  ·
   skip
   simp -dsimp -implicitDefEqProofs (maxDischargeDepth := 6)
   refine (c15 hr2).app ?_; try simp -dsimp -implicitDefEqProofs (maxDischargeDepth := 6)
   exact hK _ _ ⟨rfl, rfl⟩
  rintro a σ ⟨rfl, rfl⟩
  refine AWP_cond (bnot r2) rfl (fun C2 => ?_) (fun C2 => ?_)
  ·
   replace H := ifT C2 H
   refine AWP_sr tok [] [4] (fun a σ => a = [(4, .bool false)] ∧ σ = hp E0 [] (N0 + 16)) (fun K hK => ?_) ?_
   ·
    skip
    simp -dsimp -implicitDefEqProofs (maxDischargeDepth := 6)
    exact hK _ _ ⟨rfl, rfl⟩
   rintro a σ ⟨rfl, rfl⟩
   replace H := Option.some.inj H; subst H
   refine AWP_kp [4] [(4, .bool false)] rfl ?_
   refine AWP_ret ?_
   exact ⟨[.bool false], by simp, 4, by simp [encL_nil]⟩
  ·
   replace H := ifF C2 H
   refine AWP_skip ?_
   show K2 _ _
   refine keepE (l := [2, 3]) (x := [(2, .fptr [.fsl (encL rMachine p0.Harts), .fsl (encL rBox p0.Boxes), .int .i64 p0.Turn, .int .i64 p0.Idle, .fsl (encL rI p0.Out)] 0), (3, .fptr [.fsl (encL rMachine p1.Harts), .fsl (encL rBox p1.Boxes), .int .i64 p1.Turn, .int .i64 p1.Idle, .fsl (encL rI p1.Out)] 0)]) rfl fun a' ha => ?_
   refine hK2 _ _ ?_; rw [ha]
   refine Rc.mk ?_
   refine AWP_sq [2, 3] fun K3 hK3 => ?_
   refine AWP_sr tok [] [2, 3, 21] (fun a σ => a = [(2, .fptr [.fsl (encL rMachine p0.Harts), .fsl (encL rBox p0.Boxes), .int .i64 p0.Turn, .int .i64 p0.Idle, .fsl (encL rI p0.Out)] 0), (3, .fptr [.fsl (encL rMachine p1.Harts), .fsl (encL rBox p1.Boxes), .int .i64 p1.Turn, .int .i64 p1.Idle, .fsl (encL rI p1.Out)] 0), (21, .bool (ine p0.Turn p1.Turn))] ∧ σ = hp E0 [] (N0 + 20)) (fun K hK => ?_) ?_
   ·
    skip
    simp -dsimp -implicitDefEqProofs (maxDischargeDepth := 6)
    exact hK _ _ ⟨rfl, rfl⟩
   rintro a σ ⟨rfl, rfl⟩
   refine AWP_cond (ine p0.Turn p1.Turn) rfl (fun C3 => ?_) (fun C3 => ?_)
   ·
    replace H := ifT C3 H
    refine AWP_sr tok [] [4] (fun a σ => a = [(4, .bool false)] ∧ σ = hp E0 [] (N0 + 21)) (fun K hK => ?_) ?_
    ·
     skip
     simp -dsimp -implicitDefEqProofs (maxDischargeDepth := 6)
     exact hK _ _ ⟨rfl, rfl⟩
    rintro a σ ⟨rfl, rfl⟩
    replace H := Option.some.inj H; subst H
    refine AWP_kp [4] [(4, .bool false)] rfl ?_
    refine AWP_ret ?_
    exact ⟨[.bool false], by simp, 4, by simp [encL_nil]⟩
   ·
    replace H := ifF C3 H
    refine AWP_skip ?_
    show K3 _ _
    refine keepE (l := [2, 3]) (x := [(2, .fptr [.fsl (encL rMachine p0.Harts), .fsl (encL rBox p0.Boxes), .int .i64 p0.Turn, .int .i64 p0.Idle, .fsl (encL rI p0.Out)] 0), (3, .fptr [.fsl (encL rMachine p1.Harts), .fsl (encL rBox p1.Boxes), .int .i64 p1.Turn, .int .i64 p1.Idle, .fsl (encL rI p1.Out)] 0)]) rfl fun a' ha => ?_
    refine hK3 _ _ ?_; rw [ha]
    refine Rc.mk ?_
    refine AWP_sq [2, 3] fun K4 hK4 => ?_
    refine AWP_sr tok [] [2, 3, 26] (fun a σ => a = [(2, .fptr [.fsl (encL rMachine p0.Harts), .fsl (encL rBox p0.Boxes), .int .i64 p0.Turn, .int .i64 p0.Idle, .fsl (encL rI p0.Out)] 0), (3, .fptr [.fsl (encL rMachine p1.Harts), .fsl (encL rBox p1.Boxes), .int .i64 p1.Turn, .int .i64 p1.Idle, .fsl (encL rI p1.Out)] 0), (26, .bool (ine p0.Idle p1.Idle))] ∧ σ = hp E0 [] (N0 + 25)) (fun K hK => ?_) ?_
    ·
     skip
     simp -dsimp -implicitDefEqProofs (maxDischargeDepth := 6)
     exact hK _ _ ⟨rfl, rfl⟩
    rintro a σ ⟨rfl, rfl⟩
    refine AWP_cond (ine p0.Idle p1.Idle) rfl (fun C4 => ?_) (fun C4 => ?_)
    ·
     replace H := ifT C4 H
     refine AWP_sr tok [] [4] (fun a σ => a = [(4, .bool false)] ∧ σ = hp E0 [] (N0 + 26)) (fun K hK => ?_) ?_
     ·
      skip
      simp -dsimp -implicitDefEqProofs (maxDischargeDepth := 6)
      exact hK _ _ ⟨rfl, rfl⟩
     rintro a σ ⟨rfl, rfl⟩
     replace H := Option.some.inj H; subst H
     refine AWP_kp [4] [(4, .bool false)] rfl ?_
     refine AWP_ret ?_
     exact ⟨[.bool false], by simp, 4, by simp [encL_nil]⟩
    ·
     replace H := ifF C4 H
     refine AWP_skip ?_
     show K4 _ _
     refine keepE (l := [2, 3]) (x := [(2, .fptr [.fsl (encL rMachine p0.Harts), .fsl (encL rBox p0.Boxes), .int .i64 p0.Turn, .int .i64 p0.Idle, .fsl (encL rI p0.Out)] 0), (3, .fptr [.fsl (encL rMachine p1.Harts), .fsl (encL rBox p1.Boxes), .int .i64 p1.Turn, .int .i64 p1.Idle, .fsl (encL rI p1.Out)] 0)]) rfl fun a' ha => ?_
     refine hK4 _ _ ?_; rw [ha]
     refine Rc.mk ?_
     refine AWP_sq [] fun K5 hK5 => ?_
     obtain ⟨r3, hr3, H⟩ := bindE H
     refine AWP_sr tok [] [32] (fun a σ => a = [(32, .bool (bnot r3))] ∧ σ = hp E0 [] (N0 + 31)) (fun K hK => ?_) ?_
     ·
      skip
      simp -dsimp -implicitDefEqProofs (maxDischargeDepth := 6)
      refine (c16 hr3).app ?_; try simp -dsimp -implicitDefEqProofs (maxDischargeDepth := 6)
      exact hK _ _ ⟨rfl, rfl⟩
     rintro a σ ⟨rfl, rfl⟩
     refine AWP_cond (bnot r3) rfl (fun C5 => ?_) (fun C5 => ?_)
     ·
      replace H := ifT C5 H
      refine AWP_sr tok [] [4] (fun a σ => a = [(4, .bool false)] ∧ σ = hp E0 [] (N0 + 32)) (fun K hK => ?_) ?_
      ·
       skip
       simp -dsimp -implicitDefEqProofs (maxDischargeDepth := 6)
       exact hK _ _ ⟨rfl, rfl⟩
      rintro a σ ⟨rfl, rfl⟩
      replace H := Option.some.inj H; subst H
      refine AWP_kp [4] [(4, .bool false)] rfl ?_
      refine AWP_ret ?_
      exact ⟨[.bool false], by simp, 4, by simp [encL_nil]⟩
     ·
      replace H := ifF C5 H
      refine AWP_skip ?_
      show K5 _ _
      refine keepE (l := []) (x := []) rfl fun a' ha => ?_
      refine hK5 _ _ ?_; rw [ha]
      refine Rc.mk ?_
      refine AWP_sr tok [] [4] (fun a σ => a = [(4, .bool true)] ∧ σ = hp E0 [] (N0 + 32)) (fun K hK => ?_) ?_
      ·
       skip
       simp -dsimp -implicitDefEqProofs (maxDischargeDepth := 6)
       exact hK _ _ ⟨rfl, rfl⟩
      rintro a σ ⟨rfl, rfl⟩
      replace H := Option.some.inj H; subst H
      refine AWP_kp [4] [(4, .bool true)] rfl ?_
      refine AWP_ret ?_
      exact ⟨[.bool true], by simp, 4, by simp [encL_nil]⟩
theorem c65 {p0 : (List gMachine)} {p1 : Int} {r : Int × (List gMachine)} (H : l_markMachineS p0 p1 = some r) {σ : AHeap} {w0 : Nat} (q0 : σ.objs w0 = some ⟨28, 3, encL rMachine_oo p0⟩) : ACalls Try.prog G 65 [.sl w0 0 p0.length, .int .i64 p1] σ (fun v σ' => ∃ M : Nat, σ.next ≤ M ∧ r.2.length = p0.length ∧ v = .int .i64 r.1 ∧ σ' = hp σ.objs [(w0, some ⟨28, 3, encL rMachine_oo r.2⟩)] M) := by
 refine ACalls_fr (L := [(w0, some ⟨28, 3, encL rMachine_oo p0⟩)]) (Q1 := fun v σ' => ∃ M : Nat, σ.next ≤ M ∧ r.2.length = p0.length ∧ v = .int .i64 r.1 ∧ σ' = hp E0 [(w0, some ⟨28, 3, encL rMachine_oo r.2⟩)] M) (by simp [q0]) (fun hlt => ?_) ?_ ⟨_, Try.func65, rfl, rfl⟩
 rotate_left
 ·
  rintro v σ1 ⟨M, h0, h1, rfl, rfl⟩
  exact ⟨_, M, rfl, by simp, by simp; try omega, M, h0, h1, rfl, rfl⟩
 generalize σ.next = N0 at hlt ⊢
 have lw0 : w0 < N0 := hlt _ (.head _) rfl
 refine ACalls_fn tok Try.func65 (by kernel_rfl) rfl Try.ntmps65 Try.results65 rfl ?_
 simp only [argsA, Nat.reduceAdd, hp_next]
 unfold l_markMachineS at H
 refine AWP_sr tok [] [0, 1] (fun a σ => a = [(0, .sl w0 0 p0.length), (1, .int .i64 p1)] ∧ σ = hp E0 [(w0, some ⟨28, 3, encL rMachine_oo p0⟩)] (N0 + 1)) (fun K hK => ?_) ?_
 ·
  skip
  simp -dsimp -implicitDefEqProofs (maxDischargeDepth := 6)
  exact hK _ _ ⟨rfl, rfl⟩
 rintro a σ ⟨rfl, rfl⟩
 refine AWP_sq [1] fun K1 hK1 => ?_
 refine AWP_sr tok [] [0, 1, 5] (fun a σ => a = [(0, .sl w0 0 p0.length), (1, .int .i64 p1), (5, .int .i64 0)] ∧ σ = hp E0 [(w0, some ⟨28, 3, encL rMachine_oo p0⟩)] (N0 + 2)) (fun K hK => ?_) ?_
 ·
  skip
  simp -dsimp -implicitDefEqProofs (maxDischargeDepth := 6)
  exact hK _ _ ⟨rfl, rfl⟩
 rintro a σ ⟨rfl, rfl⟩
 refine AWP_block (AWP_thenB ?_)
 obtain ⟨e1, hse1, H⟩ := bindE H
 refine AWP_lp [0, 1, 5] (fun s a σ => ∃ M1 : Nat, N0 ≤ M1 ∧ s.2.2.length = p0.length ∧ a = [(0, .sl w0 0 s.2.2.length), (1, .int .i64 s.1), (5, .int .i64 s.2.1)] ∧ σ = hp E0 [(w0, some ⟨28, 3, encL rMachine_oo s.2.2⟩)] M1) (fun s x a σ => x = .exit 0 ∧ Rc G 34 N0 (fun a σ => ∃ M2 : Nat, N0 ≤ M2 ∧ s.2.length = p0.length ∧ a = [(1, .int .i64 s.1)] ∧ σ = hp E0 [(w0, some ⟨28, 3, encL rMachine_oo s.2⟩)] M2) (AAct.keep a [1]) σ) hse1 ?_ ?_ ?_
 ·
  refine Rc.kp [0, 1, 5] [(0, .sl w0 0 p0.length), (1, .int .i64 p1), (5, .int .i64 0)] rfl ?_
  exact Rc.fin (AHeap.Sub.refl _) ⟨N0 + 2, (by omega), (by first | rfl | exact rfl | omega), rfl, rfl⟩
 ·
  clear H hse1
  rintro ⟨s1, s2, s3⟩ fl a σ H ⟨M1, fM1_0, fM1_1, rfl, rfl⟩ K2 O2 hK2 hO2
  unfold l_markMachineS_L1 at H; dsimp only at H
  refine AWP_sq [0, 1, 5] fun K3 hK3 => ?_
  refine AWP_sr tok [] [0, 1, 5, 9] (fun a σ => a = [(0, .sl w0 0 s3.length), (1, .int .i64 s1), (5, .int .i64 s2), (9, .bool (ilt s2 (ilen s3)))] ∧ σ = hp E0 [(w0, some ⟨28, 3, encL rMachine_oo s3⟩)] (M1 + 4)) (fun K hK => ?_) ?_
  ·
   skip
   simp -dsimp -implicitDefEqProofs (maxDischargeDepth := 6)
   exact hK _ _ ⟨rfl, rfl⟩
  rintro a σ ⟨rfl, rfl⟩
  refine AWP_cond (ilt s2 (ilen s3)) rfl (fun C1 => ?_) (fun C1 => ?_)
  ·
   replace H := ifT C1 H
   refine AWP_skip ?_
   show K3 _ _
   refine keepE (l := [0, 1, 5]) (x := [(0, .sl w0 0 s3.length), (1, .int .i64 s1), (5, .int .i64 s2)]) rfl fun a' ha => ?_
   refine hK3 _ _ ?_; rw [ha]
   refine Rc.mk ?_
   refine AWP_sq [0, 1, 5] fun K4 hK4 => ?_
   refine AWP_block (AWP_thenB ?_)
   obtain ⟨v6, hv6, H⟩ := bindE H
   refine gUnp AWP_ref (ty := 3) (sz := 1) (es := encL rI v6.Regs) (o := w0) (ob := ⟨28, 3, encL rMachine_oo s3⟩) (row := [.osl 3 1 (encL rI v6.Regs), .int .i64 v6.Pc, .osl 3 1 (encL rI v6.Mem)]) (r := s2.toNat) (i := 0) [(w0, some ⟨28, 3, (encL rMachine_oo s3).set s2.toNat [.sl (M1 + 4) 0 v6.Regs.length, .int .i64 v6.Pc, .osl 3 1 (encL rI v6.Mem)]⟩), (M1 + 4, some ⟨3, 1, encL rI v6.Regs⟩)] (by simp (disch := omega)) (encL_at rMachine_oo hv6) rfl (by simp (disch := omega) [List.set_set]) ?_
   obtain ⟨r7, hr7, H⟩ := bindE H
   refine AWP_sr tok [] [0, 1, 5] (fun a σ => ∃ M3 : Nat, M1 + 13 ≤ M3 ∧ r7.2.length = v6.Regs.length ∧ a = [(0, .sl w0 0 s3.length), (1, .int .i64 r7.1), (5, .int .i64 s2)] ∧ σ = hp E0 [(w0, some ⟨28, 3, (encL rMachine_oo s3).set s2.toNat [.sl (M1 + 4) 0 v6.Regs.length, .int .i64 v6.Pc, .osl 3 1 (encL rI v6.Mem)]⟩), (M1 + 4, some ⟨3, 1, encL rI r7.2⟩)] M3) (fun K hK => ?_) ?_
   ·
    skip
    have e0 := nq (a := w0) (b := M1 + 4) (by omega)
    simp -dsimp -implicitDefEqProofs (maxDischargeDepth := 6) [e0, (gset hv6 _), List.set_set, ixo50 hv6, (idx_lt3 hv6).2.2]
    refine (c19 (H := hr7) (by simp [e0, (gset hv6 _), List.set_set, ixo50 hv6, (idx_lt3 hv6).2.2])).mono ?_; rintro _ _ ⟨M3, fM3_0, fM3_1, rfl, rfl⟩; simp only [hp_next] at fM3_0
    try simp -dsimp -implicitDefEqProofs (maxDischargeDepth := 6) [e0, (gset hv6 _), List.set_set, ixo50 hv6, (idx_lt3 hv6).2.2, hp_over_some, hp_over_none]
    exact hK _ _ ⟨M3, (by omega), fM3_1, rfl, rfl⟩
   rintro a σ ⟨M3, fM3_0, fM3_1, rfl, rfl⟩
   try rw [← fM3_1]
   refine AWP_sr tok [] [0, 1, 5] (fun a σ => a = [(0, .sl w0 0 s3.length), (1, .int .i64 r7.1), (5, .int .i64 s2)] ∧ σ = hp E0 [(w0, some ⟨28, 3, (encL rMachine_oo s3).set s2.toNat [.sl (M1 + 4) 0 r7.2.length, .int .i64 r7.1, .osl 3 1 (encL rI v6.Mem)]⟩), (M1 + 4, some ⟨3, 1, encL rI r7.2⟩)] (M3 + 6)) (fun K hK => ?_) ?_
   ·
    skip
    have e0 := nq (a := w0) (b := M1 + 4) (by omega)
    simp -dsimp -implicitDefEqProofs (maxDischargeDepth := 6) [e0, (gset hv6 _), List.set_set, ixo50 hv6, (idx_lt3 hv6).2.2]
    exact hK _ _ ⟨rfl, rfl⟩
   rintro a σ ⟨rfl, rfl⟩
   refine AWP_sr tok [] [0, 1, 5] (fun a σ => a = [(0, .sl w0 0 s3.length), (1, .int .i64 (iadd .i64 r7.1 1)), (5, .int .i64 s2)] ∧ σ = hp E0 [(w0, some ⟨28, 3, (encL rMachine_oo s3).set s2.toNat [.sl (M1 + 4) 0 r7.2.length, .int .i64 r7.1, .osl 3 1 (encL rI v6.Mem)]⟩), (M1 + 4, some ⟨3, 1, encL rI r7.2⟩)] (M3 + 9)) (fun K hK => ?_) ?_
   ·
    skip
    have e0 := nq (a := w0) (b := M1 + 4) (by omega)
    simp -dsimp -implicitDefEqProofs (maxDischargeDepth := 6) [e0, (gset hv6 _), List.set_set]
    exact hK _ _ ⟨rfl, rfl⟩
   rintro a σ ⟨rfl, rfl⟩
   refine gPk AWP_ref (k := r7.2.length) (o := w0) (ob := ⟨28, 3, (encL rMachine_oo s3).set s2.toNat [.sl (M1 + 4) 0 r7.2.length, .int .i64 r7.1, .osl 3 1 (encL rI v6.Mem)]⟩) (row := [.sl (M1 + 4) 0 r7.2.length, .int .i64 r7.1, .osl 3 1 (encL rI v6.Mem)]) (d := (M1 + 4)) (obd := ⟨3, 1, encL rI r7.2⟩) (r := s2.toNat) (i := 0) [(w0, some ⟨28, 3, (encL rMachine_oo s3).set s2.toNat [.osl 3 1 (encL rI r7.2), .int .i64 r7.1, .osl 3 1 (encL rI v6.Mem)]⟩)] (by simp (disch := omega)) (gset hv6 _) rfl (by simp (disch := omega)) (by simp (disch := omega)) (by first | omega | simp) (by simp (disch := omega) [List.set_set, app_set] <;> omega) (by simp (disch := omega) [List.set_set, app_set]) ?_
   obtain ⟨l8, hl8, H⟩ := bindE H
   rw [show hp E0 [(w0, some ⟨28, 3, (encL rMachine_oo s3).set s2.toNat [.osl 3 1 (encL rI r7.2), .int .i64 r7.1, .osl 3 1 (encL rI v6.Mem)]⟩)] (M3 + 9) = hp E0 [(w0, some ⟨28, 3, encL rMachine_oo l8⟩)] (M3 + 9) from by rw [(setx_iff.1 hl8).2, ← encL_set]; rfl]; (try rw [← setx_len hl8])
   obtain ⟨v9, hv9, H⟩ := bindE H
   refine gUnp AWP_ref (ty := 3) (sz := 1) (es := encL rI v9.Mem) (o := w0) (ob := ⟨28, 3, encL rMachine_oo l8⟩) (row := [.osl 3 1 (encL rI v9.Regs), .int .i64 v9.Pc, .osl 3 1 (encL rI v9.Mem)]) (r := s2.toNat) (i := 2) [(w0, some ⟨28, 3, (encL rMachine_oo l8).set s2.toNat [.osl 3 1 (encL rI v9.Regs), .int .i64 v9.Pc, .sl (M3 + 9) 0 v9.Mem.length]⟩), (M3 + 9, some ⟨3, 1, encL rI v9.Mem⟩)] (by simp (disch := omega)) (encL_at rMachine_oo hv9) rfl (by simp (disch := omega) [List.set_set]) ?_
   obtain ⟨r10, hr10, H⟩ := bindE H
   refine AWP_rt tok [] [0, 1, 5] (fun a σ => ∃ M4 : Nat, M3 + 18 ≤ M4 ∧ r10.2.length = v9.Mem.length ∧ a = [(0, .sl w0 0 l8.length), (1, .int .i64 r10.1), (5, .int .i64 s2)] ∧ σ = hp E0 [(w0, some ⟨28, 3, (encL rMachine_oo l8).set s2.toNat [.osl 3 1 (encL rI v9.Regs), .int .i64 v9.Pc, .sl (M3 + 9) 0 v9.Mem.length]⟩), (M3 + 9, some ⟨3, 1, encL rI r10.2⟩)] M4) (fun K hK => ?_) ?_
   ·
    skip
    have e0 := nq (a := w0) (b := M3 + 9) (by omega)
    simp -dsimp -implicitDefEqProofs (maxDischargeDepth := 6) [e0, (gset hv9 _), List.set_set, ixo50 hv9, (idx_lt3 hv9).2.2]
    refine (c19 (H := hr10) (by simp [e0, (gset hv9 _), List.set_set, ixo50 hv9, (idx_lt3 hv9).2.2])).mono ?_; rintro _ _ ⟨M4, fM4_0, fM4_1, rfl, rfl⟩; simp only [hp_next] at fM4_0
    try simp -dsimp -implicitDefEqProofs (maxDischargeDepth := 6) [e0, (gset hv9 _), List.set_set, ixo50 hv9, (idx_lt3 hv9).2.2, hp_over_some, hp_over_none]
    exact hK _ _ ⟨M4, (by omega), fM4_1, rfl, rfl⟩
   rintro a σ ⟨M4, fM4_0, fM4_1, ha, rfl⟩
   (try rw [← fM4_1] at ha); (try rw [← fM4_1])
   refine hK4 _ _ ?_; rw [ha]
   refine Rc.mk ?_
   refine AWP_rt tok [] [0, 1, 5] (fun a σ => a = [(0, .sl w0 0 l8.length), (1, .int .i64 r10.1), (5, .int .i64 (iadd .i64 s2 1))] ∧ σ = hp E0 [(w0, some ⟨28, 3, (encL rMachine_oo l8).set s2.toNat [.osl 3 1 (encL rI v9.Regs), .int .i64 v9.Pc, .sl (M3 + 9) 0 r10.2.length]⟩), (M3 + 9, some ⟨3, 1, encL rI r10.2⟩)] (M4 + 3)) (fun K hK => ?_) ?_
   ·
    skip
    have e0 := nq (a := w0) (b := M3 + 9) (by omega)
    simp -dsimp -implicitDefEqProofs (maxDischargeDepth := 6) [e0, (gset hv9 _), List.set_set]
    exact hK _ _ ⟨rfl, rfl⟩
   rintro a σ ⟨ha, rfl⟩
   obtain ⟨l11, hl11, H⟩ := bindE H
   replace H := Option.some.inj H; subst H
   refine hK2 _ _ _ rfl ?_; rw [ha]
   refine gPk Rc_ref (k := r10.2.length) (o := w0) (ob := ⟨28, 3, (encL rMachine_oo l8).set s2.toNat [.osl 3 1 (encL rI v9.Regs), .int .i64 v9.Pc, .sl (M3 + 9) 0 r10.2.length]⟩) (row := [.osl 3 1 (encL rI v9.Regs), .int .i64 v9.Pc, .sl (M3 + 9) 0 r10.2.length]) (d := (M3 + 9)) (obd := ⟨3, 1, encL rI r10.2⟩) (r := s2.toNat) (i := 2) [(w0, some ⟨28, 3, (encL rMachine_oo l8).set s2.toNat [.osl 3 1 (encL rI v9.Regs), .int .i64 v9.Pc, .osl 3 1 (encL rI r10.2)]⟩)] (by simp (disch := omega)) (gset hv9 _) rfl (by simp (disch := omega)) (by simp (disch := omega)) (by first | omega | simp) (by simp (disch := omega) [List.set_set, app_set] <;> omega) (by simp (disch := omega) [List.set_set, app_set]) ?_
   rw [show hp E0 [(w0, some ⟨28, 3, (encL rMachine_oo l8).set s2.toNat [.osl 3 1 (encL rI v9.Regs), .int .i64 v9.Pc, .osl 3 1 (encL rI r10.2)]⟩)] (M4 + 3) = hp E0 [(w0, some ⟨28, 3, encL rMachine_oo l11⟩)] (M4 + 3) from by rw [(setx_iff.1 hl11).2, ← encL_set]; rfl]; (try rw [← setx_len hl11])
   exact Rc.fin (AHeap.Sub.refl _) ⟨M4 + 3, (by omega), (by first | rfl | exact ((setx_len hl11).trans ((setx_len hl8).trans fM1_1)) | omega), rfl, rfl⟩
  ·
   replace H := ifF C1 H
   replace H := Option.some.inj H; subst H
   refine AWP_exit (hO2 _ _ _ _ rfl ⟨rfl, ?_⟩)
   refine Rc.rw (l := [1]) (X := [(1, .int .i64 s1)]) rfl ?_
   exact Rc.fin (AHeap.Sub.refl _) ⟨M1 + 4, (by omega), (by first | rfl | exact fM1_1 | omega), rfl, rfl⟩
 ·
  intro x a σ hx
  obtain ⟨y4, y5⟩ := e1
  obtain ⟨rfl, b, τ, hr, M2, fM2_0, fM2_1, rfl, rfl⟩ := hx
  dsimp only at H
  show K1 _ _
  refine hK1 _ _ (Rc_ref hr ?_)
  refine Rc.mk ?_
  refine AWP_sr tok [] [4] (fun a σ => a = [(4, .int .i64 y4)] ∧ σ = hp E0 [(w0, some ⟨28, 3, encL rMachine_oo y5⟩)] (M2 + 2)) (fun K hK => ?_) ?_
  ·
   skip
   simp -dsimp -implicitDefEqProofs (maxDischargeDepth := 6)
   exact hK _ _ ⟨rfl, rfl⟩
  rintro a σ ⟨rfl, rfl⟩
  replace H := Option.some.inj H; subst H
  refine AWP_kp [4] [(4, .int .i64 y4)] rfl ?_
  refine AWP_ret ?_
  refine ⟨[.int .i64 y4], by simp, M2 + 2, by omega, by first | rfl | exact fM2_1 | omega, ?_, ?_⟩
  ·
   simp [encL_nil]
  ·
   first | rfl | simp [List.set_set]
theorem c29 {p0 : gSquad} {p1 : Int} {r : Int × gSquad} (H : l_markSquad p0 p1 = some r) {σ : AHeap} {w0_0 : Nat} {w0_1 : Nat} {w0_2 : Nat} (q0_0 : σ.objs w0_0 = some ⟨28, 3, encL rMachine_oo p0.Harts⟩) (q0_1 : σ.objs w0_1 = some ⟨64, 2, encL rBox_o p0.Boxes⟩) (q0_2 : σ.objs w0_2 = some ⟨3, 1, encL rI p0.Out⟩) (d0_1 : ¬ w0_0 = w0_1) (d0_2 : ¬ w0_0 = w0_2) (d1_2 : ¬ w0_1 = w0_2) : ACalls Try.prog G 29 [.agg [.sl w0_0 0 p0.Harts.length, .sl w0_1 0 p0.Boxes.length, .int .i64 p0.Turn, .int .i64 p0.Idle, .sl w0_2 0 p0.Out.length], .int .i64 p1] σ (fun v σ' => ∃ M : Nat, σ.next ≤ M ∧ r.2.Harts.length = p0.Harts.length ∧ r.2.Boxes.length = p0.Boxes.length ∧ r.2.Out.length = p0.Out.length ∧ v = .int .i64 r.1 ∧ σ' = hp σ.objs [(w0_0, some ⟨28, 3, encL rMachine_oo r.2.Harts⟩), (w0_1, some ⟨64, 2, encL rBox_o r.2.Boxes⟩), (w0_2, some ⟨3, 1, encL rI r.2.Out⟩)] M) := by
 refine ACalls_fr (L := [(w0_0, some ⟨28, 3, encL rMachine_oo p0.Harts⟩), (w0_1, some ⟨64, 2, encL rBox_o p0.Boxes⟩), (w0_2, some ⟨3, 1, encL rI p0.Out⟩)]) (Q1 := fun v σ' => ∃ M : Nat, σ.next ≤ M ∧ r.2.Harts.length = p0.Harts.length ∧ r.2.Boxes.length = p0.Boxes.length ∧ r.2.Out.length = p0.Out.length ∧ v = .int .i64 r.1 ∧ σ' = hp E0 [(w0_0, some ⟨28, 3, encL rMachine_oo r.2.Harts⟩), (w0_1, some ⟨64, 2, encL rBox_o r.2.Boxes⟩), (w0_2, some ⟨3, 1, encL rI r.2.Out⟩)] M) (by simp [q0_0, q0_1, q0_2]) (fun hlt => ?_) ?_ ⟨_, Try.func29, rfl, rfl⟩
 rotate_left
 ·
  rintro v σ1 ⟨M, h0, h1, h2, h3, rfl, rfl⟩
  exact ⟨_, M, rfl, by simp, by simp; try omega, M, h0, h1, h2, h3, rfl, rfl⟩
 generalize σ.next = N0 at hlt ⊢
 have lw0_0 : w0_0 < N0 := hlt _ (.head _) rfl
 have lw0_1 : w0_1 < N0 := hlt _ (.tail _ (.head _)) rfl
 have lw0_2 : w0_2 < N0 := hlt _ (.tail _ (.tail _ (.head _))) rfl
 refine ACalls_fn tok Try.func29 (by kernel_rfl) rfl Try.ntmps29 Try.results29 rfl ?_
 simp only [argsA, Nat.reduceAdd, hp_next]
 unfold l_markSquad at H
 refine AWP_sr tok [0] [1, 2] (fun a σ => a = [(1, .int .i64 p1), (2, .fptr [.sl w0_0 0 p0.Harts.length, .sl w0_1 0 p0.Boxes.length, .int .i64 p0.Turn, .int .i64 p0.Idle, .sl w0_2 0 p0.Out.length] 0)] ∧ σ = hp E0 [(w0_0, some ⟨28, 3, encL rMachine_oo p0.Harts⟩), (w0_1, some ⟨64, 2, encL rBox_o p0.Boxes⟩), (w0_2, some ⟨3, 1, encL rI p0.Out⟩)] (N0 + 2)) (fun K hK => ?_) ?_
 ·
  skip
  have e0 := nq (a := w0_0) (b := w0_1) (by omega)
  have e1 := nq (a := w0_0) (b := w0_2) (by omega)
  have e2 := nq (a := w0_1) (b := w0_2) (by omega)
  simp -dsimp -implicitDefEqProofs (maxDischargeDepth := 6) [e0, e1, e2]
  exact hK _ _ ⟨rfl, rfl⟩
 rintro a σ ⟨rfl, rfl⟩
 obtain ⟨r1, hr1, H⟩ := bindE H
 refine AWP_sr tok [] [1, 2] (fun a σ => ∃ M1 : Nat, N0 + 7 ≤ M1 ∧ r1.2.length = p0.Harts.length ∧ a = [(1, .int .i64 r1.1), (2, .fptr [.sl w0_0 0 p0.Harts.length, .sl w0_1 0 p0.Boxes.length, .int .i64 p0.Turn, .int .i64 p0.Idle, .sl w0_2 0 p0.Out.length] 0)] ∧ σ = hp E0 [(w0_0, some ⟨28, 3, encL rMachine_oo r1.2⟩), (w0_1, some ⟨64, 2, encL rBox_o p0.Boxes⟩), (w0_2, some ⟨3, 1, encL rI p0.Out⟩)] M1) (fun K hK => ?_) ?_
 ·
  skip
  have e0 := nq (a := w0_0) (b := w0_1) (by omega)
  have e1 := nq (a := w0_0) (b := w0_2) (by omega)
  have e2 := nq (a := w0_1) (b := w0_2) (by omega)
  simp -dsimp -implicitDefEqProofs (maxDischargeDepth := 6) [e0, e1, e2]
  refine (c65 (H := hr1) (by simp [e0, e1, e2])).mono ?_; rintro _ _ ⟨M1, fM1_0, fM1_1, rfl, rfl⟩; simp only [hp_next] at fM1_0
  try simp -dsimp -implicitDefEqProofs (maxDischargeDepth := 6) [e0, e1, e2, hp_over_some, hp_over_none]
  exact hK _ _ ⟨M1, (by omega), fM1_1, rfl, rfl⟩
 rintro a σ ⟨M1, fM1_0, fM1_1, rfl, rfl⟩
 try rw [← fM1_1]
 obtain ⟨r2, hr2, H⟩ := bindE H
 refine AWP_sr tok [] [1, 2] (fun a σ => ∃ M2 : Nat, M1 + 5 ≤ M2 ∧ r2.2.length = p0.Boxes.length ∧ a = [(1, .int .i64 r2.1), (2, .fptr [.sl w0_0 0 r1.2.length, .sl w0_1 0 p0.Boxes.length, .int .i64 p0.Turn, .int .i64 p0.Idle, .sl w0_2 0 p0.Out.length] 0)] ∧ σ = hp E0 [(w0_0, some ⟨28, 3, encL rMachine_oo r1.2⟩), (w0_1, some ⟨64, 2, encL rBox_o r2.2⟩), (w0_2, some ⟨3, 1, encL rI p0.Out⟩)] M2) (fun K hK => ?_) ?_
 ·
  skip
  have e0 := nq (a := w0_0) (b := w0_1) (by omega)
  have e1 := nq (a := w0_0) (b := w0_2) (by omega)
  have e2 := nq (a := w0_1) (b := w0_2) (by omega)
  simp -dsimp -implicitDefEqProofs (maxDischargeDepth := 6) [e0, e1, e2]
  refine (c18 (H := hr2) (by simp [e0, e1, e2])).mono ?_; rintro _ _ ⟨M2, fM2_0, fM2_1, rfl, rfl⟩; simp only [hp_next] at fM2_0
  try simp -dsimp -implicitDefEqProofs (maxDischargeDepth := 6) [e0, e1, e2, hp_over_some, hp_over_none]
  exact hK _ _ ⟨M2, (by omega), fM2_1, rfl, rfl⟩
 rintro a σ ⟨M2, fM2_0, fM2_1, rfl, rfl⟩
 try rw [← fM2_1]
 obtain ⟨r3, hr3, H⟩ := bindE H
 refine AWP_sr tok [] [1] (fun a σ => ∃ M3 : Nat, M2 + 5 ≤ M3 ∧ r3.2.length = p0.Out.length ∧ a = [(1, .int .i64 r3.1)] ∧ σ = hp E0 [(w0_0, some ⟨28, 3, encL rMachine_oo r1.2⟩), (w0_1, some ⟨64, 2, encL rBox_o r2.2⟩), (w0_2, some ⟨3, 1, encL rI r3.2⟩)] M3) (fun K hK => ?_) ?_
 ·
  skip
  have e0 := nq (a := w0_0) (b := w0_1) (by omega)
  have e1 := nq (a := w0_0) (b := w0_2) (by omega)
  have e2 := nq (a := w0_1) (b := w0_2) (by omega)
  simp -dsimp -implicitDefEqProofs (maxDischargeDepth := 6) [e0, e1, e2]
  refine (c19 (H := hr3) (by simp [e0, e1, e2])).mono ?_; rintro _ _ ⟨M3, fM3_0, fM3_1, rfl, rfl⟩; simp only [hp_next] at fM3_0
  try simp -dsimp -implicitDefEqProofs (maxDischargeDepth := 6) [e0, e1, e2, hp_over_some, hp_over_none]
  exact hK _ _ ⟨M3, (by omega), fM3_1, rfl, rfl⟩
 rintro a σ ⟨M3, fM3_0, fM3_1, rfl, rfl⟩
 try rw [← fM3_1]
 refine AWP_sr tok [] [4] (fun a σ => a = [(4, .int .i64 r3.1)] ∧ σ = hp E0 [(w0_0, some ⟨28, 3, encL rMachine_oo r1.2⟩), (w0_1, some ⟨64, 2, encL rBox_o r2.2⟩), (w0_2, some ⟨3, 1, encL rI r3.2⟩)] (M3 + 2)) (fun K hK => ?_) ?_
 ·
  skip
  have e0 := nq (a := w0_0) (b := w0_1) (by omega)
  have e1 := nq (a := w0_0) (b := w0_2) (by omega)
  have e2 := nq (a := w0_1) (b := w0_2) (by omega)
  simp -dsimp -implicitDefEqProofs (maxDischargeDepth := 6) [e0, e1, e2]
  exact hK _ _ ⟨rfl, rfl⟩
 rintro a σ ⟨rfl, rfl⟩
 replace H := Option.some.inj H; subst H
 refine AWP_kp [4] [(4, .int .i64 r3.1)] rfl ?_
 have z0 := nq (a := w0_0) (b := w0_1) (by omega)
 have z1 := nq (a := w0_0) (b := w0_2) (by omega)
 have z2 := nq (a := w0_1) (b := w0_2) (by omega)
 refine AWP_ret ?_
 refine ⟨[.int .i64 r3.1], by simp [z0, z1, z2], M3 + 2, by omega, by first | rfl | exact (fM1_1) | omega, by first | rfl | exact (fM2_1) | omega, by first | rfl | exact (fM3_1) | omega, ?_, ?_⟩
 ·
  simp [encL_nil]
 ·
  first | rfl | simp [List.set_set]
theorem c61_o4 {p0 : (List Int)} {p1 : (List gBox)} {p2 : Bool} {r : gOutcome} (H : i_outcomeOf_o4 p0 p1 p2 = some r) {σ : AHeap} : ACalls Try.prog G 61 [.fsl (encL rI p0), .fsl (encL rBox p1), .bool p2] σ (fun v σ' => ∃ M n0 n1 n2 : Nat, σ.next ≤ M ∧ σ.next ≤ n0 ∧ n0 < M ∧ σ.next ≤ n1 ∧ n1 < M ∧ σ.next ≤ n2 ∧ n2 < M ∧ ¬ n0 = n1 ∧ ¬ n0 = n2 ∧ ¬ n1 = n2 ∧ v = .agg [.sl n0 0 r.Out.length, .sl n1 0 r.Items.length, .sl n2 0 r.Ended.length, .bool r.Rest] ∧ σ' = hp σ.objs [(n0, some ⟨3, 1, encL rI r.Out⟩), (n1, some ⟨22, 1, encL rL_I_o r.Items⟩), (n2, some ⟨4, 1, encL rB r.Ended⟩)] M) := by
 refine ACalls_fr (L := []) (Q1 := fun v σ' => ∃ M n0 n1 n2 : Nat, σ.next ≤ M ∧ σ.next ≤ n0 ∧ n0 < M ∧ σ.next ≤ n1 ∧ n1 < M ∧ σ.next ≤ n2 ∧ n2 < M ∧ ¬ n0 = n1 ∧ ¬ n0 = n2 ∧ ¬ n1 = n2 ∧ v = .agg [.sl n0 0 r.Out.length, .sl n1 0 r.Items.length, .sl n2 0 r.Ended.length, .bool r.Rest] ∧ σ' = hp E0 [(n0, some ⟨3, 1, encL rI r.Out⟩), (n1, some ⟨22, 1, encL rL_I_o r.Items⟩), (n2, some ⟨4, 1, encL rB r.Ended⟩)] M) (by simp []) (fun hlt => ?_) ?_ ⟨_, Try.func61, rfl, rfl⟩
 rotate_left
 ·
  rintro v σ1 ⟨M, n0, n1, n2, h0, h1, h2, h3, h4, h5, h6, h7, h8, h9, rfl, rfl⟩
  exact ⟨_, M, rfl, by simp, by simp; try omega, M, n0, n1, n2, h0, h1, h2, h3, h4, h5, h6, h7, h8, h9, rfl, rfl⟩
 generalize σ.next = N0 at hlt ⊢
 refine ACalls_thaw 4 ?_
 refine ACalls_fn tok Try.func61 (by kernel_rfl) rfl Try.ntmps61 Try.results61 rfl ?_
 simp only [argsA, Nat.reduceAdd, hp_next]
 unfold i_outcomeOf_o4 at H
 refine AWP_sr tok [] [0, 1, 2, 6] (fun a σ => a = [(0, .fsl (encL rI p0)), (1, .fsl (encL rBox p1)), (2, .bool p2), (6, .ptr N0 0 0)] ∧ σ = hp E0 [(N0, some ⟨48, 4, [[.nilsl, .nilsl, .nilsl, .bool false]]⟩)] (N0 + 1)) (fun K hK => ?_) ?_
 ·
  skip
  simp -dsimp -implicitDefEqProofs (maxDischargeDepth := 6)
  exact hK _ _ ⟨rfl, rfl⟩
 rintro a σ ⟨rfl, rfl⟩
 refine gPk0 AWP_ref (o := N0) (ob := ⟨48, 4, [[.nilsl, .nilsl, .nilsl, .bool false]]⟩) (row := [.nilsl, .nilsl, .nilsl, .bool false]) (r := 0) (i := 0) 3 1 [(N0, some ⟨48, 4, [[.osl 3 1 (encL rI ([] : List Int)), .nilsl, .nilsl, .bool false]]⟩)] (by simp (disch := omega)) rfl rfl (by simp (disch := omega)) (by simp (disch := omega) [encL_nil, List.set_set, app_set]) ?_
 refine gPk0 AWP_ref (o := N0) (ob := ⟨48, 4, [[.osl 3 1 (encL rI ([] : List Int)), .nilsl, .nilsl, .bool false]]⟩) (row := [.osl 3 1 (encL rI ([] : List Int)), .nilsl, .nilsl, .bool false]) (r := 0) (i := 1) 22 1 [(N0, some ⟨48, 4, [[.osl 3 1 (encL rI ([] : List Int)), .osl 22 1 (encL rL_I_o ([] : List (List Int))), .nilsl, .bool false]]⟩)] (by simp (disch := omega)) rfl rfl (by simp (disch := omega)) (by simp (disch := omega) [encL_nil, List.set_set, app_set]) ?_
 refine gPk0 AWP_ref (o := N0) (ob := ⟨48, 4, [[.osl 3 1 (encL rI ([] : List Int)), .osl 22 1 (encL rL_I_o ([] : List (List Int))), .nilsl, .bool false]]⟩) (row := [.osl 3 1 (encL rI ([] : List Int)), .osl 22 1 (encL rL_I_o ([] : List (List Int))), .nilsl, .bool false]) (r := 0) (i := 2) 4 1 [(N0, some ⟨48, 4, [[.osl 3 1 (encL rI ([] : List Int)), .osl 22 1 (encL rL_I_o ([] : List (List Int))), .osl 4 1 (encL rB ([] : List Bool)), .bool false]]⟩)] (by simp (disch := omega)) rfl rfl (by simp (disch := omega)) (by simp (disch := omega) [encL_nil, List.set_set, app_set]) ?_
 obtain ⟨r1, hr1, H⟩ := bindE H
 refine AWP_sr tok [3] [1, 6, 7] (fun a σ => ∃ M1 o1 : Nat, N0 + 7 ≤ M1 ∧ N0 + 7 ≤ o1 ∧ o1 < M1 ∧ a = [(1, .fsl (encL rBox p1)), (6, .ptr N0 0 0), (7, .ptr (N0 + 5) 0 0)] ∧ σ = hp E0 [(N0, some ⟨48, 4, [[.osl 3 1 (encL rI ([] : List Int)), .osl 22 1 (encL rL_I_o ([] : List (List Int))), .osl 4 1 (encL rB ([] : List Bool)), .bool false]]⟩), (o1, some ⟨3, 1, encL rI r1⟩), (N0 + 5, some ⟨48, 4, [[.sl o1 0 r1.length, .nilsl, .nilsl, .bool p2]]⟩)] M1) (fun K hK => ?_) ?_
 ·
  skip
  simp -dsimp -implicitDefEqProofs (maxDischargeDepth := 6)
  refine (c79_o (H := hr1) ).mono ?_; rintro _ _ ⟨M1, o1, fM1_0, fM1_1, fM1_2, rfl, rfl⟩; simp only [hp_next] at fM1_0 fM1_1 fM1_2
  have eM1_0 := nq (a := o1) (b := N0) (by omega)
  have eM1_1 := nq (a := o1) (b := N0 + 5) (by omega)
  try simp -dsimp -implicitDefEqProofs (maxDischargeDepth := 6) [eM1_0, eM1_1, hp_over_some, hp_over_none]
  exact hK _ _ ⟨M1, o1, (by omega), (by omega), (by omega), rfl, rfl⟩
 rintro a σ ⟨M1, o1, fM1_0, fM1_1, fM1_2, rfl, rfl⟩
 refine AWP_sq [6, 7] fun K1 hK1 => ?_
 refine AWP_sr tok [] [6, 7, 14, 15, 16] (fun a σ => a = [(6, .ptr N0 0 0), (7, .ptr (N0 + 5) 0 0), (14, .fsl (encL rBox p1)), (15, .int .i64 (ilen p1)), (16, .int .i64 0)] ∧ σ = hp E0 [(N0, some ⟨48, 4, [[.osl 3 1 (encL rI ([] : List Int)), .osl 22 1 (encL rL_I_o ([] : List (List Int))), .osl 4 1 (encL rB ([] : List Bool)), .bool false]]⟩), (o1, some ⟨3, 1, encL rI r1⟩), (N0 + 5, some ⟨48, 4, [[.sl o1 0 r1.length, .nilsl, .nilsl, .bool p2]]⟩)] (M1 + 3)) (fun K hK => ?_) ?_
 ·
  skip
  have e0 := nq (a := N0) (b := o1) (by omega)
  have e1 := nq (a := o1) (b := N0 + 5) (by omega)
  simp -dsimp -implicitDefEqProofs (maxDischargeDepth := 6) [e0, e1]
  exact hK _ _ ⟨rfl, rfl⟩
 rintro a σ ⟨rfl, rfl⟩
 refine AWP_block (AWP_thenB ?_)
 obtain ⟨e1, hse1, H⟩ := bindE H
 refine AWP_lp [6, 7, 14, 15, 16] (fun s a σ => ∃ M2 o2 o3 : Nat, N0 ≤ M2 ∧ N0 ≤ o2 ∧ o2 < M2 ∧ N0 ≤ o3 ∧ o3 < M2 ∧ ¬ o2 = o3 ∧ a = [(6, .ptr o2 0 0), (7, .ptr o3 0 0), (14, .fsl (encL rBox p1)), (15, .int .i64 (ilen p1)), (16, .int .i64 s.1)] ∧ σ = hp E0 [(o2, some ⟨48, 4, [[.osl 3 1 (encL rI s.2.1.Out), .osl 22 1 (encL rL_I_o s.2.1.Items), .osl 4 1 (encL rB s.2.1.Ended), .bool s.2.1.Rest]]⟩), (o3, some ⟨48, 4, [[.osl 3 1 (encL rI s.2.2.Out), .osl 22 1 (encL rL_I_o s.2.2.Items), .osl 4 1 (encL rB s.2.2.Ended), .bool s.2.2.Rest]]⟩)] M2) (fun s x a σ => x = .exit 0 ∧ Rc G 30 N0 (fun a σ => ∃ M3 o4 o5 : Nat, N0 ≤ M3 ∧ N0 ≤ o4 ∧ o4 < M3 ∧ N0 ≤ o5 ∧ o5 < M3 ∧ ¬ o4 = o5 ∧ a = [(6, .ptr o4 0 0), (7, .ptr o5 0 0)] ∧ σ = hp E0 [(o4, some ⟨48, 4, [[.osl 3 1 (encL rI s.1.Out), .osl 22 1 (encL rL_I_o s.1.Items), .osl 4 1 (encL rB s.1.Ended), .bool s.1.Rest]]⟩), (o5, some ⟨48, 4, [[.osl 3 1 (encL rI s.2.Out), .osl 22 1 (encL rL_I_o s.2.Items), .osl 4 1 (encL rB s.2.Ended), .bool s.2.Rest]]⟩)] M3) (AAct.keep a [6, 7]) σ) hse1 ?_ ?_ ?_
 ·
  refine Rc.kp [6, 7, 14, 15, 16] [(6, .ptr N0 0 0), (7, .ptr (N0 + 5) 0 0), (14, .fsl (encL rBox p1)), (15, .int .i64 (ilen p1)), (16, .int .i64 0)] rfl ?_
  refine gPk Rc_ref (k := r1.length) (o := (N0 + 5)) (ob := ⟨48, 4, [[.sl o1 0 r1.length, .nilsl, .nilsl, .bool p2]]⟩) (row := [.sl o1 0 r1.length, .nilsl, .nilsl, .bool p2]) (d := o1) (obd := ⟨3, 1, encL rI r1⟩) (r := 0) (i := 0) [(N0, some ⟨48, 4, [[.osl 3 1 (encL rI ([] : List Int)), .osl 22 1 (encL rL_I_o ([] : List (List Int))), .osl 4 1 (encL rB ([] : List Bool)), .bool false]]⟩), (N0 + 5, some ⟨48, 4, [[.osl 3 1 (encL rI r1), .nilsl, .nilsl, .bool p2]]⟩)] (by simp (disch := omega)) rfl rfl (by simp (disch := omega)) (by simp (disch := omega)) (by first | omega | simp) (by simp (disch := omega) [List.set_set, app_set] <;> omega) (by simp (disch := omega) [List.set_set, app_set]) ?_
  refine gPk0 Rc_ref (o := (N0 + 5)) (ob := ⟨48, 4, [[.osl 3 1 (encL rI r1), .nilsl, .nilsl, .bool p2]]⟩) (row := [.osl 3 1 (encL rI r1), .nilsl, .nilsl, .bool p2]) (r := 0) (i := 1) 22 1 [(N0, some ⟨48, 4, [[.osl 3 1 (encL rI ([] : List Int)), .osl 22 1 (encL rL_I_o ([] : List (List Int))), .osl 4 1 (encL rB ([] : List Bool)), .bool false]]⟩), (N0 + 5, some ⟨48, 4, [[.osl 3 1 (encL rI r1), .osl 22 1 (encL rL_I_o ([] : List (List Int))), .nilsl, .bool p2]]⟩)] (by simp (disch := omega)) rfl rfl (by simp (disch := omega)) (by simp (disch := omega) [encL_nil, List.set_set, app_set]) ?_
  refine gPk0 Rc_ref (o := (N0 + 5)) (ob := ⟨48, 4, [[.osl 3 1 (encL rI r1), .osl 22 1 (encL rL_I_o ([] : List (List Int))), .nilsl, .bool p2]]⟩) (row := [.osl 3 1 (encL rI r1), .osl 22 1 (encL rL_I_o ([] : List (List Int))), .nilsl, .bool p2]) (r := 0) (i := 2) 4 1 [(N0, some ⟨48, 4, [[.osl 3 1 (encL rI ([] : List Int)), .osl 22 1 (encL rL_I_o ([] : List (List Int))), .osl 4 1 (encL rB ([] : List Bool)), .bool false]]⟩), (N0 + 5, some ⟨48, 4, [[.osl 3 1 (encL rI r1), .osl 22 1 (encL rL_I_o ([] : List (List Int))), .osl 4 1 (encL rB ([] : List Bool)), .bool p2]]⟩)] (by simp (disch := omega)) rfl rfl (by simp (disch := omega)) (by simp (disch := omega) [encL_nil, List.set_set, app_set]) ?_
  exact Rc.fin (AHeap.Sub.refl _) ⟨M1 + 3, N0, (N0 + 5), (by omega), (by omega), (by omega), (by omega), (by omega), (by omega), rfl, rfl⟩
 ·
  clear H hse1
  rintro ⟨s2, s3, s4⟩ fl a σ H ⟨M2, o2, o3, fM2_0, fM2_1, fM2_2, fM2_3, fM2_4, fM2_5, rfl, rfl⟩ K2 O2 hK2 hO2
  unfold i_outcomeOf_o4_L1 at H; dsimp only at H
  refine AWP_sr tok [] [6, 7, 14, 15, 16, 17] (fun a σ => a = [(6, .ptr o2 0 0), (7, .ptr o3 0 0), (14, .fsl (encL rBox p1)), (15, .int .i64 (ilen p1)), (16, .int .i64 s2), (17, .bool (ilt s2 (ilen p1)))] ∧ σ = hp E0 [(o2, some ⟨48, 4, [[.osl 3 1 (encL rI s3.Out), .osl 22 1 (encL rL_I_o s3.Items), .osl 4 1 (encL rB s3.Ended), .bool s3.Rest]]⟩), (o3, some ⟨48, 4, [[.osl 3 1 (encL rI s4.Out), .osl 22 1 (encL rL_I_o s4.Items), .osl 4 1 (encL rB s4.Ended), .bool s4.Rest]]⟩)] (M2 + 1)) (fun K hK => ?_) ?_
  ·
   skip
   have e0 := nq (a := o2) (b := o3) (by omega)
   simp -dsimp -implicitDefEqProofs (maxDischargeDepth := 6) [e0]
   exact hK _ _ ⟨rfl, rfl⟩
  rintro a σ ⟨rfl, rfl⟩
  refine AWP_sq [6, 7, 14, 15, 16] fun K3 hK3 => ?_
  refine AWP_cond (ilt s2 (ilen p1)) rfl (fun C1 => ?_) (fun C1 => ?_)
  ·
   replace H := ifT C1 H
   refine AWP_skip ?_
   show K3 _ _
   refine keepE (l := [6, 7, 14, 15, 16]) (x := [(6, .ptr o2 0 0), (7, .ptr o3 0 0), (14, .fsl (encL rBox p1)), (15, .int .i64 (ilen p1)), (16, .int .i64 s2)]) rfl fun a' ha => ?_
   refine hK3 _ _ ?_; rw [ha]
   refine Rc.mk ?_
   refine AWP_sq [6, 7, 14, 15, 16] fun K4 hK4 => ?_
   refine AWP_block (AWP_thenB ?_)
   obtain ⟨v7, hv7, H⟩ := bindE H
   refine AWP_sr tok [] [6, 7, 9, 14, 15, 16] (fun a σ => a = [(6, .ptr o2 0 0), (7, .ptr o3 0 0), (9, .ptr (M2 + 3) 0 0), (14, .fsl (encL rBox p1)), (15, .int .i64 (ilen p1)), (16, .int .i64 s2)] ∧ σ = hp E0 [(o2, some ⟨48, 4, [[.osl 3 1 (encL rI s3.Out), .osl 22 1 (encL rL_I_o s3.Items), .osl 4 1 (encL rB s3.Ended), .bool s3.Rest]]⟩), (o3, some ⟨48, 4, [[.osl 3 1 (encL rI s4.Out), .osl 22 1 (encL rL_I_o s4.Items), .osl 4 1 (encL rB s4.Ended), .bool s4.Rest]]⟩), (M2 + 3, some ⟨64, 2, [[.int .i64 v7.Room, .fsl (encL rI v7.Items)]]⟩)] (M2 + 5)) (fun K hK => ?_) ?_
   ·
    skip
    have e0 := nq (a := o2) (b := o3) (by omega)
    have e1 := nq (a := o2) (b := M2 + 3) (by omega)
    have e2 := nq (a := o3) (b := M2 + 3) (by omega)
    simp -dsimp -implicitDefEqProofs (maxDischargeDepth := 6) [e0, e1, e2, ix29 hv7]
    exact hK _ _ ⟨rfl, rfl⟩
   rintro a σ ⟨rfl, rfl⟩
   refine gUnp AWP_ref (ty := 22) (sz := 1) (es := encL rL_I_o s4.Items) (o := o3) (ob := ⟨48, 4, [[.osl 3 1 (encL rI s4.Out), .osl 22 1 (encL rL_I_o s4.Items), .osl 4 1 (encL rB s4.Ended), .bool s4.Rest]]⟩) (row := [.osl 3 1 (encL rI s4.Out), .osl 22 1 (encL rL_I_o s4.Items), .osl 4 1 (encL rB s4.Ended), .bool s4.Rest]) (r := 0) (i := 1) [(o2, some ⟨48, 4, [[.osl 3 1 (encL rI s3.Out), .osl 22 1 (encL rL_I_o s3.Items), .osl 4 1 (encL rB s3.Ended), .bool s3.Rest]]⟩), (o3, some ⟨48, 4, [[.osl 3 1 (encL rI s4.Out), .sl (M2 + 5) 0 s4.Items.length, .osl 4 1 (encL rB s4.Ended), .bool s4.Rest]]⟩), (M2 + 3, some ⟨64, 2, [[.int .i64 v7.Room, .fsl (encL rI v7.Items)]]⟩), (M2 + 5, some ⟨22, 1, encL rL_I_o s4.Items⟩)] (by simp (disch := omega)) rfl rfl (by simp (disch := omega) [List.set_set]) ?_
   obtain ⟨r8, hr8, H⟩ := bindE H
   obtain ⟨l9, hl9, H⟩ := bindE H
   have q0 : ∀ (a0 : Nat) (a1 : Nat) σ i, buildSliceA T 45 true i 1 [(0, .sl a0 0 a1)] σ = some (.fsl [[.sl a0 0 a1]], σ) := fun _ _ _ _ => rfl
   refine AWP_ry tok tokM [5] [1, 3, 4, 5, 6, 8] [0, 2, 1, 3, 4, 5, 6, 7, 8] [(4, [1]), (5, [1])] [6, 7, 14, 15, 16] (fun a σ => ∃ M4 o6 : Nat, M2 + 15 ≤ M4 ∧ M2 + 15 ≤ o6 ∧ o6 < M4 ∧ a = [(6, .ptr o2 0 0), (7, .ptr o3 0 0), (14, .fsl (encL rBox p1)), (15, .int .i64 (ilen p1)), (16, .int .i64 s2)] ∧ σ = hp E0 [(o2, some ⟨48, 4, [[.osl 3 1 (encL rI s3.Out), .osl 22 1 (encL rL_I_o s3.Items), .osl 4 1 (encL rB s3.Ended), .bool s3.Rest]]⟩), (o3, some ⟨48, 4, [[.osl 3 1 (encL rI s4.Out), .sl (M2 + 12) 0 l9.length, .osl 4 1 (encL rB s4.Ended), .bool s4.Rest]]⟩), (M2 + 3, some ⟨64, 2, [[.int .i64 v7.Room, .fsl (encL rI v7.Items)]]⟩), (o6, some ⟨3, 1, encL rI r8⟩), (M2 + 12, some ⟨22, 1, encL rL_I_o s4.Items ++ [[.sl o6 0 r8.length]]⟩)] M4) (by decide) (fun K hK => ?_) ?_
   ·
    simp only [pickL, nthO_succ, nthO_zero]
    have e0 := nq (a := o2) (b := o3) (by omega)
    have e1 := nq (a := o2) (b := M2 + 3) (by omega)
    have e2 := nq (a := o2) (b := M2 + 5) (by omega)
    have e3 := nq (a := o2) (b := M2 + 12) (by omega)
    have e4 := nq (a := o3) (b := M2 + 3) (by omega)
    have e5 := nq (a := o3) (b := M2 + 5) (by omega)
    have e6 := nq (a := o3) (b := M2 + 12) (by omega)
    simp -dsimp -implicitDefEqProofs (maxDischargeDepth := 6) [e0, e1, e2, e3, e4, e5, e6, q0, apr45 rL_I_o hl9]
    refine (c79_o (H := hr8) ).mono ?_; rintro _ _ ⟨M4, o6, fM4_0, fM4_1, fM4_2, rfl, rfl⟩; simp only [hp_next] at fM4_0 fM4_1 fM4_2
    have eM4_0 := nq (a := o6) (b := o2) (by omega)
    have eM4_1 := nq (a := o6) (b := o3) (by omega)
    have eM4_2 := nq (a := o6) (b := M2 + 3) (by omega)
    have eM4_3 := nq (a := o6) (b := M2 + 5) (by omega)
    have eM4_4 := nq (a := o6) (b := M2 + 12) (by omega)
    try simp -dsimp -implicitDefEqProofs (maxDischargeDepth := 6) [e0, e1, e2, e3, e4, e5, e6, q0, apr45 rL_I_o hl9, eM4_0, eM4_1, eM4_2, eM4_3, eM4_4, hp_over_some, hp_over_none]
    exact hK _ _ ⟨M4, o6, (by omega), (by omega), (by omega), rfl, rfl⟩
   rintro a σ ⟨M4, o6, fM4_0, fM4_1, fM4_2, ha, rfl⟩
   refine hK4 _ _ ?_; rw [ha]
   refine Rc.mk ?_
   refine gPk AWP_ref (k := r8.length) (o := (M2 + 12)) (ob := ⟨22, 1, encL rL_I_o s4.Items ++ [[.sl o6 0 r8.length]]⟩) (row := [.sl o6 0 r8.length]) (d := o6) (obd := ⟨3, 1, encL rI r8⟩) (r := s4.Items.length) (i := 0) [(o2, some ⟨48, 4, [[.osl 3 1 (encL rI s3.Out), .osl 22 1 (encL rL_I_o s3.Items), .osl 4 1 (encL rB s3.Ended), .bool s3.Rest]]⟩), (o3, some ⟨48, 4, [[.osl 3 1 (encL rI s4.Out), .sl (M2 + 12) 0 l9.length, .osl 4 1 (encL rB s4.Ended), .bool s4.Rest]]⟩), (M2 + 3, some ⟨64, 2, [[.int .i64 v7.Room, .fsl (encL rI v7.Items)]]⟩), (M2 + 12, some ⟨22, 1, encL rL_I_o s4.Items ++ [[.osl 3 1 (encL rI r8)]]⟩)] (by simp (disch := omega)) (app_get _ _ _) rfl (by simp (disch := omega)) (by simp (disch := omega)) (by first | omega | simp) (by simp (disch := omega) [List.set_set, app_set] <;> omega) (by simp (disch := omega) [List.set_set, app_set]) ?_
   rw [show hp E0 [(o2, some ⟨48, 4, [[.osl 3 1 (encL rI s3.Out), .osl 22 1 (encL rL_I_o s3.Items), .osl 4 1 (encL rB s3.Ended), .bool s3.Rest]]⟩), (o3, some ⟨48, 4, [[.osl 3 1 (encL rI s4.Out), .sl (M2 + 12) 0 l9.length, .osl 4 1 (encL rB s4.Ended), .bool s4.Rest]]⟩), (M2 + 3, some ⟨64, 2, [[.int .i64 v7.Room, .fsl (encL rI v7.Items)]]⟩), (M2 + 12, some ⟨22, 1, encL rL_I_o s4.Items ++ [[.osl 3 1 (encL rI r8)]]⟩)] M4 = hp E0 [(o2, some ⟨48, 4, [[.osl 3 1 (encL rI s3.Out), .osl 22 1 (encL rL_I_o s3.Items), .osl 4 1 (encL rB s3.Ended), .bool s3.Rest]]⟩), (o3, some ⟨48, 4, [[.osl 3 1 (encL rI s4.Out), .sl (M2 + 12) 0 l9.length, .osl 4 1 (encL rB s4.Ended), .bool s4.Rest]]⟩), (M2 + 3, some ⟨64, 2, [[.int .i64 v7.Room, .fsl (encL rI v7.Items)]]⟩), (M2 + 12, some ⟨22, 1, encL rL_I_o l9⟩)] M4 from by rw [← app_enc (f := rL_I_o) (c := [.osl 3 1 (encL rI r8)]) hl9 rfl]]
   refine AWP_rt tok [] [6, 7, 14, 15, 16] (fun a σ => a = [(6, .ptr o2 0 0), (7, .ptr o3 0 0), (14, .fsl (encL rBox p1)), (15, .int .i64 (ilen p1)), (16, .int .i64 (iadd .i64 s2 1))] ∧ σ = hp E0 [(o2, some ⟨48, 4, [[.osl 3 1 (encL rI s3.Out), .osl 22 1 (encL rL_I_o s3.Items), .osl 4 1 (encL rB s3.Ended), .bool s3.Rest]]⟩), (o3, some ⟨48, 4, [[.osl 3 1 (encL rI s4.Out), .sl (M2 + 12) 0 l9.length, .osl 4 1 (encL rB s4.Ended), .bool s4.Rest]]⟩), (M2 + 3, some ⟨64, 2, [[.int .i64 v7.Room, .fsl (encL rI v7.Items)]]⟩), (M2 + 12, some ⟨22, 1, encL rL_I_o l9⟩)] (M4 + 2)) (fun K hK => ?_) ?_
   ·
    skip
    have e0 := nq (a := o2) (b := o3) (by omega)
    have e1 := nq (a := o2) (b := M2 + 3) (by omega)
    have e2 := nq (a := o2) (b := M2 + 12) (by omega)
    have e3 := nq (a := o3) (b := M2 + 3) (by omega)
    have e4 := nq (a := o3) (b := M2 + 12) (by omega)
    simp -dsimp -implicitDefEqProofs (maxDischargeDepth := 6) [e0, e1, e2, e3, e4]
    exact hK _ _ ⟨rfl, rfl⟩
   rintro a σ ⟨ha, rfl⟩
   replace H := Option.some.inj H; subst H
   refine hK2 _ _ _ rfl ?_; rw [ha]
   refine gPk Rc_ref (k := l9.length) (o := o3) (ob := ⟨48, 4, [[.osl 3 1 (encL rI s4.Out), .sl (M2 + 12) 0 l9.length, .osl 4 1 (encL rB s4.Ended), .bool s4.Rest]]⟩) (row := [.osl 3 1 (encL rI s4.Out), .sl (M2 + 12) 0 l9.length, .osl 4 1 (encL rB s4.Ended), .bool s4.Rest]) (d := (M2 + 12)) (obd := ⟨22, 1, encL rL_I_o l9⟩) (r := 0) (i := 1) [(o2, some ⟨48, 4, [[.osl 3 1 (encL rI s3.Out), .osl 22 1 (encL rL_I_o s3.Items), .osl 4 1 (encL rB s3.Ended), .bool s3.Rest]]⟩), (o3, some ⟨48, 4, [[.osl 3 1 (encL rI s4.Out), .osl 22 1 (encL rL_I_o l9), .osl 4 1 (encL rB s4.Ended), .bool s4.Rest]]⟩), (M2 + 3, some ⟨64, 2, [[.int .i64 v7.Room, .fsl (encL rI v7.Items)]]⟩)] (by simp (disch := omega)) rfl rfl (by simp (disch := omega)) (by simp (disch := omega)) (by first | omega | simp) (by simp (disch := omega) [List.set_set, app_set] <;> omega) (by simp (disch := omega) [List.set_set, app_set]) ?_
   exact Rc.fin (hp_skip (hp_skip (AHeap.Sub.trans (AHeap.Sub.refl _) (hp_drop rfl (by simp; try omega))))) ⟨M4 + 2, o2, o3, (by omega), (by omega), (by omega), (by omega), (by omega), (by omega), rfl, rfl⟩
  ·
   replace H := ifF C1 H
   replace H := Option.some.inj H; subst H
   refine AWP_exit (hO2 _ _ _ _ rfl ⟨rfl, ?_⟩)
   refine Rc.rw (l := [6, 7]) (X := [(6, .ptr o2 0 0), (7, .ptr o3 0 0)]) rfl ?_
   exact Rc.fin (AHeap.Sub.refl _) ⟨M2 + 1, o2, o3, (by omega), (by omega), (by omega), (by omega), (by omega), (by omega), rfl, rfl⟩
 ·
  intro x a σ hx
  obtain ⟨y5, y6⟩ := e1
  obtain ⟨rfl, b, τ, hr, M3, o4, o5, fM3_0, fM3_1, fM3_2, fM3_3, fM3_4, fM3_5, rfl, rfl⟩ := hx
  dsimp only at H
  show K1 _ _
  refine hK1 _ _ (Rc_ref hr ?_)
  refine Rc.mk ?_
  refine gUnp AWP_ref (ty := 3) (sz := 1) (es := encL rI y6.Out) (o := o5) (ob := ⟨48, 4, [[.osl 3 1 (encL rI y6.Out), .osl 22 1 (encL rL_I_o y6.Items), .osl 4 1 (encL rB y6.Ended), .bool y6.Rest]]⟩) (row := [.osl 3 1 (encL rI y6.Out), .osl 22 1 (encL rL_I_o y6.Items), .osl 4 1 (encL rB y6.Ended), .bool y6.Rest]) (r := 0) (i := 0) [(o4, some ⟨48, 4, [[.osl 3 1 (encL rI y5.Out), .osl 22 1 (encL rL_I_o y5.Items), .osl 4 1 (encL rB y5.Ended), .bool y5.Rest]]⟩), (o5, some ⟨48, 4, [[.sl M3 0 y6.Out.length, .osl 22 1 (encL rL_I_o y6.Items), .osl 4 1 (encL rB y6.Ended), .bool y6.Rest]]⟩), (M3, some ⟨3, 1, encL rI y6.Out⟩)] (by simp (disch := omega)) rfl rfl (by simp (disch := omega) [List.set_set]) ?_
  refine gUnp AWP_ref (ty := 22) (sz := 1) (es := encL rL_I_o y6.Items) (o := o5) (ob := ⟨48, 4, [[.sl M3 0 y6.Out.length, .osl 22 1 (encL rL_I_o y6.Items), .osl 4 1 (encL rB y6.Ended), .bool y6.Rest]]⟩) (row := [.sl M3 0 y6.Out.length, .osl 22 1 (encL rL_I_o y6.Items), .osl 4 1 (encL rB y6.Ended), .bool y6.Rest]) (r := 0) (i := 1) [(o4, some ⟨48, 4, [[.osl 3 1 (encL rI y5.Out), .osl 22 1 (encL rL_I_o y5.Items), .osl 4 1 (encL rB y5.Ended), .bool y5.Rest]]⟩), (o5, some ⟨48, 4, [[.sl M3 0 y6.Out.length, .sl (M3 + 1) 0 y6.Items.length, .osl 4 1 (encL rB y6.Ended), .bool y6.Rest]]⟩), (M3, some ⟨3, 1, encL rI y6.Out⟩), (M3 + 1, some ⟨22, 1, encL rL_I_o y6.Items⟩)] (by simp (disch := omega)) rfl rfl (by simp (disch := omega) [List.set_set]) ?_
  refine gUnp AWP_ref (ty := 4) (sz := 1) (es := encL rB y6.Ended) (o := o5) (ob := ⟨48, 4, [[.sl M3 0 y6.Out.length, .sl (M3 + 1) 0 y6.Items.length, .osl 4 1 (encL rB y6.Ended), .bool y6.Rest]]⟩) (row := [.sl M3 0 y6.Out.length, .sl (M3 + 1) 0 y6.Items.length, .osl 4 1 (encL rB y6.Ended), .bool y6.Rest]) (r := 0) (i := 2) [(o4, some ⟨48, 4, [[.osl 3 1 (encL rI y5.Out), .osl 22 1 (encL rL_I_o y5.Items), .osl 4 1 (encL rB y5.Ended), .bool y5.Rest]]⟩), (o5, some ⟨48, 4, [[.sl M3 0 y6.Out.length, .sl (M3 + 1) 0 y6.Items.length, .sl (M3 + 2) 0 y6.Ended.length, .bool y6.Rest]]⟩), (M3, some ⟨3, 1, encL rI y6.Out⟩), (M3 + 1, some ⟨22, 1, encL rL_I_o y6.Items⟩), (M3 + 2, some ⟨4, 1, encL rB y6.Ended⟩)] (by simp (disch := omega)) rfl rfl (by simp (disch := omega) [List.set_set]) ?_
  refine AWP_sr tok [] [6] (fun a σ => a = [(6, .ptr o4 0 0)] ∧ σ = hp E0 [(o4, some ⟨48, 4, [[.sl M3 0 y6.Out.length, .sl (M3 + 1) 0 y6.Items.length, .sl (M3 + 2) 0 y6.Ended.length, .bool y6.Rest]]⟩), (o5, some ⟨48, 4, [[.sl M3 0 y6.Out.length, .sl (M3 + 1) 0 y6.Items.length, .sl (M3 + 2) 0 y6.Ended.length, .bool y6.Rest]]⟩), (M3, some ⟨3, 1, encL rI y6.Out⟩), (M3 + 1, some ⟨22, 1, encL rL_I_o y6.Items⟩), (M3 + 2, some ⟨4, 1, encL rB y6.Ended⟩)] (M3 + 5)) (fun K hK => ?_) ?_
  ·
   skip
   have e0 := nq (a := o4) (b := o5) (by omega)
   have e1 := nq (a := o4) (b := M3) (by omega)
   have e2 := nq (a := o4) (b := M3 + 1) (by omega)
   have e3 := nq (a := o4) (b := M3 + 2) (by omega)
   have e4 := nq (a := o5) (b := M3) (by omega)
   have e5 := nq (a := o5) (b := M3 + 1) (by omega)
   have e6 := nq (a := o5) (b := M3 + 2) (by omega)
   simp -dsimp -implicitDefEqProofs (maxDischargeDepth := 6) [e0, e1, e2, e3, e4, e5, e6]
   exact hK _ _ ⟨rfl, rfl⟩
  rintro a σ ⟨rfl, rfl⟩
  replace H := Option.some.inj H; subst H
  refine AWP_kp [6] [(6, .ptr o4 0 0)] rfl ?_
  refine gDrop AWP_ref [(o4, some ⟨48, 4, [[.sl M3 0 y6.Out.length, .sl (M3 + 1) 0 y6.Items.length, .sl (M3 + 2) 0 y6.Ended.length, .bool y6.Rest]]⟩), (M3, some ⟨3, 1, encL rI y6.Out⟩), (M3 + 1, some ⟨22, 1, encL rL_I_o y6.Items⟩), (M3 + 2, some ⟨4, 1, encL rB y6.Ended⟩)] (hp_skip (AHeap.Sub.trans (hp_skip (hp_skip (hp_skip (AHeap.Sub.refl _)))) (hp_drop rfl (by simp; try omega)))) ?_
  refine gPk AWP_ref (k := y6.Out.length) (o := o4) (ob := ⟨48, 4, [[.sl M3 0 y6.Out.length, .sl (M3 + 1) 0 y6.Items.length, .sl (M3 + 2) 0 y6.Ended.length, .bool y6.Rest]]⟩) (row := [.sl M3 0 y6.Out.length, .sl (M3 + 1) 0 y6.Items.length, .sl (M3 + 2) 0 y6.Ended.length, .bool y6.Rest]) (d := M3) (obd := ⟨3, 1, encL rI y6.Out⟩) (r := 0) (i := 0) [(o4, some ⟨48, 4, [[.osl 3 1 (encL rI y6.Out), .sl (M3 + 1) 0 y6.Items.length, .sl (M3 + 2) 0 y6.Ended.length, .bool y6.Rest]]⟩), (M3 + 1, some ⟨22, 1, encL rL_I_o y6.Items⟩), (M3 + 2, some ⟨4, 1, encL rB y6.Ended⟩)] (by simp (disch := omega)) rfl rfl (by simp (disch := omega)) (by simp (disch := omega)) (by first | omega | simp) (by simp (disch := omega) [List.set_set, app_set] <;> omega) (by simp (disch := omega) [List.set_set, app_set]) ?_
  refine gPk AWP_ref (k := y6.Items.length) (o := o4) (ob := ⟨48, 4, [[.osl 3 1 (encL rI y6.Out), .sl (M3 + 1) 0 y6.Items.length, .sl (M3 + 2) 0 y6.Ended.length, .bool y6.Rest]]⟩) (row := [.osl 3 1 (encL rI y6.Out), .sl (M3 + 1) 0 y6.Items.length, .sl (M3 + 2) 0 y6.Ended.length, .bool y6.Rest]) (d := (M3 + 1)) (obd := ⟨22, 1, encL rL_I_o y6.Items⟩) (r := 0) (i := 1) [(o4, some ⟨48, 4, [[.osl 3 1 (encL rI y6.Out), .osl 22 1 (encL rL_I_o y6.Items), .sl (M3 + 2) 0 y6.Ended.length, .bool y6.Rest]]⟩), (M3 + 2, some ⟨4, 1, encL rB y6.Ended⟩)] (by simp (disch := omega)) rfl rfl (by simp (disch := omega)) (by simp (disch := omega)) (by first | omega | simp) (by simp (disch := omega) [List.set_set, app_set] <;> omega) (by simp (disch := omega) [List.set_set, app_set]) ?_
  refine gPk AWP_ref (k := y6.Ended.length) (o := o4) (ob := ⟨48, 4, [[.osl 3 1 (encL rI y6.Out), .osl 22 1 (encL rL_I_o y6.Items), .sl (M3 + 2) 0 y6.Ended.length, .bool y6.Rest]]⟩) (row := [.osl 3 1 (encL rI y6.Out), .osl 22 1 (encL rL_I_o y6.Items), .sl (M3 + 2) 0 y6.Ended.length, .bool y6.Rest]) (d := (M3 + 2)) (obd := ⟨4, 1, encL rB y6.Ended⟩) (r := 0) (i := 2) [(o4, some ⟨48, 4, [[.osl 3 1 (encL rI y6.Out), .osl 22 1 (encL rL_I_o y6.Items), .osl 4 1 (encL rB y6.Ended), .bool y6.Rest]]⟩)] (by simp (disch := omega)) rfl rfl (by simp (disch := omega)) (by simp (disch := omega)) (by first | omega | simp) (by simp (disch := omega) [List.set_set, app_set] <;> omega) (by simp (disch := omega) [List.set_set, app_set]) ?_
  refine gUnp AWP_ref (ty := 3) (sz := 1) (es := encL rI y6.Out) (o := o4) (ob := ⟨48, 4, [[.osl 3 1 (encL rI y6.Out), .osl 22 1 (encL rL_I_o y6.Items), .osl 4 1 (encL rB y6.Ended), .bool y6.Rest]]⟩) (row := [.osl 3 1 (encL rI y6.Out), .osl 22 1 (encL rL_I_o y6.Items), .osl 4 1 (encL rB y6.Ended), .bool y6.Rest]) (r := 0) (i := 0) [(o4, some ⟨48, 4, [[.sl (M3 + 5) 0 y6.Out.length, .osl 22 1 (encL rL_I_o y6.Items), .osl 4 1 (encL rB y6.Ended), .bool y6.Rest]]⟩), (M3 + 5, some ⟨3, 1, encL rI y6.Out⟩)] (by simp (disch := omega)) rfl rfl (by simp (disch := omega) [List.set_set]) ?_
  refine gUnp AWP_ref (ty := 22) (sz := 1) (es := encL rL_I_o y6.Items) (o := o4) (ob := ⟨48, 4, [[.sl (M3 + 5) 0 y6.Out.length, .osl 22 1 (encL rL_I_o y6.Items), .osl 4 1 (encL rB y6.Ended), .bool y6.Rest]]⟩) (row := [.sl (M3 + 5) 0 y6.Out.length, .osl 22 1 (encL rL_I_o y6.Items), .osl 4 1 (encL rB y6.Ended), .bool y6.Rest]) (r := 0) (i := 1) [(o4, some ⟨48, 4, [[.sl (M3 + 5) 0 y6.Out.length, .sl (M3 + 6) 0 y6.Items.length, .osl 4 1 (encL rB y6.Ended), .bool y6.Rest]]⟩), (M3 + 5, some ⟨3, 1, encL rI y6.Out⟩), (M3 + 6, some ⟨22, 1, encL rL_I_o y6.Items⟩)] (by simp (disch := omega)) rfl rfl (by simp (disch := omega) [List.set_set]) ?_
  refine gUnp AWP_ref (ty := 4) (sz := 1) (es := encL rB y6.Ended) (o := o4) (ob := ⟨48, 4, [[.sl (M3 + 5) 0 y6.Out.length, .sl (M3 + 6) 0 y6.Items.length, .osl 4 1 (encL rB y6.Ended), .bool y6.Rest]]⟩) (row := [.sl (M3 + 5) 0 y6.Out.length, .sl (M3 + 6) 0 y6.Items.length, .osl 4 1 (encL rB y6.Ended), .bool y6.Rest]) (r := 0) (i := 2) [(o4, some ⟨48, 4, [[.sl (M3 + 5) 0 y6.Out.length, .sl (M3 + 6) 0 y6.Items.length, .sl (M3 + 7) 0 y6.Ended.length, .bool y6.Rest]]⟩), (M3 + 5, some ⟨3, 1, encL rI y6.Out⟩), (M3 + 6, some ⟨22, 1, encL rL_I_o y6.Items⟩), (M3 + 7, some ⟨4, 1, encL rB y6.Ended⟩)] (by simp (disch := omega)) rfl rfl (by simp (disch := omega) [List.set_set]) ?_
  have z0 := nq (a := o4) (b := M3 + 5) (by omega)
  have z1 := nq (a := o4) (b := M3 + 6) (by omega)
  have z2 := nq (a := o4) (b := M3 + 7) (by omega)
  refine AWP_ret ?_
  refine ⟨[.agg [.sl (M3 + 5) 0 y6.Out.length, .sl (M3 + 6) 0 y6.Items.length, .sl (M3 + 7) 0 y6.Ended.length, .bool y6.Rest]], by simp [z0, z1, z2], (fun o => [o4].contains o), M3 + 8, M3 + 5, M3 + 6, M3 + 7, by omega, by omega, by omega, by omega, by omega, by omega, by omega, by omega, by omega, by omega, ?_, ?_⟩
  ·
   simp [encL_nil, z0, z1, z2]
  ·
   rw [cutD (L' := [(M3 + 5, some ⟨3, 1, encL rI y6.Out⟩), (M3 + 6, some ⟨22, 1, encL rL_I_o y6.Items⟩), (M3 + 7, some ⟨4, 1, encL rB y6.Ended⟩)]) (by simp [z0, z1, z2])]
   first | done | rfl | simp [List.set_set]
end Go.Proofs.Ytoklfbdcghgmlaa
