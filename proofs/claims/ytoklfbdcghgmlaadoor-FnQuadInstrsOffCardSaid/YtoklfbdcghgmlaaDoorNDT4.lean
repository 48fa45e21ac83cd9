/- The contracts of functions of the program, part 4: each computes what its mirror computes. No conditions. -/
import Derived.Test.YtoklfbdcghgmlaaDoorNDT3
set_option linter.unusedSimpArgs false
set_option linter.unusedVariables false
set_option maxRecDepth 20000
set_option maxHeartbeats 4000000
namespace Go.Proofs.YtoklfbdcghgmlaaDoor
open Go Go.Abs Go.RowKit

theorem c69_o {p0 : (List Int)} {r : gL6Rd} (H : s_l6Open_o p0 = some r) {σ : AHeap} : ACalls Tryd.prog G 69 [.fsl (encL rI_u8 p0)] σ (fun v σ' => ∃ M n0 : Nat, σ.next ≤ M ∧ σ.next ≤ n0 ∧ n0 < M ∧ v = .ptr n0 0 0 ∧ σ' = hp σ.objs [(n0, some ⟨138, 2, [[.fsl (encL rI_u8 r.b), .int .i64 r.p]]⟩)] M) := by
 refine ACalls_fr (L := []) (Q1 := fun v σ' => ∃ M n0 : Nat, σ.next ≤ M ∧ σ.next ≤ n0 ∧ n0 < M ∧ v = .ptr n0 0 0 ∧ σ' = hp E0 [(n0, some ⟨138, 2, [[.fsl (encL rI_u8 r.b), .int .i64 r.p]]⟩)] M) (by simp []) (fun hlt => ?_) ?_ ⟨_, Tryd.func69, rfl, rfl⟩
 rotate_left
 ·
  rintro v σ1 ⟨M, n0, h0, h1, h2, rfl, rfl⟩
  exact ⟨_, M, rfl, by simp, by simp; try omega, M, n0, h0, h1, h2, rfl, rfl⟩
 generalize σ.next = N0 at hlt ⊢
 refine ACalls_fn tok Tryd.func69 (by kernel_rfl) rfl Tryd.ntmps69 Tryd.results69 rfl ?_
 simp only [argsA, Nat.reduceAdd, hp_next]
 unfold s_l6Open_o at H
 refine AWP_sr tok [] [0] (fun a σ => a = [(0, .fsl (encL rI_u8 p0))] ∧ σ = hp E0 [] (N0 + 1)) (fun K hK => ?_) ?_
 ·
  skip
  simp -dsimp -implicitDefEqProofs (maxDischargeDepth := 6)
  exact hK _ _ ⟨rfl, rfl⟩
 rintro a σ ⟨rfl, rfl⟩
 refine AWP_sq [0] fun K1 hK1 => ?_
 refine AWP_sr tok [] [0, 5] (fun a σ => a = [(0, .fsl (encL rI_u8 p0)), (5, .bool (igt (ilen p0) 2000))] ∧ σ = hp E0 [] (N0 + 4)) (fun K hK => ?_) ?_
 ·
  skip
  simp -dsimp -implicitDefEqProofs (maxDischargeDepth := 6)
  exact hK _ _ ⟨rfl, rfl⟩
 rintro a σ ⟨rfl, rfl⟩
 refine AWP_cond (igt (ilen p0) 2000) rfl (fun C1 => ?_) (fun C1 => ?_)
 ·
  replace H := ifT C1 H
  obtain ⟨l1, hl1, H⟩ := bindE H
  refine AWP_rt tok [] [0] (fun a σ => a = [(0, .fsl (encL rI_u8 l1))] ∧ σ = hp E0 [] (N0 + 7)) (fun K hK => ?_) ?_
  ·
   skip
   simp -dsimp -implicitDefEqProofs (maxDischargeDepth := 6) [cuth_43 hl1]
   exact hK _ _ ⟨rfl, rfl⟩
  rintro a σ ⟨ha, rfl⟩
  refine hK1 _ _ ?_; rw [ha]
  refine Rc.mk ?_
  refine AWP_sr tok [] [2] (fun a σ => a = [(2, .ptr (N0 + 9) 0 0)] ∧ σ = hp E0 [(N0 + 9, some ⟨138, 2, [[.fsl (encL rI_u8 l1), .int .i64 0]]⟩)] (N0 + 11)) (fun K hK => ?_) ?_
  ·
   skip
   simp -dsimp -implicitDefEqProofs (maxDischargeDepth := 6)
   exact hK _ _ ⟨rfl, rfl⟩
  rintro a σ ⟨rfl, rfl⟩
  replace H := Option.some.inj H; subst H
  refine AWP_kp [2] [(2, .ptr (N0 + 9) 0 0)] rfl ?_
  refine AWP_ret ?_
  refine ⟨[.ptr (N0 + 9) 0 0], by simp, N0 + 11, N0 + 9, by omega, by omega, by omega, ?_, ?_⟩
  ·
   simp [encL_nil]
  ·
   first | rfl | simp [List.set_set]
 ·
  replace H := ifF C1 H
  refine AWP_skip ?_
  show K1 _ _
  refine keepE (l := [0]) (x := [(0, .fsl (encL rI_u8 p0))]) rfl fun a' ha => ?_
  refine hK1 _ _ ?_; rw [ha]
  refine Rc.mk ?_
  refine AWP_sr tok [] [2] (fun a σ => a = [(2, .ptr (N0 + 6) 0 0)] ∧ σ = hp E0 [(N0 + 6, some ⟨138, 2, [[.fsl (encL rI_u8 p0), .int .i64 0]]⟩)] (N0 + 8)) (fun K hK => ?_) ?_
  ·
   skip
   simp -dsimp -implicitDefEqProofs (maxDischargeDepth := 6)
   exact hK _ _ ⟨rfl, rfl⟩
  rintro a σ ⟨rfl, rfl⟩
  replace H := Option.some.inj H; subst H
  refine AWP_kp [2] [(2, .ptr (N0 + 6) 0 0)] rfl ?_
  refine AWP_ret ?_
  refine ⟨[.ptr (N0 + 6) 0 0], by simp, N0 + 8, N0 + 6, by omega, by omega, by omega, ?_, ?_⟩
  ·
   simp [encL_nil]
  ·
   first | rfl | simp [List.set_set]
theorem c71 {p0 : gL6Rd} {p1 : Int} {r : Int × gL6Rd} (H : s_l6Rd_pick p0 p1 = some r) {σ : AHeap} {w0 : Nat} {W0 : List (List AV)} {r0_ : Nat} (q0 : σ.objs w0 = some ⟨138, 2, W0⟩) (g0 : W0[r0_]? = some [.fsl (encL rI_u8 p0.b), .int .i64 p0.p]) : ACalls Tryd.prog G 71 [.ptr w0 r0_ 0, .int .i64 p1] σ (fun v σ' => ∃ M : Nat, σ.next ≤ M ∧ v = .int .i64 r.1 ∧ σ' = hp σ.objs [(w0, some ⟨138, 2, W0.set r0_ [.fsl (encL rI_u8 r.2.b), .int .i64 r.2.p]⟩)] M) := by
 refine ACalls_fr (L := [(w0, some ⟨138, 2, W0⟩)]) (Q1 := fun v σ' => ∃ M : Nat, σ.next ≤ M ∧ v = .int .i64 r.1 ∧ σ' = hp E0 [(w0, some ⟨138, 2, W0.set r0_ [.fsl (encL rI_u8 r.2.b), .int .i64 r.2.p]⟩)] M) (by simp [q0]) (fun hlt => ?_) ?_ ⟨_, Tryd.func71, rfl, rfl⟩
 rotate_left
 ·
  rintro v σ1 ⟨M, h0, rfl, rfl⟩
  exact ⟨_, M, rfl, by simp, by simp; try omega, M, h0, rfl, rfl⟩
 generalize σ.next = N0 at hlt ⊢
 have lw0 : w0 < N0 := hlt _ (.head _) rfl
 have gs_W0 : ∀ x, (W0.set r0_ x)[r0_]? = some x := gsetW g0
 rw [show W0 = W0.set r0_ [.fsl (encL rI_u8 p0.b), .int .i64 p0.p] from (set_same g0).symm]
 refine ACalls_fn tok Tryd.func71 (by kernel_rfl) rfl Tryd.ntmps71 Tryd.results71 rfl ?_
 simp only [argsA, Nat.reduceAdd, hp_next]
 unfold s_l6Rd_pick at H
 refine AWP_sr tok [] [0, 1] (fun a σ => a = [(0, .ptr w0 r0_ 0), (1, .int .i64 p1)] ∧ σ = hp E0 [(w0, some ⟨138, 2, W0.set r0_ [.fsl (encL rI_u8 p0.b), .int .i64 p0.p]⟩)] (N0 + 1)) (fun K hK => ?_) ?_
 ·
  skip
  simp -dsimp -implicitDefEqProofs (maxDischargeDepth := 6) [gs_W0, List.set_set]
  exact hK _ _ ⟨rfl, rfl⟩
 rintro a σ ⟨rfl, rfl⟩
 refine AWP_sr tok [] [0, 1] (fun a σ => a = [(0, .ptr w0 r0_ 0), (1, .int .i64 p1)] ∧ σ = hp E0 [(w0, some ⟨138, 2, W0.set r0_ [.fsl (encL rI_u8 p0.b), .int .i64 (iadd .i64 p0.p 1)]⟩)] (N0 + 10)) (fun K hK => ?_) ?_
 ·
  skip
  simp -dsimp -implicitDefEqProofs (maxDischargeDepth := 6) [gs_W0, List.set_set]
  exact hK _ _ ⟨rfl, rfl⟩
 rintro a σ ⟨rfl, rfl⟩
 refine AWP_sq [0, 1] fun K1 hK1 => ?_
 obtain ⟨g1, hg1, H⟩ := bindE H
 refine AWP_sr tok [] [0, 1, 24] (fun a σ => a = [(0, .ptr w0 r0_ 0), (1, .int .i64 p1), (24, .bool g1)] ∧ σ = hp E0 [(w0, some ⟨138, 2, W0.set r0_ [.fsl (encL rI_u8 p0.b), .int .i64 (iadd .i64 p0.p 1)]⟩)] (N0 + 20)) (fun K hK => ?_) ?_
 ·
  skip
  simp -dsimp -implicitDefEqProofs (maxDischargeDepth := 6) [gs_W0, List.set_set]
  cases hbg1 : ilt p1 1
  ·
   replace hg1 := ifF hbg1 hg1
   replace hg1 := Option.some.inj hg1; subst hg1
   try simp -dsimp -implicitDefEqProofs (maxDischargeDepth := 6) [gs_W0, List.set_set, hbg1]
   exact hK _ _ ⟨rfl, rfl⟩
  ·
   replace hg1 := ifT hbg1 hg1
   replace hg1 := Option.some.inj hg1; subst hg1
   try simp -dsimp -implicitDefEqProofs (maxDischargeDepth := 6) [gs_W0, List.set_set, hbg1]
   exact hK _ _ ⟨rfl, rfl⟩
 rintro a σ ⟨rfl, rfl⟩
 refine AWP_cond g1 rfl (fun C1 => ?_) (fun C1 => ?_)
 ·
  replace H := ifT C1 H
  refine AWP_sr tok [] [4] (fun a σ => a = [(4, .int .i64 0)] ∧ σ = hp E0 [(w0, some ⟨138, 2, W0.set r0_ [.fsl (encL rI_u8 p0.b), .int .i64 (iadd .i64 p0.p 1)]⟩)] (N0 + 21)) (fun K hK => ?_) ?_
  ·
   skip
   simp -dsimp -implicitDefEqProofs (maxDischargeDepth := 6) [gs_W0, List.set_set]
   exact hK _ _ ⟨rfl, rfl⟩
  rintro a σ ⟨rfl, rfl⟩
  replace H := Option.some.inj H; subst H
  refine AWP_kp [4] [(4, .int .i64 0)] rfl ?_
  refine AWP_ret ?_
  refine ⟨[.int .i64 0], by simp [gs_W0], N0 + 21, by omega, ?_, ?_⟩
  ·
   simp [encL_nil]
  ·
   first | rfl | simp [List.set_set]
 ·
  replace H := ifF C1 H
  refine AWP_skip ?_
  show K1 _ _
  refine keepE (l := [0, 1]) (x := [(0, .ptr w0 r0_ 0), (1, .int .i64 p1)]) rfl fun a' ha => ?_
  refine hK1 _ _ ?_; rw [ha]
  refine Rc.mk ?_
  refine AWP_sr tok [] [0, 1, 5] (fun a σ => a = [(0, .ptr w0 r0_ 0), (1, .int .i64 p1), (5, .int .i64 (isub .i64 (iadd .i64 p0.p 1) 1))] ∧ σ = hp E0 [(w0, some ⟨138, 2, W0.set r0_ [.fsl (encL rI_u8 p0.b), .int .i64 (iadd .i64 p0.p 1)]⟩)] (N0 + 26)) (fun K hK => ?_) ?_
  ·
   skip
   simp -dsimp -implicitDefEqProofs (maxDischargeDepth := 6) [gs_W0, List.set_set]
   exact hK _ _ ⟨rfl, rfl⟩
  rintro a σ ⟨rfl, rfl⟩
  refine AWP_sq [0, 1, 5] fun K2 hK2 => ?_
  refine AWP_sr tok [] [0, 1, 5, 36] (fun a σ => a = [(0, .ptr w0 r0_ 0), (1, .int .i64 p1), (5, .int .i64 (isub .i64 (iadd .i64 p0.p 1) 1)), (36, .bool (ilt (isub .i64 (iadd .i64 p0.p 1) 1) (ilen p0.b)))] ∧ σ = hp E0 [(w0, some ⟨138, 2, W0.set r0_ [.fsl (encL rI_u8 p0.b), .int .i64 (iadd .i64 p0.p 1)]⟩)] (N0 + 33)) (fun K hK => ?_) ?_
  ·
   skip
   simp -dsimp -implicitDefEqProofs (maxDischargeDepth := 6) [gs_W0, List.set_set]
   exact hK _ _ ⟨rfl, rfl⟩
  rintro a σ ⟨rfl, rfl⟩
  refine AWP_cond (ilt (isub .i64 (iadd .i64 p0.p 1) 1) (ilen p0.b)) rfl (fun C2 => ?_) (fun C2 => ?_)
  ·
   replace H := ifT C2 H
   obtain ⟨v2, hv2, H⟩ := bindE H
   obtain ⟨v3, hv3, H⟩ := bindE H
   refine AWP_sr tok [] [4] (fun a σ => a = [(4, .int .i64 v3)] ∧ σ = hp E0 [(w0, some ⟨138, 2, W0.set r0_ [.fsl (encL rI_u8 p0.b), .int .i64 (iadd .i64 p0.p 1)]⟩)] (N0 + 44)) (fun K hK => ?_) ?_
   ·
    skip
    simp -dsimp -implicitDefEqProofs (maxDischargeDepth := 6) [gs_W0, List.set_set, ix43 hv2, hv3]
    exact hK _ _ ⟨rfl, rfl⟩
   rintro a σ ⟨rfl, rfl⟩
   replace H := Option.some.inj H; subst H
   refine AWP_kp [4] [(4, .int .i64 v3)] rfl ?_
   refine AWP_ret ?_
   refine ⟨[.int .i64 v3], by simp [gs_W0], N0 + 44, by omega, ?_, ?_⟩
   ·
    simp [encL_nil]
   ·
    first | rfl | simp [List.set_set]
  ·
   replace H := ifF C2 H
   refine AWP_skip ?_
   show K2 _ _
   refine keepE (l := [0, 1, 5]) (x := [(0, .ptr w0 r0_ 0), (1, .int .i64 p1), (5, .int .i64 (isub .i64 (iadd .i64 p0.p 1) 1))]) rfl fun a' ha => ?_
   refine hK2 _ _ ?_; rw [ha]
   refine Rc.mk ?_
   obtain ⟨v4, hv4, H⟩ := bindE H
   obtain ⟨v5, hv5, H⟩ := bindE H
   obtain ⟨v6, hv6, H⟩ := bindE H
   obtain ⟨v7, hv7, H⟩ := bindE H
   obtain ⟨v8, hv8, H⟩ := bindE H
   refine AWP_sd tok tokM [] [3, 8, 9, 10, 18, 25, 26, 27, 28, 29, 30, 31, 40, 41, 42, 43] [0, 1, 2, 4, 5, 6, 7, 15, 16, 17, 19, 20, 21, 22, 23, 24, 33, 34, 36, 37, 38, 39, 3, 8, 9, 10, 11, 12, 13, 14, 18, 25, 26, 27, 28, 29, 30, 31, 32, 35, 40, 41, 42, 43, 44, 45] [1, 6] (fun a σ => a = [(1, .int .i64 p1), (6, .int .i64 (iadd .i64 (iadd .i64 (iadd .i64 (imul .i64 (iconv .i64 v5) 131) (imul .i64 (iconv .i64 v7) 1117)) (imul .i64 (isub .i64 (iadd .i64 p0.p 1) 1) 29)) (imul .i64 v8 53)))] ∧ σ = hp E0 [(w0, some ⟨138, 2, W0.set r0_ [.fsl (encL rI_u8 p0.b), .int .i64 (iadd .i64 p0.p 1)]⟩)] (N0 + 79)) (by decide) (fun K hK => ?_) ?_
   ·
    simp only [pickL, nthO_succ, nthO_zero]
    simp -dsimp -implicitDefEqProofs (maxDischargeDepth := 6) [gs_W0, List.set_set, hv4, ix43 hv5, hv6, ix43 hv7, hv8]
    exact hK _ _ ⟨rfl, rfl⟩
   rintro a σ ⟨rfl, rfl⟩
   obtain ⟨v9, hv9, H⟩ := bindE H
   refine AWP_sr tok [] [1, 6] (fun a σ => a = [(1, .int .i64 p1), (6, .int .i64 (ixor .i64 (iadd .i64 (iadd .i64 (iadd .i64 (imul .i64 (iconv .i64 v5) 131) (imul .i64 (iconv .i64 v7) 1117)) (imul .i64 (isub .i64 (iadd .i64 p0.p 1) 1) 29)) (imul .i64 v8 53)) v9))] ∧ σ = hp E0 [(w0, some ⟨138, 2, W0.set r0_ [.fsl (encL rI_u8 p0.b), .int .i64 (iadd .i64 p0.p 1)]⟩)] (N0 + 84)) (fun K hK => ?_) ?_
   ·
    skip
    simp -dsimp -implicitDefEqProofs (maxDischargeDepth := 6) [gs_W0, List.set_set, hv9]
    exact hK _ _ ⟨rfl, rfl⟩
   rintro a σ ⟨rfl, rfl⟩
   obtain ⟨v10, hv10, H⟩ := bindE H
   refine AWP_sr tok [] [4] (fun a σ => a = [(4, .int .i64 v10)] ∧ σ = hp E0 [(w0, some ⟨138, 2, W0.set r0_ [.fsl (encL rI_u8 p0.b), .int .i64 (iadd .i64 p0.p 1)]⟩)] (N0 + 88)) (fun K hK => ?_) ?_
   ·
    skip
    simp -dsimp -implicitDefEqProofs (maxDischargeDepth := 6) [gs_W0, List.set_set, hv10]
    exact hK _ _ ⟨rfl, rfl⟩
   rintro a σ ⟨rfl, rfl⟩
   replace H := Option.some.inj H; subst H
   refine AWP_kp [4] [(4, .int .i64 v10)] rfl ?_
   refine AWP_ret ?_
   refine ⟨[.int .i64 v10], by simp [gs_W0], N0 + 88, by omega, ?_, ?_⟩
   ·
    simp [encL_nil]
   ·
    first | rfl | simp [List.set_set]
theorem c144 {p0 : gL6Rd} {r : Int × gL6Rd} (H : s_l93Reg p0 = some r) {σ : AHeap} {w0 : Nat} {W0 : List (List AV)} {r0_ : Nat} (q0 : σ.objs w0 = some ⟨138, 2, W0⟩) (g0 : W0[r0_]? = some [.fsl (encL rI_u8 p0.b), .int .i64 p0.p]) : ACalls Tryd.prog G 144 [.ptr w0 r0_ 0] σ (fun v σ' => ∃ M : Nat, σ.next ≤ M ∧ v = .int .i64 r.1 ∧ σ' = hp σ.objs [(w0, some ⟨138, 2, W0.set r0_ [.fsl (encL rI_u8 r.2.b), .int .i64 r.2.p]⟩)] M) := by
 refine ACalls_fr (L := [(w0, some ⟨138, 2, W0⟩)]) (Q1 := fun v σ' => ∃ M : Nat, σ.next ≤ M ∧ v = .int .i64 r.1 ∧ σ' = hp E0 [(w0, some ⟨138, 2, W0.set r0_ [.fsl (encL rI_u8 r.2.b), .int .i64 r.2.p]⟩)] M) (by simp [q0]) (fun hlt => ?_) ?_ ⟨_, Tryd.func144, rfl, rfl⟩
 rotate_left
 ·
  rintro v σ1 ⟨M, h0, rfl, rfl⟩
  exact ⟨_, M, rfl, by simp, by simp; try omega, M, h0, rfl, rfl⟩
 generalize σ.next = N0 at hlt ⊢
 have lw0 : w0 < N0 := hlt _ (.head _) rfl
 have gs_W0 : ∀ x, (W0.set r0_ x)[r0_]? = some x := gsetW g0
 rw [show W0 = W0.set r0_ [.fsl (encL rI_u8 p0.b), .int .i64 p0.p] from (set_same g0).symm]
 refine ACalls_fn tok Tryd.func144 (by kernel_rfl) rfl Tryd.ntmps144 Tryd.results144 rfl ?_
 simp only [argsA, Nat.reduceAdd, hp_next]
 unfold s_l93Reg at H
 refine AWP_sr tok [] [0] (fun a σ => a = [(0, .ptr w0 r0_ 0)] ∧ σ = hp E0 [(w0, some ⟨138, 2, W0.set r0_ [.fsl (encL rI_u8 p0.b), .int .i64 p0.p]⟩)] (N0 + 1)) (fun K hK => ?_) ?_
 ·
  skip
  simp -dsimp -implicitDefEqProofs (maxDischargeDepth := 6) [gs_W0, List.set_set]
  exact hK _ _ ⟨rfl, rfl⟩
 rintro a σ ⟨rfl, rfl⟩
 obtain ⟨r1, hr1, H⟩ := bindE H
 refine AWP_sr tok [] [2] (fun a σ => ∃ M1 : Nat, N0 + 4 ≤ M1 ∧ a = [(2, .int .i64 r1.1)] ∧ σ = hp E0 [(w0, some ⟨138, 2, W0.set r0_ [.fsl (encL rI_u8 r1.2.b), .int .i64 r1.2.p]⟩)] M1) (fun K hK => ?_) ?_
 ·
  skip
  simp -dsimp -implicitDefEqProofs (maxDischargeDepth := 6) [gs_W0, List.set_set]
  refine (c71 (W0 := W0.set r0_ [.fsl (encL rI_u8 p0.b), .int .i64 p0.p]) (r0_ := r0_) (H := hr1) (by simp [gs_W0, List.set_set]) (by simp [gs_W0, List.set_set])).mono ?_; rintro _ _ ⟨M1, fM1_0, rfl, rfl⟩; simp only [hp_next] at fM1_0
  try simp -dsimp -implicitDefEqProofs (maxDischargeDepth := 6) [gs_W0, List.set_set, hp_over_some, hp_over_none]
  exact hK _ _ ⟨M1, (by omega), rfl, rfl⟩
 rintro a σ ⟨M1, fM1_0, rfl, rfl⟩
 replace H := Option.some.inj H; subst H
 refine AWP_kp [2] [(2, .int .i64 r1.1)] rfl ?_
 refine AWP_ret ?_
 refine ⟨[.int .i64 r1.1], by simp [gs_W0], M1, by omega, ?_, ?_⟩
 ·
  simp [encL_nil]
 ·
  first | rfl | simp [List.set_set]
theorem c72 {p0 : gL6Rd} {r : Int × gL6Rd} (H : s_l91Word p0 = some r) {σ : AHeap} {w0 : Nat} {W0 : List (List AV)} {r0_ : Nat} (q0 : σ.objs w0 = some ⟨138, 2, W0⟩) (g0 : W0[r0_]? = some [.fsl (encL rI_u8 p0.b), .int .i64 p0.p]) : ACalls Tryd.prog G 72 [.ptr w0 r0_ 0] σ (fun v σ' => ∃ M : Nat, σ.next ≤ M ∧ v = .int .i64 r.1 ∧ σ' = hp σ.objs [(w0, some ⟨138, 2, W0.set r0_ [.fsl (encL rI_u8 r.2.b), .int .i64 r.2.p]⟩)] M) := by
 refine ACalls_fr (L := [(w0, some ⟨138, 2, W0⟩)]) (Q1 := fun v σ' => ∃ M : Nat, σ.next ≤ M ∧ v = .int .i64 r.1 ∧ σ' = hp E0 [(w0, some ⟨138, 2, W0.set r0_ [.fsl (encL rI_u8 r.2.b), .int .i64 r.2.p]⟩)] M) (by simp [q0]) (fun hlt => ?_) ?_ ⟨_, Tryd.func72, rfl, rfl⟩
 rotate_left
 ·
  rintro v σ1 ⟨M, h0, rfl, rfl⟩
  exact ⟨_, M, rfl, by simp, by simp; try omega, M, h0, rfl, rfl⟩
 generalize σ.next = N0 at hlt ⊢
 have lw0 : w0 < N0 := hlt _ (.head _) rfl
 have gs_W0 : ∀ x, (W0.set r0_ x)[r0_]? = some x := gsetW g0
 rw [show W0 = W0.set r0_ [.fsl (encL rI_u8 p0.b), .int .i64 p0.p] from (set_same g0).symm]
 refine ACalls_fn tok Tryd.func72 (by kernel_rfl) rfl Tryd.ntmps72 Tryd.results72 rfl ?_
 simp only [argsA, Nat.reduceAdd, hp_next]
 unfold s_l91Word at H
 refine AWP_sr tok [] [0] (fun a σ => a = [(0, .ptr w0 r0_ 0)] ∧ σ = hp E0 [(w0, some ⟨138, 2, W0.set r0_ [.fsl (encL rI_u8 p0.b), .int .i64 p0.p]⟩)] (N0 + 1)) (fun K hK => ?_) ?_
 ·
  skip
  simp -dsimp -implicitDefEqProofs (maxDischargeDepth := 6) [gs_W0, List.set_set]
  exact hK _ _ ⟨rfl, rfl⟩
 rintro a σ ⟨rfl, rfl⟩
 refine AWP_sq [0] fun K1 hK1 => ?_
 obtain ⟨r1, hr1, H⟩ := bindE H
 refine AWP_sr tok [] [0, 4] (fun a σ => ∃ M1 : Nat, N0 + 3 ≤ M1 ∧ a = [(0, .ptr w0 r0_ 0), (4, .int .i64 r1.1)] ∧ σ = hp E0 [(w0, some ⟨138, 2, W0.set r0_ [.fsl (encL rI_u8 r1.2.b), .int .i64 r1.2.p]⟩)] M1) (fun K hK => ?_) ?_
 ·
  skip
  simp -dsimp -implicitDefEqProofs (maxDischargeDepth := 6) [gs_W0, List.set_set]
  refine (c71 (W0 := W0.set r0_ [.fsl (encL rI_u8 p0.b), .int .i64 p0.p]) (r0_ := r0_) (H := hr1) (by simp [gs_W0, List.set_set]) (by simp [gs_W0, List.set_set])).mono ?_; rintro _ _ ⟨M1, fM1_0, rfl, rfl⟩; simp only [hp_next] at fM1_0
  try simp -dsimp -implicitDefEqProofs (maxDischargeDepth := 6) [gs_W0, List.set_set, hp_over_some, hp_over_none]
  exact hK _ _ ⟨M1, (by omega), rfl, rfl⟩
 rintro a σ ⟨M1, fM1_0, rfl, rfl⟩
 refine AWP_block (AWP_thenB ?_)
 refine AWP_sr tok [] [0, 4, 5] (fun a σ => a = [(0, .ptr w0 r0_ 0), (4, .int .i64 r1.1), (5, .bool (ieq r1.1 0))] ∧ σ = hp E0 [(w0, some ⟨138, 2, W0.set r0_ [.fsl (encL rI_u8 r1.2.b), .int .i64 r1.2.p]⟩)] (M1 + 2)) (fun K hK => ?_) ?_
 ·
  skip
  simp -dsimp -implicitDefEqProofs (maxDischargeDepth := 6) [gs_W0, List.set_set]
  exact hK _ _ ⟨rfl, rfl⟩
 rintro a σ ⟨rfl, rfl⟩
 refine AWP_cond (ieq r1.1 0) rfl (fun C1 => ?_) (fun C1 => ?_)
 ·
  replace H := ifT C1 H
  obtain ⟨r2, hr2, H⟩ := bindE H
  obtain ⟨v3, hv3, H⟩ := bindE H
  have q0 : ∀ σ i, buildSliceA T 24 true i 8 [(0, .int .i64 (-2147483648)), (1, .int .i64 2147483647), (2, .int .i64 (-1)), (3, .int .i64 0), (4, .int .i64 1), (5, .int .i64 (-2147483647)), (6, .int .i64 65536), (7, .int .i64 (-65536))] σ = some (.fsl (encL rI ([-2147483648, 2147483647, -1, 0, 1, -2147483647, 65536, -65536] : List Int)), σ) := fun _ _ => rfl
  refine AWP_sr tok [0] [2] (fun a σ => ∃ M2 : Nat, M1 + 8 ≤ M2 ∧ a = [(2, .int .i64 v3)] ∧ σ = hp E0 [(w0, some ⟨138, 2, W0.set r0_ [.fsl (encL rI_u8 r2.2.b), .int .i64 r2.2.p]⟩)] M2) (fun K hK => ?_) ?_
  ·
   skip
   simp -dsimp -implicitDefEqProofs (maxDischargeDepth := 6) [gs_W0, List.set_set, q0, ix24 hv3]
   refine (c71 (W0 := W0.set r0_ [.fsl (encL rI_u8 r1.2.b), .int .i64 r1.2.p]) (r0_ := r0_) (H := hr2) (by simp [gs_W0, List.set_set, q0, ix24 hv3]) (by simp [gs_W0, List.set_set, q0, ix24 hv3])).mono ?_; rintro _ _ ⟨M2, fM2_0, rfl, rfl⟩; simp only [hp_next] at fM2_0
   try simp -dsimp -implicitDefEqProofs (maxDischargeDepth := 6) [gs_W0, List.set_set, q0, ix24 hv3, hp_over_some, hp_over_none]
   exact hK _ _ ⟨M2, (by omega), rfl, rfl⟩
  rintro a σ ⟨M2, fM2_0, rfl, rfl⟩
  replace H := Option.some.inj H; subst H
  refine AWP_kp [2] [(2, .int .i64 v3)] rfl ?_
  refine AWP_ret ?_
  refine ⟨[.int .i64 v3], by simp [gs_W0], M2, by omega, ?_, ?_⟩
  ·
   simp [encL_nil]
  ·
   first | rfl | simp [List.set_set]
 ·
  replace H := ifF C1 H
  refine AWP_sr tok [] [0, 4, 12] (fun a σ => a = [(0, .ptr w0 r0_ 0), (4, .int .i64 r1.1), (12, .bool (ieq r1.1 1))] ∧ σ = hp E0 [(w0, some ⟨138, 2, W0.set r0_ [.fsl (encL rI_u8 r1.2.b), .int .i64 r1.2.p]⟩)] (M1 + 4)) (fun K hK => ?_) ?_
  ·
   skip
   simp -dsimp -implicitDefEqProofs (maxDischargeDepth := 6) [gs_W0, List.set_set]
   exact hK _ _ ⟨rfl, rfl⟩
  rintro a σ ⟨rfl, rfl⟩
  refine AWP_cond (ieq r1.1 1) rfl (fun C2 => ?_) (fun C2 => ?_)
  ·
   replace H := ifT C2 H
   obtain ⟨r4, hr4, H⟩ := bindE H
   obtain ⟨r5, hr5, H⟩ := bindE H
   obtain ⟨r6, hr6, H⟩ := bindE H
   obtain ⟨r7, hr7, H⟩ := bindE H
   obtain ⟨r8, hr8, H⟩ := bindE H
   refine AWP_sr tok [] [2] (fun a σ => ∃ M3 : Nat, ∃ M4 : Nat, ∃ M5 : Nat, ∃ M6 : Nat, M1 + 20 ≤ M3 ∧ M3 ≤ M4 ∧ M4 ≤ M5 ∧ M5 ≤ M6 ∧ a = [(2, .int .i64 r8)] ∧ σ = hp E0 [(w0, some ⟨138, 2, W0.set r0_ [.fsl (encL rI_u8 r7.2.b), .int .i64 r7.2.p]⟩)] M6) (fun K hK => ?_) ?_
   ·
    skip
    simp -dsimp -implicitDefEqProofs (maxDischargeDepth := 6) [gs_W0, List.set_set]
    refine (c71 (W0 := W0.set r0_ [.fsl (encL rI_u8 r1.2.b), .int .i64 r1.2.p]) (r0_ := r0_) (H := hr4) (by simp [gs_W0, List.set_set]) (by simp [gs_W0, List.set_set])).mono ?_; rintro _ _ ⟨M3, fM3_0, rfl, rfl⟩; simp only [hp_next] at fM3_0
    try simp -dsimp -implicitDefEqProofs (maxDischargeDepth := 6) [gs_W0, List.set_set, hp_over_some, hp_over_none]
    refine (c71 (W0 := W0.set r0_ [.fsl (encL rI_u8 r4.2.b), .int .i64 r4.2.p]) (r0_ := r0_) (H := hr5) (by simp [gs_W0, List.set_set, hp_over_some, hp_over_none]) (by simp [gs_W0, List.set_set, hp_over_some, hp_over_none])).mono ?_; rintro _ _ ⟨M4, fM4_0, rfl, rfl⟩; simp only [hp_next] at fM4_0
    try simp -dsimp -implicitDefEqProofs (maxDischargeDepth := 6) [gs_W0, List.set_set, hp_over_some, hp_over_none, hp_over_some, hp_over_none]
    refine (c71 (W0 := W0.set r0_ [.fsl (encL rI_u8 r5.2.b), .int .i64 r5.2.p]) (r0_ := r0_) (H := hr6) (by simp [gs_W0, List.set_set, hp_over_some, hp_over_none, hp_over_some, hp_over_none]) (by simp [gs_W0, List.set_set, hp_over_some, hp_over_none, hp_over_some, hp_over_none])).mono ?_; rintro _ _ ⟨M5, fM5_0, rfl, rfl⟩; simp only [hp_next] at fM5_0
    try simp -dsimp -implicitDefEqProofs (maxDischargeDepth := 6) [gs_W0, List.set_set, hp_over_some, hp_over_none, hp_over_some, hp_over_none, hp_over_some, hp_over_none]
    refine (c71 (W0 := W0.set r0_ [.fsl (encL rI_u8 r6.2.b), .int .i64 r6.2.p]) (r0_ := r0_) (H := hr7) (by simp [gs_W0, List.set_set, hp_over_some, hp_over_none, hp_over_some, hp_over_none, hp_over_some, hp_over_none]) (by simp [gs_W0, List.set_set, hp_over_some, hp_over_none, hp_over_some, hp_over_none, hp_over_some, hp_over_none])).mono ?_; rintro _ _ ⟨M6, fM6_0, rfl, rfl⟩; simp only [hp_next] at fM6_0
    try simp -dsimp -implicitDefEqProofs (maxDischargeDepth := 6) [gs_W0, List.set_set, hp_over_some, hp_over_none, hp_over_some, hp_over_none, hp_over_some, hp_over_none, hp_over_some, hp_over_none]
    refine (c102 hr8).app ?_; try simp -dsimp -implicitDefEqProofs (maxDischargeDepth := 6) [gs_W0, List.set_set, hp_over_some, hp_over_none, hp_over_some, hp_over_none, hp_over_some, hp_over_none, hp_over_some, hp_over_none]
    exact hK _ _ ⟨M3, M4, M5, M6, (by omega), (by omega), (by omega), (by omega), rfl, rfl⟩
   rintro a σ ⟨M3, M4, M5, M6, fM3_0, fM4_0, fM5_0, fM6_0, rfl, rfl⟩
   replace H := Option.some.inj H; subst H
   refine AWP_kp [2] [(2, .int .i64 r8)] rfl ?_
   refine AWP_ret ?_
   refine ⟨[.int .i64 r8], by simp [gs_W0], M6, by omega, ?_, ?_⟩
   ·
    simp [encL_nil]
   ·
    first | rfl | simp [List.set_set]
  ·
   replace H := ifF C2 H
   refine AWP_sr tok [] [0, 29] (fun a σ => a = [(0, .ptr w0 r0_ 0), (29, .bool (ieq r1.1 2))] ∧ σ = hp E0 [(w0, some ⟨138, 2, W0.set r0_ [.fsl (encL rI_u8 r1.2.b), .int .i64 r1.2.p]⟩)] (M1 + 6)) (fun K hK => ?_) ?_
   ·
    skip
    simp -dsimp -implicitDefEqProofs (maxDischargeDepth := 6) [gs_W0, List.set_set]
    exact hK _ _ ⟨rfl, rfl⟩
   rintro a σ ⟨rfl, rfl⟩
   refine AWP_cond (ieq r1.1 2) rfl (fun C3 => ?_) (fun C3 => ?_)
   ·
    replace H := ifT C3 H
    obtain ⟨r9, hr9, H⟩ := bindE H
    refine AWP_sr tok [] [2] (fun a σ => ∃ M7 : Nat, M1 + 10 ≤ M7 ∧ a = [(2, .int .i64 (isub .i64 0 r9.1))] ∧ σ = hp E0 [(w0, some ⟨138, 2, W0.set r0_ [.fsl (encL rI_u8 r9.2.b), .int .i64 r9.2.p]⟩)] M7) (fun K hK => ?_) ?_
    ·
     skip
     simp -dsimp -implicitDefEqProofs (maxDischargeDepth := 6) [gs_W0, List.set_set]
     refine (c71 (W0 := W0.set r0_ [.fsl (encL rI_u8 r1.2.b), .int .i64 r1.2.p]) (r0_ := r0_) (H := hr9) (by simp [gs_W0, List.set_set]) (by simp [gs_W0, List.set_set])).mono ?_; rintro _ _ ⟨M7, fM7_0, rfl, rfl⟩; simp only [hp_next] at fM7_0
     try simp -dsimp -implicitDefEqProofs (maxDischargeDepth := 6) [gs_W0, List.set_set, hp_over_some, hp_over_none]
     exact hK _ _ ⟨M7, (by omega), rfl, rfl⟩
    rintro a σ ⟨M7, fM7_0, rfl, rfl⟩
    replace H := Option.some.inj H; subst H
    refine AWP_kp [2] [(2, .int .i64 (isub .i64 0 r9.1))] rfl ?_
    refine AWP_ret ?_
    refine ⟨[.int .i64 (isub .i64 0 r9.1)], by simp [gs_W0], M7, by omega, ?_, ?_⟩
    ·
     simp [encL_nil]
    ·
     first | rfl | simp [List.set_set]
   ·
    replace H := ifF C3 H
    refine AWP_skip ?_
    show K1 _ _
    refine keepE (l := [0]) (x := [(0, .ptr w0 r0_ 0)]) rfl fun a' ha => ?_
    refine hK1 _ _ ?_; rw [ha]
    refine Rc.mk ?_
    obtain ⟨r10, hr10, H⟩ := bindE H
    refine AWP_sr tok [] [2] (fun a σ => ∃ M8 : Nat, M1 + 9 ≤ M8 ∧ a = [(2, .int .i64 r10.1)] ∧ σ = hp E0 [(w0, some ⟨138, 2, W0.set r0_ [.fsl (encL rI_u8 r10.2.b), .int .i64 r10.2.p]⟩)] M8) (fun K hK => ?_) ?_
    ·
     skip
     simp -dsimp -implicitDefEqProofs (maxDischargeDepth := 6) [gs_W0, List.set_set]
     refine (c71 (W0 := W0.set r0_ [.fsl (encL rI_u8 r1.2.b), .int .i64 r1.2.p]) (r0_ := r0_) (H := hr10) (by simp [gs_W0, List.set_set]) (by simp [gs_W0, List.set_set])).mono ?_; rintro _ _ ⟨M8, fM8_0, rfl, rfl⟩; simp only [hp_next] at fM8_0
     try simp -dsimp -implicitDefEqProofs (maxDischargeDepth := 6) [gs_W0, List.set_set, hp_over_some, hp_over_none]
     exact hK _ _ ⟨M8, (by omega), rfl, rfl⟩
    rintro a σ ⟨M8, fM8_0, rfl, rfl⟩
    replace H := Option.some.inj H; subst H
    refine AWP_kp [2] [(2, .int .i64 r10.1)] rfl ?_
    refine AWP_ret ?_
    refine ⟨[.int .i64 r10.1], by simp [gs_W0], M8, by omega, ?_, ?_⟩
    ·
     simp [encL_nil]
    ·
     first | rfl | simp [List.set_set]
theorem c145 {p0 : gL6Rd} {r : Int × gL6Rd} (H : s_l91Op p0 = some r) {σ : AHeap} {w0 : Nat} {W0 : List (List AV)} {r0_ : Nat} (q0 : σ.objs w0 = some ⟨138, 2, W0⟩) (g0 : W0[r0_]? = some [.fsl (encL rI_u8 p0.b), .int .i64 p0.p]) : ACalls Tryd.prog G 145 [.ptr w0 r0_ 0] σ (fun v σ' => ∃ M : Nat, σ.next ≤ M ∧ v = .int .i64 r.1 ∧ σ' = hp σ.objs [(w0, some ⟨138, 2, W0.set r0_ [.fsl (encL rI_u8 r.2.b), .int .i64 r.2.p]⟩)] M) := by
 refine ACalls_fr (L := [(w0, some ⟨138, 2, W0⟩)]) (Q1 := fun v σ' => ∃ M : Nat, σ.next ≤ M ∧ v = .int .i64 r.1 ∧ σ' = hp E0 [(w0, some ⟨138, 2, W0.set r0_ [.fsl (encL rI_u8 r.2.b), .int .i64 r.2.p]⟩)] M) (by simp [q0]) (fun hlt => ?_) ?_ ⟨_, Tryd.func145, rfl, rfl⟩
 rotate_left
 ·
  rintro v σ1 ⟨M, h0, rfl, rfl⟩
  exact ⟨_, M, rfl, by simp, by simp; try omega, M, h0, rfl, rfl⟩
 generalize σ.next = N0 at hlt ⊢
 have lw0 : w0 < N0 := hlt _ (.head _) rfl
 have gs_W0 : ∀ x, (W0.set r0_ x)[r0_]? = some x := gsetW g0
 rw [show W0 = W0.set r0_ [.fsl (encL rI_u8 p0.b), .int .i64 p0.p] from (set_same g0).symm]
 refine ACalls_fn tok Tryd.func145 (by kernel_rfl) rfl Tryd.ntmps145 Tryd.results145 rfl ?_
 simp only [argsA, Nat.reduceAdd, hp_next]
 unfold s_l91Op at H
 refine AWP_sr tok [] [0] (fun a σ => a = [(0, .ptr w0 r0_ 0)] ∧ σ = hp E0 [(w0, some ⟨138, 2, W0.set r0_ [.fsl (encL rI_u8 p0.b), .int .i64 p0.p]⟩)] (N0 + 1)) (fun K hK => ?_) ?_
 ·
  skip
  simp -dsimp -implicitDefEqProofs (maxDischargeDepth := 6) [gs_W0, List.set_set]
  exact hK _ _ ⟨rfl, rfl⟩
 rintro a σ ⟨rfl, rfl⟩
 obtain ⟨r1, hr1, H⟩ := bindE H
 refine AWP_sr tok [] [2] (fun a σ => ∃ M1 : Nat, N0 + 5 ≤ M1 ∧ a = [(2, .int .i64 (iadd .i64 1 r1.1))] ∧ σ = hp E0 [(w0, some ⟨138, 2, W0.set r0_ [.fsl (encL rI_u8 r1.2.b), .int .i64 r1.2.p]⟩)] M1) (fun K hK => ?_) ?_
 ·
  skip
  simp -dsimp -implicitDefEqProofs (maxDischargeDepth := 6) [gs_W0, List.set_set]
  refine (c71 (W0 := W0.set r0_ [.fsl (encL rI_u8 p0.b), .int .i64 p0.p]) (r0_ := r0_) (H := hr1) (by simp [gs_W0, List.set_set]) (by simp [gs_W0, List.set_set])).mono ?_; rintro _ _ ⟨M1, fM1_0, rfl, rfl⟩; simp only [hp_next] at fM1_0
  try simp -dsimp -implicitDefEqProofs (maxDischargeDepth := 6) [gs_W0, List.set_set, hp_over_some, hp_over_none]
  exact hK _ _ ⟨M1, (by omega), rfl, rfl⟩
 rintro a σ ⟨M1, fM1_0, rfl, rfl⟩
 replace H := Option.some.inj H; subst H
 refine AWP_kp [2] [(2, .int .i64 (iadd .i64 1 r1.1))] rfl ?_
 refine AWP_ret ?_
 refine ⟨[.int .i64 (iadd .i64 1 r1.1)], by simp [gs_W0], M1, by omega, ?_, ?_⟩
 ·
  simp [encL_nil]
 ·
  first | rfl | simp [List.set_set]
theorem c125 {p0 : gL6Rd} {p1 : Int} {r : gQuad × gL6Rd} (H : s_l93Quad p0 p1 = some r) {σ : AHeap} {w0 : Nat} {W0 : List (List AV)} {r0_ : Nat} (q0 : σ.objs w0 = some ⟨138, 2, W0⟩) (g0 : W0[r0_]? = some [.fsl (encL rI_u8 p0.b), .int .i64 p0.p]) : ACalls Tryd.prog G 125 [.ptr w0 r0_ 0, .int .i64 p1] σ (fun v σ' => ∃ M : Nat, σ.next ≤ M ∧ v = .agg [.int .i64 r.1.Op, .int .i64 r.1.Dst, .int .i64 r.1.A, .int .i64 r.1.B, .int .i64 r.1.N] ∧ σ' = hp σ.objs [(w0, some ⟨138, 2, W0.set r0_ [.fsl (encL rI_u8 r.2.b), .int .i64 r.2.p]⟩)] M) := by
 refine ACalls_fr (L := [(w0, some ⟨138, 2, W0⟩)]) (Q1 := fun v σ' => ∃ M : Nat, σ.next ≤ M ∧ v = .agg [.int .i64 r.1.Op, .int .i64 r.1.Dst, .int .i64 r.1.A, .int .i64 r.1.B, .int .i64 r.1.N] ∧ σ' = hp E0 [(w0, some ⟨138, 2, W0.set r0_ [.fsl (encL rI_u8 r.2.b), .int .i64 r.2.p]⟩)] M) (by simp [q0]) (fun hlt => ?_) ?_ ⟨_, Tryd.func125, rfl, rfl⟩
 rotate_left
 ·
  rintro v σ1 ⟨M, h0, rfl, rfl⟩
  exact ⟨_, M, rfl, by simp, by simp; try omega, M, h0, rfl, rfl⟩
 generalize σ.next = N0 at hlt ⊢
 have lw0 : w0 < N0 := hlt _ (.head _) rfl
 have gs_W0 : ∀ x, (W0.set r0_ x)[r0_]? = some x := gsetW g0
 rw [show W0 = W0.set r0_ [.fsl (encL rI_u8 p0.b), .int .i64 p0.p] from (set_same g0).symm]
 refine ACalls_thaw 1 ?_
 refine ACalls_fn tok Tryd.func125 (by kernel_rfl) rfl Tryd.ntmps125 Tryd.results125 rfl ?_
 simp only [argsA, Nat.reduceAdd, hp_next]
 unfold s_l93Quad at H
 refine AWP_sr tok [] [0, 1, 4] (fun a σ => a = [(0, .ptr w0 r0_ 0), (1, .int .i64 p1), (4, .ptr N0 0 0)] ∧ σ = hp E0 [(w0, some ⟨138, 2, W0.set r0_ [.fsl (encL rI_u8 p0.b), .int .i64 p0.p]⟩), (N0, some ⟨40, 5, [[.int .i64 0, .int .i64 0, .int .i64 0, .int .i64 0, .int .i64 0]]⟩)] (N0 + 1)) (fun K hK => ?_) ?_
 ·
  skip
  have e0 : ¬ w0 = N0 := by omega
  have e1 : ¬ N0 = w0 := by omega
  simp -dsimp -implicitDefEqProofs (maxDischargeDepth := 6) [e0, e1, gs_W0, List.set_set]
  exact hK _ _ ⟨rfl, rfl⟩
 rintro a σ ⟨rfl, rfl⟩
 refine AWP_sq [0, 4] fun K1 hK1 => ?_
 obtain ⟨r1, hr1, H⟩ := bindE H
 refine AWP_sr tok [] [0, 1, 4, 13] (fun a σ => ∃ M1 : Nat, N0 + 3 ≤ M1 ∧ a = [(0, .ptr w0 r0_ 0), (1, .int .i64 p1), (4, .ptr N0 0 0), (13, .int .i64 r1.1)] ∧ σ = hp E0 [(w0, some ⟨138, 2, W0.set r0_ [.fsl (encL rI_u8 r1.2.b), .int .i64 r1.2.p]⟩), (N0, some ⟨40, 5, [[.int .i64 0, .int .i64 0, .int .i64 0, .int .i64 0, .int .i64 0]]⟩)] M1) (fun K hK => ?_) ?_
 ·
  skip
  have e0 : ¬ w0 = N0 := by omega
  have e1 : ¬ N0 = w0 := by omega
  simp -dsimp -implicitDefEqProofs (maxDischargeDepth := 6) [e0, e1, gs_W0, List.set_set]
  refine (c71 (W0 := W0.set r0_ [.fsl (encL rI_u8 p0.b), .int .i64 p0.p]) (r0_ := r0_) (H := hr1) (by simp [e0, e1, gs_W0, List.set_set]) (by simp [e0, e1, gs_W0, List.set_set])).mono ?_; rintro _ _ ⟨M1, fM1_0, rfl, rfl⟩; simp only [hp_next] at fM1_0
  try simp -dsimp -implicitDefEqProofs (maxDischargeDepth := 6) [e0, e1, gs_W0, List.set_set, hp_over_some, hp_over_none]
  exact hK _ _ ⟨M1, (by omega), rfl, rfl⟩
 rintro a σ ⟨M1, fM1_0, rfl, rfl⟩
 refine AWP_block (AWP_thenB ?_)
 obtain ⟨j1, hj1, H⟩ := bindE H
 refine AWP_seq (AWP_named fun K5 hK5 => ?_)
 have hJ1 : ∀ a σ, Rc G 90 N0 (fun a σ => ∃ M2 : Nat, N0 ≤ M2 ∧ N0 < M2 ∧ a = [(0, .ptr w0 r0_ 0), (1, .int .i64 p1), (4, .ptr N0 0 0), (13, .int .i64 r1.1), (14, .bool j1)] ∧ σ = hp E0 [(w0, some ⟨138, 2, W0.set r0_ [.fsl (encL rI_u8 r1.2.b), .int .i64 r1.2.p]⟩), (N0, some ⟨40, 5, [[.int .i64 0, .int .i64 0, .int .i64 0, .int .i64 0, .int .i64 0]]⟩)] M2) (a.keep [0, 1, 4, 13, 14]) σ → K5 a σ := by
  rintro a σ ⟨b, τ, hr, M2, fM2_0, fM2_1, rfl, rfl⟩
  refine hK5 _ _ (AWP_keep [0, 1, 4, 13, 14] (AWP_ref hr ?_))
  refine AWP_cond j1 rfl (fun C1 => ?_) (fun C1 => ?_)
  ·
   replace H := ifT C1 H
   obtain ⟨r3, hr3, H⟩ := bindE H
   obtain ⟨r4, hr4, H⟩ := bindE H
   obtain ⟨r5, hr5, H⟩ := bindE H
   obtain ⟨v6, hv6, H⟩ := bindE H
   have q0 : ∀ σ i, buildSliceA T 24 true i 4 [(0, .int .i64 0), (1, .int .i64 1), (2, .int .i64 2), (3, .int .i64 r4.1)] σ = some (.fsl (encL rI ([0, 1, 2, r4.1] : List Int)), σ) := fun _ _ => rfl
   refine AWP_sr tok [4] [4] (fun a σ => ∃ M3 : Nat, ∃ M4 : Nat, ∃ M5 : Nat, M2 + 11 ≤ M3 ∧ M3 ≤ M4 ∧ M4 ≤ M5 ∧ a = [(4, .ptr N0 0 0)] ∧ σ = hp E0 [(w0, some ⟨138, 2, W0.set r0_ [.fsl (encL rI_u8 r5.2.b), .int .i64 r5.2.p]⟩), (N0, some ⟨40, 5, [[.int .i64 1, .int .i64 r3.1, .int .i64 0, .int .i64 0, .int .i64 v6]]⟩)] M5) (fun K hK => ?_) ?_
   ·
    skip
    have e0 : ¬ w0 = N0 := by omega
    have e1 : ¬ N0 = w0 := by omega
    simp -dsimp -implicitDefEqProofs (maxDischargeDepth := 6) [e0, e1, gs_W0, List.set_set, q0, ix24 hv6]
    refine (c144 (W0 := W0.set r0_ [.fsl (encL rI_u8 r1.2.b), .int .i64 r1.2.p]) (r0_ := r0_) (H := hr3) (by simp [e0, e1, gs_W0, List.set_set, q0, ix24 hv6]) (by simp [e0, e1, gs_W0, List.set_set, q0, ix24 hv6])).mono ?_; rintro _ _ ⟨M3, fM3_0, rfl, rfl⟩; simp only [hp_next] at fM3_0
    try simp -dsimp -implicitDefEqProofs (maxDischargeDepth := 6) [e0, e1, gs_W0, List.set_set, q0, ix24 hv6, hp_over_some, hp_over_none]
    refine (c72 (W0 := W0.set r0_ [.fsl (encL rI_u8 r3.2.b), .int .i64 r3.2.p]) (r0_ := r0_) (H := hr4) (by simp [e0, e1, gs_W0, List.set_set, q0, ix24 hv6, hp_over_some, hp_over_none]) (by simp [e0, e1, gs_W0, List.set_set, q0, ix24 hv6, hp_over_some, hp_over_none])).mono ?_; rintro _ _ ⟨M4, fM4_0, rfl, rfl⟩; simp only [hp_next] at fM4_0
    try simp -dsimp -implicitDefEqProofs (maxDischargeDepth := 6) [e0, e1, gs_W0, List.set_set, q0, ix24 hv6, hp_over_some, hp_over_none, hp_over_some, hp_over_none]
    refine (c71 (W0 := W0.set r0_ [.fsl (encL rI_u8 r4.2.b), .int .i64 r4.2.p]) (r0_ := r0_) (H := hr5) (by simp [e0, e1, gs_W0, List.set_set, q0, ix24 hv6, hp_over_some, hp_over_none, hp_over_some, hp_over_none]) (by simp [e0, e1, gs_W0, List.set_set, q0, ix24 hv6, hp_over_some, hp_over_none, hp_over_some, hp_over_none])).mono ?_; rintro _ _ ⟨M5, fM5_0, rfl, rfl⟩; simp only [hp_next] at fM5_0
    try simp -dsimp -implicitDefEqProofs (maxDischargeDepth := 6) [e0, e1, gs_W0, List.set_set, q0, ix24 hv6, hp_over_some, hp_over_none, hp_over_some, hp_over_none, hp_over_some, hp_over_none]
    exact hK _ _ ⟨M3, M4, M5, (by omega), (by omega), (by omega), rfl, rfl⟩
   rintro a σ ⟨M3, M4, M5, fM3_0, fM4_0, fM5_0, rfl, rfl⟩
   replace H := Option.some.inj H; subst H
   refine AWP_kp [4] [(4, .ptr N0 0 0)] rfl ?_
   have z0 : ¬ w0 = N0 := by omega
   have z1 : ¬ N0 = w0 := by omega
   refine AWP_ret ?_
   refine ⟨[.agg [.int .i64 1, .int .i64 r3.1, .int .i64 0, .int .i64 0, .int .i64 v6]], by simp [z0, z1, gs_W0], (fun o => [N0].contains o), M5, by omega, ?_, ?_⟩
   ·
    simp [encL_nil, z0, z1, gs_W0]
   ·
    rw [cutD (L' := [(w0, some ⟨138, 2, W0.set r0_ [.fsl (encL rI_u8 r5.2.b), .int .i64 r5.2.p]⟩)]) (by simp [z0, z1, gs_W0])]
    first | done | rfl | simp [List.set_set]
  ·
   replace H := ifF C1 H
   obtain ⟨j2, hj2, H⟩ := bindE H
   refine AWP_seq (AWP_named fun K4 hK4 => ?_)
   have hJ2 : ∀ a σ, Rc G 90 N0 (fun a σ => ∃ M6 : Nat, N0 ≤ M6 ∧ N0 < M6 ∧ a = [(0, .ptr w0 r0_ 0), (1, .int .i64 p1), (4, .ptr N0 0 0), (13, .int .i64 r1.1), (27, .bool j2)] ∧ σ = hp E0 [(w0, some ⟨138, 2, W0.set r0_ [.fsl (encL rI_u8 r1.2.b), .int .i64 r1.2.p]⟩), (N0, some ⟨40, 5, [[.int .i64 0, .int .i64 0, .int .i64 0, .int .i64 0, .int .i64 0]]⟩)] M6) (a.keep [0, 1, 4, 13, 27]) σ → K4 a σ := by
    rintro a σ ⟨b, τ, hr, M6, fM6_0, fM6_1, rfl, rfl⟩
    refine hK4 _ _ (AWP_keep [0, 1, 4, 13, 27] (AWP_ref hr ?_))
    refine AWP_cond j2 rfl (fun C2 => ?_) (fun C2 => ?_)
    ·
     replace H := ifT C2 H
     obtain ⟨r8, hr8, H⟩ := bindE H
     refine AWP_sr tok [] [0, 4, 5] (fun a σ => ∃ M7 : Nat, M6 + 3 ≤ M7 ∧ a = [(0, .ptr w0 r0_ 0), (4, .ptr N0 0 0), (5, .int .i64 r8.1)] ∧ σ = hp E0 [(w0, some ⟨138, 2, W0.set r0_ [.fsl (encL rI_u8 r8.2.b), .int .i64 r8.2.p]⟩), (N0, some ⟨40, 5, [[.int .i64 0, .int .i64 0, .int .i64 0, .int .i64 0, .int .i64 0]]⟩)] M7) (fun K hK => ?_) ?_
     ·
      skip
      have e0 : ¬ w0 = N0 := by omega
      have e1 : ¬ N0 = w0 := by omega
      simp -dsimp -implicitDefEqProofs (maxDischargeDepth := 6) [e0, e1, gs_W0, List.set_set]
      refine (c144 (W0 := W0.set r0_ [.fsl (encL rI_u8 r1.2.b), .int .i64 r1.2.p]) (r0_ := r0_) (H := hr8) (by simp [e0, e1, gs_W0, List.set_set]) (by simp [e0, e1, gs_W0, List.set_set])).mono ?_; rintro _ _ ⟨M7, fM7_0, rfl, rfl⟩; simp only [hp_next] at fM7_0
      try simp -dsimp -implicitDefEqProofs (maxDischargeDepth := 6) [e0, e1, gs_W0, List.set_set, hp_over_some, hp_over_none]
      exact hK _ _ ⟨M7, (by omega), rfl, rfl⟩
     rintro a σ ⟨M7, fM7_0, rfl, rfl⟩
     obtain ⟨r9, hr9, H⟩ := bindE H
     refine AWP_sr tok [] [4] (fun a σ => ∃ M8 : Nat, M7 + 5 ≤ M8 ∧ a = [(4, .ptr N0 0 0)] ∧ σ = hp E0 [(w0, some ⟨138, 2, W0.set r0_ [.fsl (encL rI_u8 r9.2.b), .int .i64 r9.2.p]⟩), (N0, some ⟨40, 5, [[.int .i64 2, .int .i64 r8.1, .int .i64 r9.1, .int .i64 0, .int .i64 0]]⟩)] M8) (fun K hK => ?_) ?_
     ·
      skip
      have e0 : ¬ w0 = N0 := by omega
      have e1 : ¬ N0 = w0 := by omega
      simp -dsimp -implicitDefEqProofs (maxDischargeDepth := 6) [e0, e1, gs_W0, List.set_set]
      refine (c144 (W0 := W0.set r0_ [.fsl (encL rI_u8 r8.2.b), .int .i64 r8.2.p]) (r0_ := r0_) (H := hr9) (by simp [e0, e1, gs_W0, List.set_set]) (by simp [e0, e1, gs_W0, List.set_set])).mono ?_; rintro _ _ ⟨M8, fM8_0, rfl, rfl⟩; simp only [hp_next] at fM8_0
      try simp -dsimp -implicitDefEqProofs (maxDischargeDepth := 6) [e0, e1, gs_W0, List.set_set, hp_over_some, hp_over_none]
      exact hK _ _ ⟨M8, (by omega), rfl, rfl⟩
     rintro a σ ⟨M8, fM8_0, rfl, rfl⟩
     replace H := Option.some.inj H; subst H
     refine AWP_kp [4] [(4, .ptr N0 0 0)] rfl ?_
     have z2 : ¬ w0 = N0 := by omega
     have z3 : ¬ N0 = w0 := by omega
     refine AWP_ret ?_
     refine ⟨[.agg [.int .i64 2, .int .i64 r8.1, .int .i64 r9.1, .int .i64 0, .int .i64 0]], by simp [z2, z3, gs_W0], (fun o => [N0].contains o), M8, by omega, ?_, ?_⟩
     ·
      simp [encL_nil, z2, z3, gs_W0]
     ·
      rw [cutD (L' := [(w0, some ⟨138, 2, W0.set r0_ [.fsl (encL rI_u8 r9.2.b), .int .i64 r9.2.p]⟩)]) (by simp [z2, z3, gs_W0])]
      first | done | rfl | simp [List.set_set]
    ·
     replace H := ifF C2 H
     obtain ⟨j3, hj3, H⟩ := bindE H
     refine AWP_seq (AWP_named fun K3 hK3 => ?_)
     have hJ3 : ∀ a σ, Rc G 90 N0 (fun a σ => ∃ M9 : Nat, N0 ≤ M9 ∧ N0 < M9 ∧ a = [(0, .ptr w0 r0_ 0), (1, .int .i64 p1), (4, .ptr N0 0 0), (13, .int .i64 r1.1), (36, .bool j3)] ∧ σ = hp E0 [(w0, some ⟨138, 2, W0.set r0_ [.fsl (encL rI_u8 r1.2.b), .int .i64 r1.2.p]⟩), (N0, some ⟨40, 5, [[.int .i64 0, .int .i64 0, .int .i64 0, .int .i64 0, .int .i64 0]]⟩)] M9) (a.keep [0, 1, 4, 13, 36]) σ → K3 a σ := by
      rintro a σ ⟨b, τ, hr, M9, fM9_0, fM9_1, rfl, rfl⟩
      refine hK3 _ _ (AWP_keep [0, 1, 4, 13, 36] (AWP_ref hr ?_))
      refine AWP_cond j3 rfl (fun C3 => ?_) (fun C3 => ?_)
      ·
       replace H := ifT C3 H
       obtain ⟨r11, hr11, H⟩ := bindE H
       refine AWP_sr tok [] [0, 4, 6] (fun a σ => ∃ M10 : Nat, M9 + 3 ≤ M10 ∧ a = [(0, .ptr w0 r0_ 0), (4, .ptr N0 0 0), (6, .int .i64 r11.1)] ∧ σ = hp E0 [(w0, some ⟨138, 2, W0.set r0_ [.fsl (encL rI_u8 r11.2.b), .int .i64 r11.2.p]⟩), (N0, some ⟨40, 5, [[.int .i64 0, .int .i64 0, .int .i64 0, .int .i64 0, .int .i64 0]]⟩)] M10) (fun K hK => ?_) ?_
       ·
        skip
        have e0 : ¬ w0 = N0 := by omega
        have e1 : ¬ N0 = w0 := by omega
        simp -dsimp -implicitDefEqProofs (maxDischargeDepth := 6) [e0, e1, gs_W0, List.set_set]
        refine (c144 (W0 := W0.set r0_ [.fsl (encL rI_u8 r1.2.b), .int .i64 r1.2.p]) (r0_ := r0_) (H := hr11) (by simp [e0, e1, gs_W0, List.set_set]) (by simp [e0, e1, gs_W0, List.set_set])).mono ?_; rintro _ _ ⟨M10, fM10_0, rfl, rfl⟩; simp only [hp_next] at fM10_0
        try simp -dsimp -implicitDefEqProofs (maxDischargeDepth := 6) [e0, e1, gs_W0, List.set_set, hp_over_some, hp_over_none]
        exact hK _ _ ⟨M10, (by omega), rfl, rfl⟩
       rintro a σ ⟨M10, fM10_0, rfl, rfl⟩
       obtain ⟨r12, hr12, H⟩ := bindE H
       refine AWP_sr tok [] [0, 4, 6, 7] (fun a σ => ∃ M11 : Nat, M10 + 3 ≤ M11 ∧ a = [(0, .ptr w0 r0_ 0), (4, .ptr N0 0 0), (6, .int .i64 r11.1), (7, .int .i64 r12.1)] ∧ σ = hp E0 [(w0, some ⟨138, 2, W0.set r0_ [.fsl (encL rI_u8 r12.2.b), .int .i64 r12.2.p]⟩), (N0, some ⟨40, 5, [[.int .i64 0, .int .i64 0, .int .i64 0, .int .i64 0, .int .i64 0]]⟩)] M11) (fun K hK => ?_) ?_
       ·
        skip
        have e0 : ¬ w0 = N0 := by omega
        have e1 : ¬ N0 = w0 := by omega
        simp -dsimp -implicitDefEqProofs (maxDischargeDepth := 6) [e0, e1, gs_W0, List.set_set]
        refine (c144 (W0 := W0.set r0_ [.fsl (encL rI_u8 r11.2.b), .int .i64 r11.2.p]) (r0_ := r0_) (H := hr12) (by simp [e0, e1, gs_W0, List.set_set]) (by simp [e0, e1, gs_W0, List.set_set])).mono ?_; rintro _ _ ⟨M11, fM11_0, rfl, rfl⟩; simp only [hp_next] at fM11_0
        try simp -dsimp -implicitDefEqProofs (maxDischargeDepth := 6) [e0, e1, gs_W0, List.set_set, hp_over_some, hp_over_none]
        exact hK _ _ ⟨M11, (by omega), rfl, rfl⟩
       rintro a σ ⟨M11, fM11_0, rfl, rfl⟩
       obtain ⟨r13, hr13, H⟩ := bindE H
       refine AWP_sr tok [] [0, 4, 6, 7, 8] (fun a σ => ∃ M12 : Nat, M11 + 3 ≤ M12 ∧ a = [(0, .ptr w0 r0_ 0), (4, .ptr N0 0 0), (6, .int .i64 r11.1), (7, .int .i64 r12.1), (8, .int .i64 r13.1)] ∧ σ = hp E0 [(w0, some ⟨138, 2, W0.set r0_ [.fsl (encL rI_u8 r13.2.b), .int .i64 r13.2.p]⟩), (N0, some ⟨40, 5, [[.int .i64 0, .int .i64 0, .int .i64 0, .int .i64 0, .int .i64 0]]⟩)] M12) (fun K hK => ?_) ?_
       ·
        skip
        have e0 : ¬ w0 = N0 := by omega
        have e1 : ¬ N0 = w0 := by omega
        simp -dsimp -implicitDefEqProofs (maxDischargeDepth := 6) [e0, e1, gs_W0, List.set_set]
        refine (c144 (W0 := W0.set r0_ [.fsl (encL rI_u8 r12.2.b), .int .i64 r12.2.p]) (r0_ := r0_) (H := hr13) (by simp [e0, e1, gs_W0, List.set_set]) (by simp [e0, e1, gs_W0, List.set_set])).mono ?_; rintro _ _ ⟨M12, fM12_0, rfl, rfl⟩; simp only [hp_next] at fM12_0
        try simp -dsimp -implicitDefEqProofs (maxDischargeDepth := 6) [e0, e1, gs_W0, List.set_set, hp_over_some, hp_over_none]
        exact hK _ _ ⟨M12, (by omega), rfl, rfl⟩
       rintro a σ ⟨M12, fM12_0, rfl, rfl⟩
       obtain ⟨r14, hr14, H⟩ := bindE H
       refine AWP_sr tok [] [4] (fun a σ => ∃ M13 : Nat, M12 + 7 ≤ M13 ∧ a = [(4, .ptr N0 0 0)] ∧ σ = hp E0 [(w0, some ⟨138, 2, W0.set r0_ [.fsl (encL rI_u8 r14.2.b), .int .i64 r14.2.p]⟩), (N0, some ⟨40, 5, [[.int .i64 3, .int .i64 r11.1, .int .i64 r12.1, .int .i64 r13.1, .int .i64 r14.1]]⟩)] M13) (fun K hK => ?_) ?_
       ·
        skip
        have e0 : ¬ w0 = N0 := by omega
        have e1 : ¬ N0 = w0 := by omega
        simp -dsimp -implicitDefEqProofs (maxDischargeDepth := 6) [e0, e1, gs_W0, List.set_set]
        refine (c145 (W0 := W0.set r0_ [.fsl (encL rI_u8 r13.2.b), .int .i64 r13.2.p]) (r0_ := r0_) (H := hr14) (by simp [e0, e1, gs_W0, List.set_set]) (by simp [e0, e1, gs_W0, List.set_set])).mono ?_; rintro _ _ ⟨M13, fM13_0, rfl, rfl⟩; simp only [hp_next] at fM13_0
        try simp -dsimp -implicitDefEqProofs (maxDischargeDepth := 6) [e0, e1, gs_W0, List.set_set, hp_over_some, hp_over_none]
        exact hK _ _ ⟨M13, (by omega), rfl, rfl⟩
       rintro a σ ⟨M13, fM13_0, rfl, rfl⟩
       replace H := Option.some.inj H; subst H
       refine AWP_kp [4] [(4, .ptr N0 0 0)] rfl ?_
       have z4 : ¬ w0 = N0 := by omega
       have z5 : ¬ N0 = w0 := by omega
       refine AWP_ret ?_
       refine ⟨[.agg [.int .i64 3, .int .i64 r11.1, .int .i64 r12.1, .int .i64 r13.1, .int .i64 r14.1]], by simp [z4, z5, gs_W0], (fun o => [N0].contains o), M13, by omega, ?_, ?_⟩
       ·
        simp [encL_nil, z4, z5, gs_W0]
       ·
        rw [cutD (L' := [(w0, some ⟨138, 2, W0.set r0_ [.fsl (encL rI_u8 r14.2.b), .int .i64 r14.2.p]⟩)]) (by simp [z4, z5, gs_W0])]
        first | done | rfl | simp [List.set_set]
      ·
       replace H := ifF C3 H
       refine AWP_sr tok [] [0, 1, 4, 13, 52] (fun a σ => a = [(0, .ptr w0 r0_ 0), (1, .int .i64 p1), (4, .ptr N0 0 0), (13, .int .i64 r1.1), (52, .bool (ieq r1.1 7))] ∧ σ = hp E0 [(w0, some ⟨138, 2, W0.set r0_ [.fsl (encL rI_u8 r1.2.b), .int .i64 r1.2.p]⟩), (N0, some ⟨40, 5, [[.int .i64 0, .int .i64 0, .int .i64 0, .int .i64 0, .int .i64 0]]⟩)] (M9 + 2)) (fun K hK => ?_) ?_
       ·
        skip
        have e0 : ¬ w0 = N0 := by omega
        have e1 : ¬ N0 = w0 := by omega
        simp -dsimp -implicitDefEqProofs (maxDischargeDepth := 6) [e0, e1, gs_W0, List.set_set]
        exact hK _ _ ⟨rfl, rfl⟩
       rintro a σ ⟨rfl, rfl⟩
       refine AWP_cond (ieq r1.1 7) rfl (fun C4 => ?_) (fun C4 => ?_)
       ·
        replace H := ifT C4 H
        obtain ⟨r15, hr15, H⟩ := bindE H
        refine AWP_sr tok [] [4] (fun a σ => ∃ M14 : Nat, M9 + 7 ≤ M14 ∧ a = [(4, .ptr N0 0 0)] ∧ σ = hp E0 [(w0, some ⟨138, 2, W0.set r0_ [.fsl (encL rI_u8 r15.2.b), .int .i64 r15.2.p]⟩), (N0, some ⟨40, 5, [[.int .i64 4, .int .i64 0, .int .i64 0, .int .i64 0, .int .i64 r15.1]]⟩)] M14) (fun K hK => ?_) ?_
        ·
         skip
         have e0 : ¬ w0 = N0 := by omega
         have e1 : ¬ N0 = w0 := by omega
         simp -dsimp -implicitDefEqProofs (maxDischargeDepth := 6) [e0, e1, gs_W0, List.set_set]
         refine (c71 (W0 := W0.set r0_ [.fsl (encL rI_u8 r1.2.b), .int .i64 r1.2.p]) (r0_ := r0_) (H := hr15) (by simp [e0, e1, gs_W0, List.set_set]) (by simp [e0, e1, gs_W0, List.set_set])).mono ?_; rintro _ _ ⟨M14, fM14_0, rfl, rfl⟩; simp only [hp_next] at fM14_0
         try simp -dsimp -implicitDefEqProofs (maxDischargeDepth := 6) [e0, e1, gs_W0, List.set_set, hp_over_some, hp_over_none]
         exact hK _ _ ⟨M14, (by omega), rfl, rfl⟩
        rintro a σ ⟨M14, fM14_0, rfl, rfl⟩
        replace H := Option.some.inj H; subst H
        refine AWP_kp [4] [(4, .ptr N0 0 0)] rfl ?_
        have z6 : ¬ w0 = N0 := by omega
        have z7 : ¬ N0 = w0 := by omega
        refine AWP_ret ?_
        refine ⟨[.agg [.int .i64 4, .int .i64 0, .int .i64 0, .int .i64 0, .int .i64 r15.1]], by simp [z6, z7, gs_W0], (fun o => [N0].contains o), M14, by omega, ?_, ?_⟩
        ·
         simp [encL_nil, z6, z7, gs_W0]
        ·
         rw [cutD (L' := [(w0, some ⟨138, 2, W0.set r0_ [.fsl (encL rI_u8 r15.2.b), .int .i64 r15.2.p]⟩)]) (by simp [z6, z7, gs_W0])]
         first | done | rfl | simp [List.set_set]
       ·
        replace H := ifF C4 H
        refine AWP_sr tok [] [0, 1, 4, 13, 58] (fun a σ => a = [(0, .ptr w0 r0_ 0), (1, .int .i64 p1), (4, .ptr N0 0 0), (13, .int .i64 r1.1), (58, .bool (ieq r1.1 8))] ∧ σ = hp E0 [(w0, some ⟨138, 2, W0.set r0_ [.fsl (encL rI_u8 r1.2.b), .int .i64 r1.2.p]⟩), (N0, some ⟨40, 5, [[.int .i64 0, .int .i64 0, .int .i64 0, .int .i64 0, .int .i64 0]]⟩)] (M9 + 4)) (fun K hK => ?_) ?_
        ·
         skip
         have e0 : ¬ w0 = N0 := by omega
         have e1 : ¬ N0 = w0 := by omega
         simp -dsimp -implicitDefEqProofs (maxDischargeDepth := 6) [e0, e1, gs_W0, List.set_set]
         exact hK _ _ ⟨rfl, rfl⟩
        rintro a σ ⟨rfl, rfl⟩
        refine AWP_cond (ieq r1.1 8) rfl (fun C5 => ?_) (fun C5 => ?_)
        ·
         replace H := ifT C5 H
         obtain ⟨r16, hr16, H⟩ := bindE H
         refine AWP_sr tok [] [0, 1, 4, 9] (fun a σ => ∃ M15 : Nat, M9 + 7 ≤ M15 ∧ a = [(0, .ptr w0 r0_ 0), (1, .int .i64 p1), (4, .ptr N0 0 0), (9, .int .i64 r16.1)] ∧ σ = hp E0 [(w0, some ⟨138, 2, W0.set r0_ [.fsl (encL rI_u8 r16.2.b), .int .i64 r16.2.p]⟩), (N0, some ⟨40, 5, [[.int .i64 0, .int .i64 0, .int .i64 0, .int .i64 0, .int .i64 0]]⟩)] M15) (fun K hK => ?_) ?_
         ·
          skip
          have e0 : ¬ w0 = N0 := by omega
          have e1 : ¬ N0 = w0 := by omega
          simp -dsimp -implicitDefEqProofs (maxDischargeDepth := 6) [e0, e1, gs_W0, List.set_set]
          refine (c144 (W0 := W0.set r0_ [.fsl (encL rI_u8 r1.2.b), .int .i64 r1.2.p]) (r0_ := r0_) (H := hr16) (by simp [e0, e1, gs_W0, List.set_set]) (by simp [e0, e1, gs_W0, List.set_set])).mono ?_; rintro _ _ ⟨M15, fM15_0, rfl, rfl⟩; simp only [hp_next] at fM15_0
          try simp -dsimp -implicitDefEqProofs (maxDischargeDepth := 6) [e0, e1, gs_W0, List.set_set, hp_over_some, hp_over_none]
          exact hK _ _ ⟨M15, (by omega), rfl, rfl⟩
         rintro a σ ⟨M15, fM15_0, rfl, rfl⟩
         obtain ⟨r17, hr17, H⟩ := bindE H
         refine AWP_sr tok [] [4] (fun a σ => ∃ M16 : Nat, M15 + 6 ≤ M16 ∧ a = [(4, .ptr N0 0 0)] ∧ σ = hp E0 [(w0, some ⟨138, 2, W0.set r0_ [.fsl (encL rI_u8 r17.2.b), .int .i64 r17.2.p]⟩), (N0, some ⟨40, 5, [[.int .i64 5, .int .i64 0, .int .i64 r16.1, .int .i64 0, .int .i64 r17.1]]⟩)] M16) (fun K hK => ?_) ?_
         ·
          skip
          have e0 : ¬ w0 = N0 := by omega
          have e1 : ¬ N0 = w0 := by omega
          simp -dsimp -implicitDefEqProofs (maxDischargeDepth := 6) [e0, e1, gs_W0, List.set_set]
          refine (c71 (W0 := W0.set r0_ [.fsl (encL rI_u8 r16.2.b), .int .i64 r16.2.p]) (r0_ := r0_) (H := hr17) (by simp [e0, e1, gs_W0, List.set_set]) (by simp [e0, e1, gs_W0, List.set_set])).mono ?_; rintro _ _ ⟨M16, fM16_0, rfl, rfl⟩; simp only [hp_next] at fM16_0
          try simp -dsimp -implicitDefEqProofs (maxDischargeDepth := 6) [e0, e1, gs_W0, List.set_set, hp_over_some, hp_over_none]
          exact hK _ _ ⟨M16, (by omega), rfl, rfl⟩
         rintro a σ ⟨M16, fM16_0, rfl, rfl⟩
         replace H := Option.some.inj H; subst H
         refine AWP_kp [4] [(4, .ptr N0 0 0)] rfl ?_
         have z8 : ¬ w0 = N0 := by omega
         have z9 : ¬ N0 = w0 := by omega
         refine AWP_ret ?_
         refine ⟨[.agg [.int .i64 5, .int .i64 0, .int .i64 r16.1, .int .i64 0, .int .i64 r17.1]], by simp [z8, z9, gs_W0], (fun o => [N0].contains o), M16, by omega, ?_, ?_⟩
         ·
          simp [encL_nil, z8, z9, gs_W0]
         ·
          rw [cutD (L' := [(w0, some ⟨138, 2, W0.set r0_ [.fsl (encL rI_u8 r17.2.b), .int .i64 r17.2.p]⟩)]) (by simp [z8, z9, gs_W0])]
          first | done | rfl | simp [List.set_set]
        ·
         replace H := ifF C5 H
         refine AWP_sr tok [] [0, 4, 13, 67] (fun a σ => a = [(0, .ptr w0 r0_ 0), (4, .ptr N0 0 0), (13, .int .i64 r1.1), (67, .bool (ieq r1.1 9))] ∧ σ = hp E0 [(w0, some ⟨138, 2, W0.set r0_ [.fsl (encL rI_u8 r1.2.b), .int .i64 r1.2.p]⟩), (N0, some ⟨40, 5, [[.int .i64 0, .int .i64 0, .int .i64 0, .int .i64 0, .int .i64 0]]⟩)] (M9 + 6)) (fun K hK => ?_) ?_
         ·
          skip
          have e0 : ¬ w0 = N0 := by omega
          have e1 : ¬ N0 = w0 := by omega
          simp -dsimp -implicitDefEqProofs (maxDischargeDepth := 6) [e0, e1, gs_W0, List.set_set]
          exact hK _ _ ⟨rfl, rfl⟩
         rintro a σ ⟨rfl, rfl⟩
         refine AWP_cond (ieq r1.1 9) rfl (fun C6 => ?_) (fun C6 => ?_)
         ·
          replace H := ifT C6 H
          obtain ⟨r18, hr18, H⟩ := bindE H
          refine AWP_sr tok [] [0, 4, 10] (fun a σ => ∃ M17 : Nat, M9 + 9 ≤ M17 ∧ a = [(0, .ptr w0 r0_ 0), (4, .ptr N0 0 0), (10, .int .i64 r18.1)] ∧ σ = hp E0 [(w0, some ⟨138, 2, W0.set r0_ [.fsl (encL rI_u8 r18.2.b), .int .i64 r18.2.p]⟩), (N0, some ⟨40, 5, [[.int .i64 0, .int .i64 0, .int .i64 0, .int .i64 0, .int .i64 0]]⟩)] M17) (fun K hK => ?_) ?_
          ·
           skip
           have e0 : ¬ w0 = N0 := by omega
           have e1 : ¬ N0 = w0 := by omega
           simp -dsimp -implicitDefEqProofs (maxDischargeDepth := 6) [e0, e1, gs_W0, List.set_set]
           refine (c144 (W0 := W0.set r0_ [.fsl (encL rI_u8 r1.2.b), .int .i64 r1.2.p]) (r0_ := r0_) (H := hr18) (by simp [e0, e1, gs_W0, List.set_set]) (by simp [e0, e1, gs_W0, List.set_set])).mono ?_; rintro _ _ ⟨M17, fM17_0, rfl, rfl⟩; simp only [hp_next] at fM17_0
           try simp -dsimp -implicitDefEqProofs (maxDischargeDepth := 6) [e0, e1, gs_W0, List.set_set, hp_over_some, hp_over_none]
           exact hK _ _ ⟨M17, (by omega), rfl, rfl⟩
          rintro a σ ⟨M17, fM17_0, rfl, rfl⟩
          obtain ⟨r19, hr19, H⟩ := bindE H
          refine AWP_sr tok [] [4] (fun a σ => ∃ M18 : Nat, M17 + 5 ≤ M18 ∧ a = [(4, .ptr N0 0 0)] ∧ σ = hp E0 [(w0, some ⟨138, 2, W0.set r0_ [.fsl (encL rI_u8 r19.2.b), .int .i64 r19.2.p]⟩), (N0, some ⟨40, 5, [[.int .i64 6, .int .i64 0, .int .i64 r18.1, .int .i64 0, .int .i64 r19.1]]⟩)] M18) (fun K hK => ?_) ?_
          ·
           skip
           have e0 : ¬ w0 = N0 := by omega
           have e1 : ¬ N0 = w0 := by omega
           simp -dsimp -implicitDefEqProofs (maxDischargeDepth := 6) [e0, e1, gs_W0, List.set_set]
           refine (c71 (W0 := W0.set r0_ [.fsl (encL rI_u8 r18.2.b), .int .i64 r18.2.p]) (r0_ := r0_) (H := hr19) (by simp [e0, e1, gs_W0, List.set_set]) (by simp [e0, e1, gs_W0, List.set_set])).mono ?_; rintro _ _ ⟨M18, fM18_0, rfl, rfl⟩; simp only [hp_next] at fM18_0
           try simp -dsimp -implicitDefEqProofs (maxDischargeDepth := 6) [e0, e1, gs_W0, List.set_set, hp_over_some, hp_over_none]
           exact hK _ _ ⟨M18, (by omega), rfl, rfl⟩
          rintro a σ ⟨M18, fM18_0, rfl, rfl⟩
          replace H := Option.some.inj H; subst H
          refine AWP_kp [4] [(4, .ptr N0 0 0)] rfl ?_
          have z10 : ¬ w0 = N0 := by omega
          have z11 : ¬ N0 = w0 := by omega
          refine AWP_ret ?_
          refine ⟨[.agg [.int .i64 6, .int .i64 0, .int .i64 r18.1, .int .i64 0, .int .i64 r19.1]], by simp [z10, z11, gs_W0], (fun o => [N0].contains o), M18, by omega, ?_, ?_⟩
          ·
           simp [encL_nil, z10, z11, gs_W0]
          ·
           rw [cutD (L' := [(w0, some ⟨138, 2, W0.set r0_ [.fsl (encL rI_u8 r19.2.b), .int .i64 r19.2.p]⟩)]) (by simp [z10, z11, gs_W0])]
           first | done | rfl | simp [List.set_set]
         ·
          replace H := ifF C6 H
          refine AWP_sr tok [] [0, 4, 75] (fun a σ => a = [(0, .ptr w0 r0_ 0), (4, .ptr N0 0 0), (75, .bool (ieq r1.1 10))] ∧ σ = hp E0 [(w0, some ⟨138, 2, W0.set r0_ [.fsl (encL rI_u8 r1.2.b), .int .i64 r1.2.p]⟩), (N0, some ⟨40, 5, [[.int .i64 0, .int .i64 0, .int .i64 0, .int .i64 0, .int .i64 0]]⟩)] (M9 + 8)) (fun K hK => ?_) ?_
          ·
           skip
           have e0 : ¬ w0 = N0 := by omega
           have e1 : ¬ N0 = w0 := by omega
           simp -dsimp -implicitDefEqProofs (maxDischargeDepth := 6) [e0, e1, gs_W0, List.set_set]
           exact hK _ _ ⟨rfl, rfl⟩
          rintro a σ ⟨rfl, rfl⟩
          refine AWP_cond (ieq r1.1 10) rfl (fun C7 => ?_) (fun C7 => ?_)
          ·
           replace H := ifT C7 H
           obtain ⟨r20, hr20, H⟩ := bindE H
           refine AWP_sr tok [] [0, 4, 11] (fun a σ => ∃ M19 : Nat, M9 + 11 ≤ M19 ∧ a = [(0, .ptr w0 r0_ 0), (4, .ptr N0 0 0), (11, .int .i64 r20.1)] ∧ σ = hp E0 [(w0, some ⟨138, 2, W0.set r0_ [.fsl (encL rI_u8 r20.2.b), .int .i64 r20.2.p]⟩), (N0, some ⟨40, 5, [[.int .i64 0, .int .i64 0, .int .i64 0, .int .i64 0, .int .i64 0]]⟩)] M19) (fun K hK => ?_) ?_
           ·
            skip
            have e0 : ¬ w0 = N0 := by omega
            have e1 : ¬ N0 = w0 := by omega
            simp -dsimp -implicitDefEqProofs (maxDischargeDepth := 6) [e0, e1, gs_W0, List.set_set]
            refine (c144 (W0 := W0.set r0_ [.fsl (encL rI_u8 r1.2.b), .int .i64 r1.2.p]) (r0_ := r0_) (H := hr20) (by simp [e0, e1, gs_W0, List.set_set]) (by simp [e0, e1, gs_W0, List.set_set])).mono ?_; rintro _ _ ⟨M19, fM19_0, rfl, rfl⟩; simp only [hp_next] at fM19_0
            try simp -dsimp -implicitDefEqProofs (maxDischargeDepth := 6) [e0, e1, gs_W0, List.set_set, hp_over_some, hp_over_none]
            exact hK _ _ ⟨M19, (by omega), rfl, rfl⟩
           rintro a σ ⟨M19, fM19_0, rfl, rfl⟩
           obtain ⟨r21, hr21, H⟩ := bindE H
           refine AWP_sr tok [] [4] (fun a σ => ∃ M20 : Nat, M19 + 5 ≤ M20 ∧ a = [(4, .ptr N0 0 0)] ∧ σ = hp E0 [(w0, some ⟨138, 2, W0.set r0_ [.fsl (encL rI_u8 r21.2.b), .int .i64 r21.2.p]⟩), (N0, some ⟨40, 5, [[.int .i64 7, .int .i64 r20.1, .int .i64 0, .int .i64 0, .int .i64 r21.1]]⟩)] M20) (fun K hK => ?_) ?_
           ·
            skip
            have e0 : ¬ w0 = N0 := by omega
            have e1 : ¬ N0 = w0 := by omega
            simp -dsimp -implicitDefEqProofs (maxDischargeDepth := 6) [e0, e1, gs_W0, List.set_set]
            refine (c71 (W0 := W0.set r0_ [.fsl (encL rI_u8 r20.2.b), .int .i64 r20.2.p]) (r0_ := r0_) (H := hr21) (by simp [e0, e1, gs_W0, List.set_set]) (by simp [e0, e1, gs_W0, List.set_set])).mono ?_; rintro _ _ ⟨M20, fM20_0, rfl, rfl⟩; simp only [hp_next] at fM20_0
            try simp -dsimp -implicitDefEqProofs (maxDischargeDepth := 6) [e0, e1, gs_W0, List.set_set, hp_over_some, hp_over_none]
            exact hK _ _ ⟨M20, (by omega), rfl, rfl⟩
           rintro a σ ⟨M20, fM20_0, rfl, rfl⟩
           replace H := Option.some.inj H; subst H
           refine AWP_kp [4] [(4, .ptr N0 0 0)] rfl ?_
           have z12 : ¬ w0 = N0 := by omega
           have z13 : ¬ N0 = w0 := by omega
           refine AWP_ret ?_
           refine ⟨[.agg [.int .i64 7, .int .i64 r20.1, .int .i64 0, .int .i64 0, .int .i64 r21.1]], by simp [z12, z13, gs_W0], (fun o => [N0].contains o), M20, by omega, ?_, ?_⟩
           ·
            simp [encL_nil, z12, z13, gs_W0]
           ·
            rw [cutD (L' := [(w0, some ⟨138, 2, W0.set r0_ [.fsl (encL rI_u8 r21.2.b), .int .i64 r21.2.p]⟩)]) (by simp [z12, z13, gs_W0])]
            first | done | rfl | simp [List.set_set]
          ·
           replace H := ifF C7 H
           refine AWP_skip ?_
           show K1 _ _
           refine keepE (l := [0, 4]) (x := [(0, .ptr w0 r0_ 0), (4, .ptr N0 0 0)]) rfl fun a' ha => ?_
           refine hK1 _ _ ?_; rw [ha]
           refine Rc.mk ?_
           refine AWP_sq [0, 4] fun K2 hK2 => ?_
           obtain ⟨r22, hr22, H⟩ := bindE H
           refine AWP_sr tok [] [0, 4, 85] (fun a σ => ∃ M21 : Nat, M9 + 11 ≤ M21 ∧ a = [(0, .ptr w0 r0_ 0), (4, .ptr N0 0 0), (85, .bool (ieq r22.1 0))] ∧ σ = hp E0 [(w0, some ⟨138, 2, W0.set r0_ [.fsl (encL rI_u8 r22.2.b), .int .i64 r22.2.p]⟩), (N0, some ⟨40, 5, [[.int .i64 0, .int .i64 0, .int .i64 0, .int .i64 0, .int .i64 0]]⟩)] M21) (fun K hK => ?_) ?_
           ·
            skip
            have e0 : ¬ w0 = N0 := by omega
            have e1 : ¬ N0 = w0 := by omega
            simp -dsimp -implicitDefEqProofs (maxDischargeDepth := 6) [e0, e1, gs_W0, List.set_set]
            refine (c71 (W0 := W0.set r0_ [.fsl (encL rI_u8 r1.2.b), .int .i64 r1.2.p]) (r0_ := r0_) (H := hr22) (by simp [e0, e1, gs_W0, List.set_set]) (by simp [e0, e1, gs_W0, List.set_set])).mono ?_; rintro _ _ ⟨M21, fM21_0, rfl, rfl⟩; simp only [hp_next] at fM21_0
            try simp -dsimp -implicitDefEqProofs (maxDischargeDepth := 6) [e0, e1, gs_W0, List.set_set, hp_over_some, hp_over_none]
            exact hK _ _ ⟨M21, (by omega), rfl, rfl⟩
           rintro a σ ⟨M21, fM21_0, rfl, rfl⟩
           refine AWP_cond (ieq r22.1 0) rfl (fun C8 => ?_) (fun C8 => ?_)
           ·
            replace H := ifT C8 H
            refine AWP_sr tok [] [4] (fun a σ => a = [(4, .ptr N0 0 0)] ∧ σ = hp E0 [(w0, some ⟨138, 2, W0.set r0_ [.fsl (encL rI_u8 r22.2.b), .int .i64 r22.2.p]⟩), (N0, some ⟨40, 5, [[.int .i64 8, .int .i64 0, .int .i64 0, .int .i64 0, .int .i64 0]]⟩)] (M21 + 2)) (fun K hK => ?_) ?_
            ·
             skip
             have e0 : ¬ w0 = N0 := by omega
             have e1 : ¬ N0 = w0 := by omega
             simp -dsimp -implicitDefEqProofs (maxDischargeDepth := 6) [e0, e1, gs_W0, List.set_set]
             exact hK _ _ ⟨rfl, rfl⟩
            rintro a σ ⟨rfl, rfl⟩
            replace H := Option.some.inj H; subst H
            refine AWP_kp [4] [(4, .ptr N0 0 0)] rfl ?_
            have z14 : ¬ w0 = N0 := by omega
            have z15 : ¬ N0 = w0 := by omega
            refine AWP_ret ?_
            refine ⟨[.agg [.int .i64 8, .int .i64 0, .int .i64 0, .int .i64 0, .int .i64 0]], by simp [z14, z15, gs_W0], (fun o => [N0].contains o), M21 + 2, by omega, ?_, ?_⟩
            ·
             simp [encL_nil, z14, z15, gs_W0]
            ·
             rw [cutD (L' := [(w0, some ⟨138, 2, W0.set r0_ [.fsl (encL rI_u8 r22.2.b), .int .i64 r22.2.p]⟩)]) (by simp [z14, z15, gs_W0])]
             first | done | rfl | simp [List.set_set]
           ·
            replace H := ifF C8 H
            refine AWP_skip ?_
            show K2 _ _
            refine keepE (l := [0, 4]) (x := [(0, .ptr w0 r0_ 0), (4, .ptr N0 0 0)]) rfl fun a' ha => ?_
            refine hK2 _ _ ?_; rw [ha]
            refine Rc.mk ?_
            obtain ⟨r23, hr23, H⟩ := bindE H
            refine AWP_sr tok [] [4] (fun a σ => ∃ M22 : Nat, M21 + 4 ≤ M22 ∧ a = [(4, .ptr N0 0 0)] ∧ σ = hp E0 [(w0, some ⟨138, 2, W0.set r0_ [.fsl (encL rI_u8 r23.2.b), .int .i64 r23.2.p]⟩), (N0, some ⟨40, 5, [[.int .i64 9, .int .i64 0, .int .i64 r23.1, .int .i64 0, .int .i64 0]]⟩)] M22) (fun K hK => ?_) ?_
            ·
             skip
             have e0 : ¬ w0 = N0 := by omega
             have e1 : ¬ N0 = w0 := by omega
             simp -dsimp -implicitDefEqProofs (maxDischargeDepth := 6) [e0, e1, gs_W0, List.set_set]
             refine (c144 (W0 := W0.set r0_ [.fsl (encL rI_u8 r22.2.b), .int .i64 r22.2.p]) (r0_ := r0_) (H := hr23) (by simp [e0, e1, gs_W0, List.set_set]) (by simp [e0, e1, gs_W0, List.set_set])).mono ?_; rintro _ _ ⟨M22, fM22_0, rfl, rfl⟩; simp only [hp_next] at fM22_0
             try simp -dsimp -implicitDefEqProofs (maxDischargeDepth := 6) [e0, e1, gs_W0, List.set_set, hp_over_some, hp_over_none]
             exact hK _ _ ⟨M22, (by omega), rfl, rfl⟩
            rintro a σ ⟨M22, fM22_0, rfl, rfl⟩
            replace H := Option.some.inj H; subst H
            refine AWP_kp [4] [(4, .ptr N0 0 0)] rfl ?_
            have z16 : ¬ w0 = N0 := by omega
            have z17 : ¬ N0 = w0 := by omega
            refine AWP_ret ?_
            refine ⟨[.agg [.int .i64 9, .int .i64 0, .int .i64 r23.1, .int .i64 0, .int .i64 0]], by simp [z16, z17, gs_W0], (fun o => [N0].contains o), M22, by omega, ?_, ?_⟩
            ·
             simp [encL_nil, z16, z17, gs_W0]
            ·
             rw [cutD (L' := [(w0, some ⟨138, 2, W0.set r0_ [.fsl (encL rI_u8 r23.2.b), .int .i64 r23.2.p]⟩)]) (by simp [z16, z17, gs_W0])]
             first | done | rfl | simp [List.set_set]
     replace H := hj3
     refine AWP_sr tok [] [0, 1, 4, 13, 36] (fun a σ => a = [(0, .ptr w0 r0_ 0), (1, .int .i64 p1), (4, .ptr N0 0 0), (13, .int .i64 r1.1), (36, .bool (ieq r1.1 4))] ∧ σ = hp E0 [(w0, some ⟨138, 2, W0.set r0_ [.fsl (encL rI_u8 r1.2.b), .int .i64 r1.2.p]⟩), (N0, some ⟨40, 5, [[.int .i64 0, .int .i64 0, .int .i64 0, .int .i64 0, .int .i64 0]]⟩)] (M6 + 2)) (fun K hK => ?_) ?_
     ·
      skip
      have e0 : ¬ w0 = N0 := by omega
      have e1 : ¬ N0 = w0 := by omega
      simp -dsimp -implicitDefEqProofs (maxDischargeDepth := 6) [e0, e1, gs_W0, List.set_set]
      exact hK _ _ ⟨rfl, rfl⟩
     rintro a σ ⟨rfl, rfl⟩
     refine AWP_cond (ieq r1.1 4) rfl (fun C9 => ?_) (fun C9 => ?_)
     ·
      replace H := ifT C9 H
      refine AWP_skip ?_
      show K3 _ _
      refine keepE (l := [0, 1, 4, 13, 36]) (x := [(0, .ptr w0 r0_ 0), (1, .int .i64 p1), (4, .ptr N0 0 0), (13, .int .i64 r1.1), (36, .bool (ieq r1.1 4))]) rfl fun a' ha => ?_
      replace H := Option.some.inj H; subst H
      refine hJ3 _ _ ?_; rw [ha]
      exact Rc.fin (AHeap.Sub.refl _) ⟨M6 + 2, (by omega), (by omega), rfl, rfl⟩
     ·
      replace H := ifF C9 H
      refine AWP_sr tok [] [0, 1, 4, 13, 36] (fun a σ => a = [(0, .ptr w0 r0_ 0), (1, .int .i64 p1), (4, .ptr N0 0 0), (13, .int .i64 r1.1), (36, .bool (ieq r1.1 5))] ∧ σ = hp E0 [(w0, some ⟨138, 2, W0.set r0_ [.fsl (encL rI_u8 r1.2.b), .int .i64 r1.2.p]⟩), (N0, some ⟨40, 5, [[.int .i64 0, .int .i64 0, .int .i64 0, .int .i64 0, .int .i64 0]]⟩)] (M6 + 4)) (fun K hK => ?_) ?_
      ·
       skip
       have e0 : ¬ w0 = N0 := by omega
       have e1 : ¬ N0 = w0 := by omega
       simp -dsimp -implicitDefEqProofs (maxDischargeDepth := 6) [e0, e1, gs_W0, List.set_set]
       exact hK _ _ ⟨rfl, rfl⟩
      rintro a σ ⟨rfl, rfl⟩
      refine AWP_cond (ieq r1.1 5) rfl (fun C10 => ?_) (fun C10 => ?_)
      ·
       replace H := ifT C10 H
       refine AWP_skip ?_
       show K3 _ _
       refine keepE (l := [0, 1, 4, 13, 36]) (x := [(0, .ptr w0 r0_ 0), (1, .int .i64 p1), (4, .ptr N0 0 0), (13, .int .i64 r1.1), (36, .bool (ieq r1.1 5))]) rfl fun a' ha => ?_
       replace H := Option.some.inj H; subst H
       refine hJ3 _ _ ?_; rw [ha]
       exact Rc.fin (AHeap.Sub.refl _) ⟨M6 + 4, (by omega), (by omega), rfl, rfl⟩
      ·
       replace H := ifF C10 H
       refine AWP_rt tok [] [0, 1, 4, 13, 36] (fun a σ => a = [(0, .ptr w0 r0_ 0), (1, .int .i64 p1), (4, .ptr N0 0 0), (13, .int .i64 r1.1), (36, .bool (ieq r1.1 6))] ∧ σ = hp E0 [(w0, some ⟨138, 2, W0.set r0_ [.fsl (encL rI_u8 r1.2.b), .int .i64 r1.2.p]⟩), (N0, some ⟨40, 5, [[.int .i64 0, .int .i64 0, .int .i64 0, .int .i64 0, .int .i64 0]]⟩)] (M6 + 6)) (fun K hK => ?_) ?_
       ·
        skip
        have e0 : ¬ w0 = N0 := by omega
        have e1 : ¬ N0 = w0 := by omega
        simp -dsimp -implicitDefEqProofs (maxDischargeDepth := 6) [e0, e1, gs_W0, List.set_set]
        exact hK _ _ ⟨rfl, rfl⟩
       rintro a σ ⟨ha, rfl⟩
       replace H := Option.some.inj H; subst H
       refine hJ3 _ _ ?_; rw [ha]
       exact Rc.fin (AHeap.Sub.refl _) ⟨M6 + 6, (by omega), (by omega), rfl, rfl⟩
   replace H := hj2
   refine AWP_sr tok [] [0, 1, 4, 13, 27] (fun a σ => a = [(0, .ptr w0 r0_ 0), (1, .int .i64 p1), (4, .ptr N0 0 0), (13, .int .i64 r1.1), (27, .bool (ieq r1.1 2))] ∧ σ = hp E0 [(w0, some ⟨138, 2, W0.set r0_ [.fsl (encL rI_u8 r1.2.b), .int .i64 r1.2.p]⟩), (N0, some ⟨40, 5, [[.int .i64 0, .int .i64 0, .int .i64 0, .int .i64 0, .int .i64 0]]⟩)] (M2 + 2)) (fun K hK => ?_) ?_
   ·
    skip
    have e0 : ¬ w0 = N0 := by omega
    have e1 : ¬ N0 = w0 := by omega
    simp -dsimp -implicitDefEqProofs (maxDischargeDepth := 6) [e0, e1, gs_W0, List.set_set]
    exact hK _ _ ⟨rfl, rfl⟩
   rintro a σ ⟨rfl, rfl⟩
   refine AWP_cond (ieq r1.1 2) rfl (fun C11 => ?_) (fun C11 => ?_)
   ·
    replace H := ifT C11 H
    refine AWP_skip ?_
    show K4 _ _
    refine keepE (l := [0, 1, 4, 13, 27]) (x := [(0, .ptr w0 r0_ 0), (1, .int .i64 p1), (4, .ptr N0 0 0), (13, .int .i64 r1.1), (27, .bool (ieq r1.1 2))]) rfl fun a' ha => ?_
    replace H := Option.some.inj H; subst H
    refine hJ2 _ _ ?_; rw [ha]
    exact Rc.fin (AHeap.Sub.refl _) ⟨M2 + 2, (by omega), (by omega), rfl, rfl⟩
   ·
    replace H := ifF C11 H
    refine AWP_rt tok [] [0, 1, 4, 13, 27] (fun a σ => a = [(0, .ptr w0 r0_ 0), (1, .int .i64 p1), (4, .ptr N0 0 0), (13, .int .i64 r1.1), (27, .bool (ieq r1.1 3))] ∧ σ = hp E0 [(w0, some ⟨138, 2, W0.set r0_ [.fsl (encL rI_u8 r1.2.b), .int .i64 r1.2.p]⟩), (N0, some ⟨40, 5, [[.int .i64 0, .int .i64 0, .int .i64 0, .int .i64 0, .int .i64 0]]⟩)] (M2 + 4)) (fun K hK => ?_) ?_
    ·
     skip
     have e0 : ¬ w0 = N0 := by omega
     have e1 : ¬ N0 = w0 := by omega
     simp -dsimp -implicitDefEqProofs (maxDischargeDepth := 6) [e0, e1, gs_W0, List.set_set]
     exact hK _ _ ⟨rfl, rfl⟩
    rintro a σ ⟨ha, rfl⟩
    replace H := Option.some.inj H; subst H
    refine hJ2 _ _ ?_; rw [ha]
    exact Rc.fin (AHeap.Sub.refl _) ⟨M2 + 4, (by omega), (by omega), rfl, rfl⟩
 replace H := hj1
 refine AWP_sr tok [] [0, 1, 4, 13, 14] (fun a σ => a = [(0, .ptr w0 r0_ 0), (1, .int .i64 p1), (4, .ptr N0 0 0), (13, .int .i64 r1.1), (14, .bool (ieq r1.1 0))] ∧ σ = hp E0 [(w0, some ⟨138, 2, W0.set r0_ [.fsl (encL rI_u8 r1.2.b), .int .i64 r1.2.p]⟩), (N0, some ⟨40, 5, [[.int .i64 0, .int .i64 0, .int .i64 0, .int .i64 0, .int .i64 0]]⟩)] (M1 + 2)) (fun K hK => ?_) ?_
 ·
  skip
  have e0 : ¬ w0 = N0 := by omega
  have e1 : ¬ N0 = w0 := by omega
  simp -dsimp -implicitDefEqProofs (maxDischargeDepth := 6) [e0, e1, gs_W0, List.set_set]
  exact hK _ _ ⟨rfl, rfl⟩
 rintro a σ ⟨rfl, rfl⟩
 refine AWP_cond (ieq r1.1 0) rfl (fun C12 => ?_) (fun C12 => ?_)
 ·
  replace H := ifT C12 H
  refine AWP_skip ?_
  show K5 _ _
  refine keepE (l := [0, 1, 4, 13, 14]) (x := [(0, .ptr w0 r0_ 0), (1, .int .i64 p1), (4, .ptr N0 0 0), (13, .int .i64 r1.1), (14, .bool (ieq r1.1 0))]) rfl fun a' ha => ?_
  replace H := Option.some.inj H; subst H
  refine hJ1 _ _ ?_; rw [ha]
  exact Rc.fin (AHeap.Sub.refl _) ⟨M1 + 2, (by omega), (by omega), rfl, rfl⟩
 ·
  replace H := ifF C12 H
  refine AWP_rt tok [] [0, 1, 4, 13, 14] (fun a σ => a = [(0, .ptr w0 r0_ 0), (1, .int .i64 p1), (4, .ptr N0 0 0), (13, .int .i64 r1.1), (14, .bool (ieq r1.1 1))] ∧ σ = hp E0 [(w0, some ⟨138, 2, W0.set r0_ [.fsl (encL rI_u8 r1.2.b), .int .i64 r1.2.p]⟩), (N0, some ⟨40, 5, [[.int .i64 0, .int .i64 0, .int .i64 0, .int .i64 0, .int .i64 0]]⟩)] (M1 + 4)) (fun K hK => ?_) ?_
  ·
   skip
   have e0 : ¬ w0 = N0 := by omega
   have e1 : ¬ N0 = w0 := by omega
   simp -dsimp -implicitDefEqProofs (maxDischargeDepth := 6) [e0, e1, gs_W0, List.set_set]
   exact hK _ _ ⟨rfl, rfl⟩
  rintro a σ ⟨ha, rfl⟩
  replace H := Option.some.inj H; subst H
  refine hJ1 _ _ ?_; rw [ha]
  exact Rc.fin (AHeap.Sub.refl _) ⟨M1 + 4, (by omega), (by omega), rfl, rfl⟩
theorem c70 {p0 : gL6Rd} {r : gQuad × gL6Rd} (H : s_l93Wrong p0 = some r) {σ : AHeap} {w0 : Nat} {W0 : List (List AV)} {r0_ : Nat} (q0 : σ.objs w0 = some ⟨138, 2, W0⟩) (g0 : W0[r0_]? = some [.fsl (encL rI_u8 p0.b), .int .i64 p0.p]) : ACalls Tryd.prog G 70 [.ptr w0 r0_ 0] σ (fun v σ' => ∃ M : Nat, σ.next ≤ M ∧ v = .agg [.int .i64 r.1.Op, .int .i64 r.1.Dst, .int .i64 r.1.A, .int .i64 r.1.B, .int .i64 r.1.N] ∧ σ' = hp σ.objs [(w0, some ⟨138, 2, W0.set r0_ [.fsl (encL rI_u8 r.2.b), .int .i64 r.2.p]⟩)] M) := by
 refine ACalls_fr (L := [(w0, some ⟨138, 2, W0⟩)]) (Q1 := fun v σ' => ∃ M : Nat, σ.next ≤ M ∧ v = .agg [.int .i64 r.1.Op, .int .i64 r.1.Dst, .int .i64 r.1.A, .int .i64 r.1.B, .int .i64 r.1.N] ∧ σ' = hp E0 [(w0, some ⟨138, 2, W0.set r0_ [.fsl (encL rI_u8 r.2.b), .int .i64 r.2.p]⟩)] M) (by simp [q0]) (fun hlt => ?_) ?_ ⟨_, Tryd.func70, rfl, rfl⟩
 rotate_left
 ·
  rintro v σ1 ⟨M, h0, rfl, rfl⟩
  exact ⟨_, M, rfl, by simp, by simp; try omega, M, h0, rfl, rfl⟩
 generalize σ.next = N0 at hlt ⊢
 have lw0 : w0 < N0 := hlt _ (.head _) rfl
 have gs_W0 : ∀ x, (W0.set r0_ x)[r0_]? = some x := gsetW g0
 rw [show W0 = W0.set r0_ [.fsl (encL rI_u8 p0.b), .int .i64 p0.p] from (set_same g0).symm]
 refine ACalls_thaw 1 ?_
 refine ACalls_fn tok Tryd.func70 (by kernel_rfl) rfl Tryd.ntmps70 Tryd.results70 rfl ?_
 simp only [argsA, Nat.reduceAdd, hp_next]
 unfold s_l93Wrong at H
 refine AWP_sr tok [] [0, 2] (fun a σ => a = [(0, .ptr w0 r0_ 0), (2, .ptr N0 0 0)] ∧ σ = hp E0 [(w0, some ⟨138, 2, W0.set r0_ [.fsl (encL rI_u8 p0.b), .int .i64 p0.p]⟩), (N0, some ⟨40, 5, [[.int .i64 0, .int .i64 0, .int .i64 0, .int .i64 0, .int .i64 0]]⟩)] (N0 + 1)) (fun K hK => ?_) ?_
 ·
  skip
  have e0 : ¬ w0 = N0 := by omega
  have e1 : ¬ N0 = w0 := by omega
  simp -dsimp -implicitDefEqProofs (maxDischargeDepth := 6) [e0, e1, gs_W0, List.set_set]
  exact hK _ _ ⟨rfl, rfl⟩
 rintro a σ ⟨rfl, rfl⟩
 obtain ⟨r1, hr1, H⟩ := bindE H
 refine AWP_sr tok [] [0, 2, 3] (fun a σ => ∃ M1 : Nat, N0 + 5 ≤ M1 ∧ a = [(0, .ptr w0 r0_ 0), (2, .ptr N0 0 0), (3, .ptr (N0 + 3) 0 0)] ∧ σ = hp E0 [(w0, some ⟨138, 2, W0.set r0_ [.fsl (encL rI_u8 r1.2.b), .int .i64 r1.2.p]⟩), (N0, some ⟨40, 5, [[.int .i64 0, .int .i64 0, .int .i64 0, .int .i64 0, .int .i64 0]]⟩), (N0 + 3, some ⟨40, 5, [[.int .i64 r1.1.Op, .int .i64 r1.1.Dst, .int .i64 r1.1.A, .int .i64 r1.1.B, .int .i64 r1.1.N]]⟩)] M1) (fun K hK => ?_) ?_
 ·
  skip
  have e0 : ¬ w0 = N0 := by omega
  have e1 : ¬ N0 = w0 := by omega
  have e2 : ¬ w0 = N0 + 3 := by omega
  have e3 : ¬ N0 + 3 = w0 := by omega
  simp -dsimp -implicitDefEqProofs (maxDischargeDepth := 6) [e0, e1, e2, e3, gs_W0, List.set_set]
  refine (c125 (W0 := W0.set r0_ [.fsl (encL rI_u8 p0.b), .int .i64 p0.p]) (r0_ := r0_) (H := hr1) (by simp [e0, e1, e2, e3, gs_W0, List.set_set]) (by simp [e0, e1, e2, e3, gs_W0, List.set_set])).mono ?_; rintro _ _ ⟨M1, fM1_0, rfl, rfl⟩; simp only [hp_next] at fM1_0
  try simp -dsimp -implicitDefEqProofs (maxDischargeDepth := 6) [e0, e1, e2, e3, gs_W0, List.set_set, hp_over_some, hp_over_none]
  exact hK _ _ ⟨M1, (by omega), rfl, rfl⟩
 rintro a σ ⟨M1, fM1_0, rfl, rfl⟩
 obtain ⟨j1, hj1, H⟩ := bindE H
 refine AWP_seq (AWP_named fun K2 hK2 => ?_)
 have hJ1 : ∀ a σ, Rc G 30 N0 (fun a σ => ∃ M2 : Nat, N0 ≤ M2 ∧ N0 < M2 ∧ N0 + 3 < M2 ∧ a = [(0, .ptr w0 r0_ 0), (2, .ptr N0 0 0), (3, .ptr (N0 + 3) 0 0)] ∧ σ = hp E0 [(w0, some ⟨138, 2, W0.set r0_ [.fsl (encL rI_u8 j1.1.b), .int .i64 j1.1.p]⟩), (N0, some ⟨40, 5, [[.int .i64 0, .int .i64 0, .int .i64 0, .int .i64 0, .int .i64 0]]⟩), (N0 + 3, some ⟨40, 5, [[.int .i64 j1.2.Op, .int .i64 j1.2.Dst, .int .i64 j1.2.A, .int .i64 j1.2.B, .int .i64 j1.2.N]]⟩)] M2) (a.keep [0, 2, 3]) σ → K2 a σ := by
  rintro a σ ⟨b, τ, hr, M2, fM2_0, fM2_1, fM2_2, rfl, rfl⟩
  refine hK2 _ _ (AWP_keep [0, 2, 3] (AWP_ref hr ?_))
  refine AWP_sq [2, 3] fun K1 hK1 => ?_
  obtain ⟨r4, hr4, H⟩ := bindE H
  refine AWP_sr tok [] [0, 2, 3, 11] (fun a σ => ∃ M3 : Nat, M2 + 2 ≤ M3 ∧ a = [(0, .ptr w0 r0_ 0), (2, .ptr N0 0 0), (3, .ptr (N0 + 3) 0 0), (11, .int .i64 r4.1)] ∧ σ = hp E0 [(w0, some ⟨138, 2, W0.set r0_ [.fsl (encL rI_u8 r4.2.b), .int .i64 r4.2.p]⟩), (N0, some ⟨40, 5, [[.int .i64 0, .int .i64 0, .int .i64 0, .int .i64 0, .int .i64 0]]⟩), (N0 + 3, some ⟨40, 5, [[.int .i64 j1.2.Op, .int .i64 j1.2.Dst, .int .i64 j1.2.A, .int .i64 j1.2.B, .int .i64 j1.2.N]]⟩)] M3) (fun K hK => ?_) ?_
  ·
   skip
   have e0 : ¬ w0 = N0 := by omega
   have e1 : ¬ N0 = w0 := by omega
   have e2 : ¬ w0 = N0 + 3 := by omega
   have e3 : ¬ N0 + 3 = w0 := by omega
   simp -dsimp -implicitDefEqProofs (maxDischargeDepth := 6) [e0, e1, e2, e3, gs_W0, List.set_set]
   refine (c71 (W0 := W0.set r0_ [.fsl (encL rI_u8 j1.1.b), .int .i64 j1.1.p]) (r0_ := r0_) (H := hr4) (by simp [e0, e1, e2, e3, gs_W0, List.set_set]) (by simp [e0, e1, e2, e3, gs_W0, List.set_set])).mono ?_; rintro _ _ ⟨M3, fM3_0, rfl, rfl⟩; simp only [hp_next] at fM3_0
   try simp -dsimp -implicitDefEqProofs (maxDischargeDepth := 6) [e0, e1, e2, e3, gs_W0, List.set_set, hp_over_some, hp_over_none]
   exact hK _ _ ⟨M3, (by omega), rfl, rfl⟩
  rintro a σ ⟨M3, fM3_0, rfl, rfl⟩
  refine AWP_block (AWP_thenB ?_)
  refine AWP_sr tok [] [0, 2, 3, 11, 12] (fun a σ => a = [(0, .ptr w0 r0_ 0), (2, .ptr N0 0 0), (3, .ptr (N0 + 3) 0 0), (11, .int .i64 r4.1), (12, .bool (ieq r4.1 0))] ∧ σ = hp E0 [(w0, some ⟨138, 2, W0.set r0_ [.fsl (encL rI_u8 r4.2.b), .int .i64 r4.2.p]⟩), (N0, some ⟨40, 5, [[.int .i64 0, .int .i64 0, .int .i64 0, .int .i64 0, .int .i64 0]]⟩), (N0 + 3, some ⟨40, 5, [[.int .i64 j1.2.Op, .int .i64 j1.2.Dst, .int .i64 j1.2.A, .int .i64 j1.2.B, .int .i64 j1.2.N]]⟩)] (M3 + 2)) (fun K hK => ?_) ?_
  ·
   skip
   have e0 : ¬ w0 = N0 := by omega
   have e1 : ¬ N0 = w0 := by omega
   have e2 : ¬ w0 = N0 + 3 := by omega
   have e3 : ¬ N0 + 3 = w0 := by omega
   simp -dsimp -implicitDefEqProofs (maxDischargeDepth := 6) [e0, e1, e2, e3, gs_W0, List.set_set]
   exact hK _ _ ⟨rfl, rfl⟩
  rintro a σ ⟨rfl, rfl⟩
  refine AWP_cond (ieq r4.1 0) rfl (fun C1 => ?_) (fun C1 => ?_)
  ·
   replace H := ifT C1 H
   refine AWP_rt tok [] [2, 3] (fun a σ => a = [(2, .ptr N0 0 0), (3, .ptr (N0 + 3) 0 0)] ∧ σ = hp E0 [(w0, some ⟨138, 2, W0.set r0_ [.fsl (encL rI_u8 r4.2.b), .int .i64 r4.2.p]⟩), (N0, some ⟨40, 5, [[.int .i64 0, .int .i64 0, .int .i64 0, .int .i64 0, .int .i64 0]]⟩), (N0 + 3, some ⟨40, 5, [[.int .i64 j1.2.Op, .int .i64 j1.2.Dst, .int .i64 12, .int .i64 j1.2.B, .int .i64 j1.2.N]]⟩)] (M3 + 4)) (fun K hK => ?_) ?_
   ·
    skip
    have e0 : ¬ w0 = N0 := by omega
    have e1 : ¬ N0 = w0 := by omega
    have e2 : ¬ w0 = N0 + 3 := by omega
    have e3 : ¬ N0 + 3 = w0 := by omega
    simp -dsimp -implicitDefEqProofs (maxDischargeDepth := 6) [e0, e1, e2, e3, gs_W0, List.set_set]
    exact hK _ _ ⟨rfl, rfl⟩
   rintro a σ ⟨ha, rfl⟩
   refine hK1 _ _ ?_; rw [ha]
   refine Rc.mk ?_
   refine AWP_sr tok [] [2] (fun a σ => a = [(2, .ptr N0 0 0)] ∧ σ = hp E0 [(w0, some ⟨138, 2, W0.set r0_ [.fsl (encL rI_u8 r4.2.b), .int .i64 r4.2.p]⟩), (N0, some ⟨40, 5, [[.int .i64 j1.2.Op, .int .i64 j1.2.Dst, .int .i64 12, .int .i64 j1.2.B, .int .i64 j1.2.N]]⟩), (N0 + 3, some ⟨40, 5, [[.int .i64 j1.2.Op, .int .i64 j1.2.Dst, .int .i64 12, .int .i64 j1.2.B, .int .i64 j1.2.N]]⟩)] (M3 + 6)) (fun K hK => ?_) ?_
   ·
    skip
    have e0 : ¬ w0 = N0 := by omega
    have e1 : ¬ N0 = w0 := by omega
    have e2 : ¬ w0 = N0 + 3 := by omega
    have e3 : ¬ N0 + 3 = w0 := by omega
    simp -dsimp -implicitDefEqProofs (maxDischargeDepth := 6) [e0, e1, e2, e3, gs_W0, List.set_set]
    exact hK _ _ ⟨rfl, rfl⟩
   rintro a σ ⟨rfl, rfl⟩
   replace H := Option.some.inj H; subst H
   refine AWP_kp [2] [(2, .ptr N0 0 0)] rfl ?_
   have z0 : ¬ w0 = N0 := by omega
   have z1 : ¬ N0 = w0 := by omega
   have z2 : ¬ w0 = N0 + 3 := by omega
   have z3 : ¬ N0 + 3 = w0 := by omega
   refine gDrop AWP_ref [(w0, some ⟨138, 2, W0.set r0_ [.fsl (encL rI_u8 r4.2.b), .int .i64 r4.2.p]⟩), (N0, some ⟨40, 5, [[.int .i64 j1.2.Op, .int .i64 j1.2.Dst, .int .i64 12, .int .i64 j1.2.B, .int .i64 j1.2.N]]⟩)] (hp_skip (hp_skip (AHeap.Sub.trans (AHeap.Sub.refl _) (hp_drop rfl (by simp; try omega))))) ?_
   refine AWP_ret ?_
   refine ⟨[.agg [.int .i64 j1.2.Op, .int .i64 j1.2.Dst, .int .i64 12, .int .i64 j1.2.B, .int .i64 j1.2.N]], by simp [z0, z1, z2, z3, gs_W0], (fun o => [N0].contains o), M3 + 6, by omega, ?_, ?_⟩
   ·
    simp [encL_nil, z0, z1, z2, z3, gs_W0]
   ·
    rw [cutD (L' := [(w0, some ⟨138, 2, W0.set r0_ [.fsl (encL rI_u8 r4.2.b), .int .i64 r4.2.p]⟩)]) (by simp [z0, z1, z2, z3, gs_W0])]
    first | done | rfl | simp [List.set_set]
  ·
   replace H := ifF C1 H
   refine AWP_sr tok [] [0, 2, 3, 11, 15] (fun a σ => a = [(0, .ptr w0 r0_ 0), (2, .ptr N0 0 0), (3, .ptr (N0 + 3) 0 0), (11, .int .i64 r4.1), (15, .bool (ieq r4.1 1))] ∧ σ = hp E0 [(w0, some ⟨138, 2, W0.set r0_ [.fsl (encL rI_u8 r4.2.b), .int .i64 r4.2.p]⟩), (N0, some ⟨40, 5, [[.int .i64 0, .int .i64 0, .int .i64 0, .int .i64 0, .int .i64 0]]⟩), (N0 + 3, some ⟨40, 5, [[.int .i64 j1.2.Op, .int .i64 j1.2.Dst, .int .i64 j1.2.A, .int .i64 j1.2.B, .int .i64 j1.2.N]]⟩)] (M3 + 4)) (fun K hK => ?_) ?_
   ·
    skip
    have e0 : ¬ w0 = N0 := by omega
    have e1 : ¬ N0 = w0 := by omega
    have e2 : ¬ w0 = N0 + 3 := by omega
    have e3 : ¬ N0 + 3 = w0 := by omega
    simp -dsimp -implicitDefEqProofs (maxDischargeDepth := 6) [e0, e1, e2, e3, gs_W0, List.set_set]
    exact hK _ _ ⟨rfl, rfl⟩
   rintro a σ ⟨rfl, rfl⟩
   refine AWP_cond (ieq r4.1 1) rfl (fun C2 => ?_) (fun C2 => ?_)
   ·
    replace H := ifT C2 H
    refine AWP_rt tok [] [2, 3] (fun a σ => a = [(2, .ptr N0 0 0), (3, .ptr (N0 + 3) 0 0)] ∧ σ = hp E0 [(w0, some ⟨138, 2, W0.set r0_ [.fsl (encL rI_u8 r4.2.b), .int .i64 r4.2.p]⟩), (N0, some ⟨40, 5, [[.int .i64 0, .int .i64 0, .int .i64 0, .int .i64 0, .int .i64 0]]⟩), (N0 + 3, some ⟨40, 5, [[.int .i64 j1.2.Op, .int .i64 j1.2.Dst, .int .i64 j1.2.A, .int .i64 1, .int .i64 j1.2.N]]⟩)] (M3 + 6)) (fun K hK => ?_) ?_
    ·
     skip
     have e0 : ¬ w0 = N0 := by omega
     have e1 : ¬ N0 = w0 := by omega
     have e2 : ¬ w0 = N0 + 3 := by omega
     have e3 : ¬ N0 + 3 = w0 := by omega
     simp -dsimp -implicitDefEqProofs (maxDischargeDepth := 6) [e0, e1, e2, e3, gs_W0, List.set_set]
     exact hK _ _ ⟨rfl, rfl⟩
    rintro a σ ⟨ha, rfl⟩
    refine hK1 _ _ ?_; rw [ha]
    refine Rc.mk ?_
    refine AWP_sr tok [] [2] (fun a σ => a = [(2, .ptr N0 0 0)] ∧ σ = hp E0 [(w0, some ⟨138, 2, W0.set r0_ [.fsl (encL rI_u8 r4.2.b), .int .i64 r4.2.p]⟩), (N0, some ⟨40, 5, [[.int .i64 j1.2.Op, .int .i64 j1.2.Dst, .int .i64 j1.2.A, .int .i64 1, .int .i64 j1.2.N]]⟩), (N0 + 3, some ⟨40, 5, [[.int .i64 j1.2.Op, .int .i64 j1.2.Dst, .int .i64 j1.2.A, .int .i64 1, .int .i64 j1.2.N]]⟩)] (M3 + 8)) (fun K hK => ?_) ?_
    ·
     skip
     have e0 : ¬ w0 = N0 := by omega
     have e1 : ¬ N0 = w0 := by omega
     have e2 : ¬ w0 = N0 + 3 := by omega
     have e3 : ¬ N0 + 3 = w0 := by omega
     simp -dsimp -implicitDefEqProofs (maxDischargeDepth := 6) [e0, e1, e2, e3, gs_W0, List.set_set]
     exact hK _ _ ⟨rfl, rfl⟩
    rintro a σ ⟨rfl, rfl⟩
    replace H := Option.some.inj H; subst H
    refine AWP_kp [2] [(2, .ptr N0 0 0)] rfl ?_
    have z4 : ¬ w0 = N0 := by omega
    have z5 : ¬ N0 = w0 := by omega
    have z6 : ¬ w0 = N0 + 3 := by omega
    have z7 : ¬ N0 + 3 = w0 := by omega
    refine gDrop AWP_ref [(w0, some ⟨138, 2, W0.set r0_ [.fsl (encL rI_u8 r4.2.b), .int .i64 r4.2.p]⟩), (N0, some ⟨40, 5, [[.int .i64 j1.2.Op, .int .i64 j1.2.Dst, .int .i64 j1.2.A, .int .i64 1, .int .i64 j1.2.N]]⟩)] (hp_skip (hp_skip (AHeap.Sub.trans (AHeap.Sub.refl _) (hp_drop rfl (by simp; try omega))))) ?_
    refine AWP_ret ?_
    refine ⟨[.agg [.int .i64 j1.2.Op, .int .i64 j1.2.Dst, .int .i64 j1.2.A, .int .i64 1, .int .i64 j1.2.N]], by simp [z4, z5, z6, z7, gs_W0], (fun o => [N0].contains o), M3 + 8, by omega, ?_, ?_⟩
    ·
     simp [encL_nil, z4, z5, z6, z7, gs_W0]
    ·
     rw [cutD (L' := [(w0, some ⟨138, 2, W0.set r0_ [.fsl (encL rI_u8 r4.2.b), .int .i64 r4.2.p]⟩)]) (by simp [z4, z5, z6, z7, gs_W0])]
     first | done | rfl | simp [List.set_set]
   ·
    replace H := ifF C2 H
    refine AWP_sr tok [] [0, 2, 3, 11, 18] (fun a σ => a = [(0, .ptr w0 r0_ 0), (2, .ptr N0 0 0), (3, .ptr (N0 + 3) 0 0), (11, .int .i64 r4.1), (18, .bool (ieq r4.1 2))] ∧ σ = hp E0 [(w0, some ⟨138, 2, W0.set r0_ [.fsl (encL rI_u8 r4.2.b), .int .i64 r4.2.p]⟩), (N0, some ⟨40, 5, [[.int .i64 0, .int .i64 0, .int .i64 0, .int .i64 0, .int .i64 0]]⟩), (N0 + 3, some ⟨40, 5, [[.int .i64 j1.2.Op, .int .i64 j1.2.Dst, .int .i64 j1.2.A, .int .i64 j1.2.B, .int .i64 j1.2.N]]⟩)] (M3 + 6)) (fun K hK => ?_) ?_
    ·
     skip
     have e0 : ¬ w0 = N0 := by omega
     have e1 : ¬ N0 = w0 := by omega
     have e2 : ¬ w0 = N0 + 3 := by omega
     have e3 : ¬ N0 + 3 = w0 := by omega
     simp -dsimp -implicitDefEqProofs (maxDischargeDepth := 6) [e0, e1, e2, e3, gs_W0, List.set_set]
     exact hK _ _ ⟨rfl, rfl⟩
    rintro a σ ⟨rfl, rfl⟩
    refine AWP_cond (ieq r4.1 2) rfl (fun C3 => ?_) (fun C3 => ?_)
    ·
     replace H := ifT C3 H
     obtain ⟨r5, hr5, H⟩ := bindE H
     obtain ⟨v6, hv6, H⟩ := bindE H
     have q0 : ∀ σ i, buildSliceA T 24 true i 2 [(0, .int .i64 0), (1, .int .i64 11)] σ = some (.fsl (encL rI ([0, 11] : List Int)), σ) := fun _ _ => rfl
     refine AWP_rt tok [0] [2, 3] (fun a σ => ∃ M4 : Nat, M3 + 13 ≤ M4 ∧ a = [(2, .ptr N0 0 0), (3, .ptr (N0 + 3) 0 0)] ∧ σ = hp E0 [(w0, some ⟨138, 2, W0.set r0_ [.fsl (encL rI_u8 r5.2.b), .int .i64 r5.2.p]⟩), (N0, some ⟨40, 5, [[.int .i64 0, .int .i64 0, .int .i64 0, .int .i64 0, .int .i64 0]]⟩), (N0 + 3, some ⟨40, 5, [[.int .i64 v6, .int .i64 j1.2.Dst, .int .i64 j1.2.A, .int .i64 j1.2.B, .int .i64 j1.2.N]]⟩)] M4) (fun K hK => ?_) ?_
     ·
      skip
      have e0 : ¬ w0 = N0 := by omega
      have e1 : ¬ N0 = w0 := by omega
      have e2 : ¬ w0 = N0 + 3 := by omega
      have e3 : ¬ N0 + 3 = w0 := by omega
      simp -dsimp -implicitDefEqProofs (maxDischargeDepth := 6) [e0, e1, e2, e3, gs_W0, List.set_set, q0, ix24 hv6]
      refine (c71 (W0 := W0.set r0_ [.fsl (encL rI_u8 r4.2.b), .int .i64 r4.2.p]) (r0_ := r0_) (H := hr5) (by simp [e0, e1, e2, e3, gs_W0, List.set_set, q0, ix24 hv6]) (by simp [e0, e1, e2, e3, gs_W0, List.set_set, q0, ix24 hv6])).mono ?_; rintro _ _ ⟨M4, fM4_0, rfl, rfl⟩; simp only [hp_next] at fM4_0
      try simp -dsimp -implicitDefEqProofs (maxDischargeDepth := 6) [e0, e1, e2, e3, gs_W0, List.set_set, q0, ix24 hv6, hp_over_some, hp_over_none]
      exact hK _ _ ⟨M4, (by omega), rfl, rfl⟩
     rintro a σ ⟨M4, fM4_0, ha, rfl⟩
     refine hK1 _ _ ?_; rw [ha]
     refine Rc.mk ?_
     refine AWP_sr tok [] [2] (fun a σ => a = [(2, .ptr N0 0 0)] ∧ σ = hp E0 [(w0, some ⟨138, 2, W0.set r0_ [.fsl (encL rI_u8 r5.2.b), .int .i64 r5.2.p]⟩), (N0, some ⟨40, 5, [[.int .i64 v6, .int .i64 j1.2.Dst, .int .i64 j1.2.A, .int .i64 j1.2.B, .int .i64 j1.2.N]]⟩), (N0 + 3, some ⟨40, 5, [[.int .i64 v6, .int .i64 j1.2.Dst, .int .i64 j1.2.A, .int .i64 j1.2.B, .int .i64 j1.2.N]]⟩)] (M4 + 2)) (fun K hK => ?_) ?_
     ·
      skip
      have e0 : ¬ w0 = N0 := by omega
      have e1 : ¬ N0 = w0 := by omega
      have e2 : ¬ w0 = N0 + 3 := by omega
      have e3 : ¬ N0 + 3 = w0 := by omega
      simp -dsimp -implicitDefEqProofs (maxDischargeDepth := 6) [e0, e1, e2, e3, gs_W0, List.set_set]
      exact hK _ _ ⟨rfl, rfl⟩
     rintro a σ ⟨rfl, rfl⟩
     replace H := Option.some.inj H; subst H
     refine AWP_kp [2] [(2, .ptr N0 0 0)] rfl ?_
     have z8 : ¬ w0 = N0 := by omega
     have z9 : ¬ N0 = w0 := by omega
     have z10 : ¬ w0 = N0 + 3 := by omega
     have z11 : ¬ N0 + 3 = w0 := by omega
     refine gDrop AWP_ref [(w0, some ⟨138, 2, W0.set r0_ [.fsl (encL rI_u8 r5.2.b), .int .i64 r5.2.p]⟩), (N0, some ⟨40, 5, [[.int .i64 v6, .int .i64 j1.2.Dst, .int .i64 j1.2.A, .int .i64 j1.2.B, .int .i64 j1.2.N]]⟩)] (hp_skip (hp_skip (AHeap.Sub.trans (AHeap.Sub.refl _) (hp_drop rfl (by simp; try omega))))) ?_
     refine AWP_ret ?_
     refine ⟨[.agg [.int .i64 v6, .int .i64 j1.2.Dst, .int .i64 j1.2.A, .int .i64 j1.2.B, .int .i64 j1.2.N]], by simp [z8, z9, z10, z11, gs_W0], (fun o => [N0].contains o), M4 + 2, by omega, ?_, ?_⟩
     ·
      simp [encL_nil, z8, z9, z10, z11, gs_W0]
     ·
      rw [cutD (L' := [(w0, some ⟨138, 2, W0.set r0_ [.fsl (encL rI_u8 r5.2.b), .int .i64 r5.2.p]⟩)]) (by simp [z8, z9, z10, z11, gs_W0])]
      first | done | rfl | simp [List.set_set]
    ·
     replace H := ifF C3 H
     refine AWP_sr tok [] [2, 3, 26] (fun a σ => a = [(2, .ptr N0 0 0), (3, .ptr (N0 + 3) 0 0), (26, .bool (ieq r4.1 3))] ∧ σ = hp E0 [(w0, some ⟨138, 2, W0.set r0_ [.fsl (encL rI_u8 r4.2.b), .int .i64 r4.2.p]⟩), (N0, some ⟨40, 5, [[.int .i64 0, .int .i64 0, .int .i64 0, .int .i64 0, .int .i64 0]]⟩), (N0 + 3, some ⟨40, 5, [[.int .i64 j1.2.Op, .int .i64 j1.2.Dst, .int .i64 j1.2.A, .int .i64 j1.2.B, .int .i64 j1.2.N]]⟩)] (M3 + 8)) (fun K hK => ?_) ?_
     ·
      skip
      have e0 : ¬ w0 = N0 := by omega
      have e1 : ¬ N0 = w0 := by omega
      have e2 : ¬ w0 = N0 + 3 := by omega
      have e3 : ¬ N0 + 3 = w0 := by omega
      simp -dsimp -implicitDefEqProofs (maxDischargeDepth := 6) [e0, e1, e2, e3, gs_W0, List.set_set]
      exact hK _ _ ⟨rfl, rfl⟩
     rintro a σ ⟨rfl, rfl⟩
     refine AWP_cond (ieq r4.1 3) rfl (fun C4 => ?_) (fun C4 => ?_)
     ·
      replace H := ifT C4 H
      refine AWP_rt tok [] [2, 3] (fun a σ => a = [(2, .ptr N0 0 0), (3, .ptr (N0 + 3) 0 0)] ∧ σ = hp E0 [(w0, some ⟨138, 2, W0.set r0_ [.fsl (encL rI_u8 r4.2.b), .int .i64 r4.2.p]⟩), (N0, some ⟨40, 5, [[.int .i64 0, .int .i64 0, .int .i64 0, .int .i64 0, .int .i64 0]]⟩), (N0 + 3, some ⟨40, 5, [[.int .i64 j1.2.Op, .int .i64 j1.2.Dst, .int .i64 j1.2.A, .int .i64 j1.2.B, .int .i64 600]]⟩)] (M3 + 10)) (fun K hK => ?_) ?_
      ·
       skip
       have e0 : ¬ w0 = N0 := by omega
       have e1 : ¬ N0 = w0 := by omega
       have e2 : ¬ w0 = N0 + 3 := by omega
       have e3 : ¬ N0 + 3 = w0 := by omega
       simp -dsimp -implicitDefEqProofs (maxDischargeDepth := 6) [e0, e1, e2, e3, gs_W0, List.set_set]
       exact hK _ _ ⟨rfl, rfl⟩
      rintro a σ ⟨ha, rfl⟩
      refine hK1 _ _ ?_; rw [ha]
      refine Rc.mk ?_
      refine AWP_sr tok [] [2] (fun a σ => a = [(2, .ptr N0 0 0)] ∧ σ = hp E0 [(w0, some ⟨138, 2, W0.set r0_ [.fsl (encL rI_u8 r4.2.b), .int .i64 r4.2.p]⟩), (N0, some ⟨40, 5, [[.int .i64 j1.2.Op, .int .i64 j1.2.Dst, .int .i64 j1.2.A, .int .i64 j1.2.B, .int .i64 600]]⟩), (N0 + 3, some ⟨40, 5, [[.int .i64 j1.2.Op, .int .i64 j1.2.Dst, .int .i64 j1.2.A, .int .i64 j1.2.B, .int .i64 600]]⟩)] (M3 + 12)) (fun K hK => ?_) ?_
      ·
       skip
       have e0 : ¬ w0 = N0 := by omega
       have e1 : ¬ N0 = w0 := by omega
       have e2 : ¬ w0 = N0 + 3 := by omega
       have e3 : ¬ N0 + 3 = w0 := by omega
       simp -dsimp -implicitDefEqProofs (maxDischargeDepth := 6) [e0, e1, e2, e3, gs_W0, List.set_set]
       exact hK _ _ ⟨rfl, rfl⟩
      rintro a σ ⟨rfl, rfl⟩
      replace H := Option.some.inj H; subst H
      refine AWP_kp [2] [(2, .ptr N0 0 0)] rfl ?_
      have z12 : ¬ w0 = N0 := by omega
      have z13 : ¬ N0 = w0 := by omega
      have z14 : ¬ w0 = N0 + 3 := by omega
      have z15 : ¬ N0 + 3 = w0 := by omega
      refine gDrop AWP_ref [(w0, some ⟨138, 2, W0.set r0_ [.fsl (encL rI_u8 r4.2.b), .int .i64 r4.2.p]⟩), (N0, some ⟨40, 5, [[.int .i64 j1.2.Op, .int .i64 j1.2.Dst, .int .i64 j1.2.A, .int .i64 j1.2.B, .int .i64 600]]⟩)] (hp_skip (hp_skip (AHeap.Sub.trans (AHeap.Sub.refl _) (hp_drop rfl (by simp; try omega))))) ?_
      refine AWP_ret ?_
      refine ⟨[.agg [.int .i64 j1.2.Op, .int .i64 j1.2.Dst, .int .i64 j1.2.A, .int .i64 j1.2.B, .int .i64 600]], by simp [z12, z13, z14, z15, gs_W0], (fun o => [N0].contains o), M3 + 12, by omega, ?_, ?_⟩
      ·
       simp [encL_nil, z12, z13, z14, z15, gs_W0]
      ·
       rw [cutD (L' := [(w0, some ⟨138, 2, W0.set r0_ [.fsl (encL rI_u8 r4.2.b), .int .i64 r4.2.p]⟩)]) (by simp [z12, z13, z14, z15, gs_W0])]
       first | done | rfl | simp [List.set_set]
     ·
      replace H := ifF C4 H
      refine AWP_skip ?_
      show K1 _ _
      refine keepE (l := [2, 3]) (x := [(2, .ptr N0 0 0), (3, .ptr (N0 + 3) 0 0)]) rfl fun a' ha => ?_
      refine hK1 _ _ ?_; rw [ha]
      refine Rc.mk ?_
      refine AWP_sr tok [] [2] (fun a σ => a = [(2, .ptr N0 0 0)] ∧ σ = hp E0 [(w0, some ⟨138, 2, W0.set r0_ [.fsl (encL rI_u8 r4.2.b), .int .i64 r4.2.p]⟩), (N0, some ⟨40, 5, [[.int .i64 j1.2.Op, .int .i64 j1.2.Dst, .int .i64 j1.2.A, .int .i64 j1.2.B, .int .i64 j1.2.N]]⟩), (N0 + 3, some ⟨40, 5, [[.int .i64 j1.2.Op, .int .i64 j1.2.Dst, .int .i64 j1.2.A, .int .i64 j1.2.B, .int .i64 j1.2.N]]⟩)] (M3 + 10)) (fun K hK => ?_) ?_
      ·
       skip
       have e0 : ¬ w0 = N0 := by omega
       have e1 : ¬ N0 = w0 := by omega
       have e2 : ¬ w0 = N0 + 3 := by omega
       have e3 : ¬ N0 + 3 = w0 := by omega
       simp -dsimp -implicitDefEqProofs (maxDischargeDepth := 6) [e0, e1, e2, e3, gs_W0, List.set_set]
       exact hK _ _ ⟨rfl, rfl⟩
      rintro a σ ⟨rfl, rfl⟩
      replace H := Option.some.inj H; subst H
      refine AWP_kp [2] [(2, .ptr N0 0 0)] rfl ?_
      have z16 : ¬ w0 = N0 := by omega
      have z17 : ¬ N0 = w0 := by omega
      have z18 : ¬ w0 = N0 + 3 := by omega
      have z19 : ¬ N0 + 3 = w0 := by omega
      refine gDrop AWP_ref [(w0, some ⟨138, 2, W0.set r0_ [.fsl (encL rI_u8 r4.2.b), .int .i64 r4.2.p]⟩), (N0, some ⟨40, 5, [[.int .i64 j1.2.Op, .int .i64 j1.2.Dst, .int .i64 j1.2.A, .int .i64 j1.2.B, .int .i64 j1.2.N]]⟩)] (hp_skip (hp_skip (AHeap.Sub.trans (AHeap.Sub.refl _) (hp_drop rfl (by simp; try omega))))) ?_
      refine AWP_ret ?_
      refine ⟨[.agg [.int .i64 j1.2.Op, .int .i64 j1.2.Dst, .int .i64 j1.2.A, .int .i64 j1.2.B, .int .i64 j1.2.N]], by simp [z16, z17, z18, z19, gs_W0], (fun o => [N0].contains o), M3 + 10, by omega, ?_, ?_⟩
      ·
       simp [encL_nil, z16, z17, z18, z19, gs_W0]
      ·
       rw [cutD (L' := [(w0, some ⟨138, 2, W0.set r0_ [.fsl (encL rI_u8 r4.2.b), .int .i64 r4.2.p]⟩)]) (by simp [z16, z17, z18, z19, gs_W0])]
       first | done | rfl | simp [List.set_set]
 replace H := hj1
 obtain ⟨r7, hr7, H⟩ := bindE H
 refine AWP_sr tok [] [0, 2, 3, 8] (fun a σ => ∃ M5 : Nat, M1 + 3 ≤ M5 ∧ a = [(0, .ptr w0 r0_ 0), (2, .ptr N0 0 0), (3, .ptr (N0 + 3) 0 0), (8, .bool (ieq r7.1 0))] ∧ σ = hp E0 [(w0, some ⟨138, 2, W0.set r0_ [.fsl (encL rI_u8 r7.2.b), .int .i64 r7.2.p]⟩), (N0, some ⟨40, 5, [[.int .i64 0, .int .i64 0, .int .i64 0, .int .i64 0, .int .i64 0]]⟩), (N0 + 3, some ⟨40, 5, [[.int .i64 r1.1.Op, .int .i64 r1.1.Dst, .int .i64 r1.1.A, .int .i64 r1.1.B, .int .i64 r1.1.N]]⟩)] M5) (fun K hK => ?_) ?_
 ·
  skip
  have e0 : ¬ w0 = N0 := by omega
  have e1 : ¬ N0 = w0 := by omega
  have e2 : ¬ w0 = N0 + 3 := by omega
  have e3 : ¬ N0 + 3 = w0 := by omega
  simp -dsimp -implicitDefEqProofs (maxDischargeDepth := 6) [e0, e1, e2, e3, gs_W0, List.set_set]
  refine (c71 (W0 := W0.set r0_ [.fsl (encL rI_u8 r1.2.b), .int .i64 r1.2.p]) (r0_ := r0_) (H := hr7) (by simp [e0, e1, e2, e3, gs_W0, List.set_set]) (by simp [e0, e1, e2, e3, gs_W0, List.set_set])).mono ?_; rintro _ _ ⟨M5, fM5_0, rfl, rfl⟩; simp only [hp_next] at fM5_0
  try simp -dsimp -implicitDefEqProofs (maxDischargeDepth := 6) [e0, e1, e2, e3, gs_W0, List.set_set, hp_over_some, hp_over_none]
  exact hK _ _ ⟨M5, (by omega), rfl, rfl⟩
 rintro a σ ⟨M5, fM5_0, rfl, rfl⟩
 refine AWP_cond (ieq r7.1 0) rfl (fun C5 => ?_) (fun C5 => ?_)
 ·
  replace H := ifT C5 H
  refine AWP_rt tok [] [0, 2, 3] (fun a σ => a = [(0, .ptr w0 r0_ 0), (2, .ptr N0 0 0), (3, .ptr (N0 + 3) 0 0)] ∧ σ = hp E0 [(w0, some ⟨138, 2, W0.set r0_ [.fsl (encL rI_u8 r7.2.b), .int .i64 r7.2.p]⟩), (N0, some ⟨40, 5, [[.int .i64 0, .int .i64 0, .int .i64 0, .int .i64 0, .int .i64 0]]⟩), (N0 + 3, some ⟨40, 5, [[.int .i64 10, .int .i64 0, .int .i64 0, .int .i64 0, .int .i64 0]]⟩)] (M5 + 2)) (fun K hK => ?_) ?_
  ·
   skip
   have e0 : ¬ w0 = N0 := by omega
   have e1 : ¬ N0 = w0 := by omega
   have e2 : ¬ w0 = N0 + 3 := by omega
   have e3 : ¬ N0 + 3 = w0 := by omega
   simp -dsimp -implicitDefEqProofs (maxDischargeDepth := 6) [e0, e1, e2, e3, gs_W0, List.set_set]
   exact hK _ _ ⟨rfl, rfl⟩
  rintro a σ ⟨ha, rfl⟩
  replace H := Option.some.inj H; subst H
  refine hJ1 _ _ ?_; rw [ha]
  exact Rc.fin (AHeap.Sub.refl _) ⟨M5 + 2, (by omega), (by omega), (by omega), rfl, rfl⟩
 ·
  replace H := ifF C5 H
  refine AWP_skip ?_
  show K2 _ _
  refine keepE (l := [0, 2, 3]) (x := [(0, .ptr w0 r0_ 0), (2, .ptr N0 0 0), (3, .ptr (N0 + 3) 0 0)]) rfl fun a' ha => ?_
  replace H := Option.some.inj H; subst H
  refine hJ1 _ _ ?_; rw [ha]
  exact Rc.fin (AHeap.Sub.refl _) ⟨M5, (by omega), (by omega), (by omega), rfl, rfl⟩
end Go.Proofs.YtoklfbdcghgmlaaDoor
