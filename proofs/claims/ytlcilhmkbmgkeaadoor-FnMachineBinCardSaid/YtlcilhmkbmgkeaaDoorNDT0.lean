/- The contracts of functions of the program, part 0: each computes what its mirror computes. No conditions. -/
import Derived.Test.YtlcilhmkbmgkeaaDoorNDH
import Derived.Test.YtlcilhmkbmgkeaaDoorNDM
set_option linter.unusedSimpArgs false
set_option linter.unusedVariables false
set_option maxRecDepth 20000
set_option maxHeartbeats 4000000
namespace Go.Proofs.YtlcilhmkbmgkeaaDoor
open Go Go.Abs Go.RowKit

theorem c43_o {p0 : (List Int)} {r : gL6Rd} (H : s_l6Open_o p0 = some r) {σ : AHeap} : ACalls Tryd.prog G 43 [.fsl (encL rI_u8 p0)] σ (fun v σ' => ∃ M n0 : Nat, σ.next ≤ M ∧ σ.next ≤ n0 ∧ n0 < M ∧ v = .ptr n0 0 0 ∧ σ' = hp σ.objs [(n0, some ⟨96, 2, [[.fsl (encL rI_u8 r.b), .int .i64 r.p]]⟩)] M) := by
 refine ACalls_fr (L := []) (Q1 := fun v σ' => ∃ M n0 : Nat, σ.next ≤ M ∧ σ.next ≤ n0 ∧ n0 < M ∧ v = .ptr n0 0 0 ∧ σ' = hp E0 [(n0, some ⟨96, 2, [[.fsl (encL rI_u8 r.b), .int .i64 r.p]]⟩)] M) (by simp []) (fun hlt => ?_) ?_ ⟨_, Tryd.func43, rfl, rfl⟩
 rotate_left
 ·
  rintro v σ1 ⟨M, n0, h0, h1, h2, rfl, rfl⟩
  exact ⟨_, M, rfl, by simp, by simp; try omega, M, n0, h0, h1, h2, rfl, rfl⟩
 generalize σ.next = N0 at hlt ⊢
 refine ACalls_fn tok Tryd.func43 (by kernel_rfl) rfl Tryd.ntmps43 Tryd.results43 rfl ?_
 simp only [argsA, Nat.reduceAdd, hp_next]
 unfold s_l6Open_o at H
 refine S0 tok [] [0] ?_
 refine AWP_sq [0] fun K1 hK1 => ?_
 refine S0 tok [] [0, 5] ?_
 refine AWP_cond (igt (ilen p0) 2000) rfl (fun C1 => ?_) (fun C1 => ?_)
 ·
  replace H := ifT C1 H
  obtain ⟨l1, hl1, H⟩ := bindE H
  refine AWP_rt tok [] [0] (fun a σ => a = [(0, .fsl (encL rI_u8 l1))] ∧ σ = hp E0 [] (N0 + 7)) (fun K hK => ?_) ?_
  ·
   simp -dsimp -implicitDefEqProofs (maxDischargeDepth := 6) [cuth_41 hl1]
   exact hK _ _ ⟨rfl, rfl⟩
  rintro a σ ⟨ha, rfl⟩
  refine hK1 _ _ ?_; rw [ha]
  refine Rc.mk ?_
  refine S0 tok [] [2] ?_
  replace H := oi H; subst H
  refine Kp [2] ?_
  refine AWP_ret ?_
  refine ⟨[.ptr (N0 + 9) 0 0], by simp, N0 + 11, N0 + 9, by omega, by omega, by omega, ?_, ?_⟩
  ·
   simp [encL_nil]
  ·
   first | rfl | simp [List.set_set]
 ·
  replace H := ifF C1 H
  refine AWP_skip (Jn hK1 ?_)
  refine S0 tok [] [2] ?_
  replace H := oi H; subst H
  refine Kp [2] ?_
  refine AWP_ret ?_
  refine ⟨[.ptr (N0 + 6) 0 0], by simp, N0 + 8, N0 + 6, by omega, by omega, by omega, ?_, ?_⟩
  ·
   simp [encL_nil]
  ·
   first | rfl | simp [List.set_set]
theorem c45 {p0 : gL6Rd} {p1 : Int} {r : Int × gL6Rd} (H : s_l6Rd_pick p0 p1 = some r) {σ : AHeap} {w0 : Nat} {W0 : List (List AV)} {r0_ : Nat} (q0 : σ.objs w0 = some ⟨96, 2, W0⟩) (g0 : W0[r0_]? = some [.fsl (encL rI_u8 p0.b), .int .i64 p0.p]) : ACalls Tryd.prog G 45 [.ptr w0 r0_ 0, .int .i64 p1] σ (fun v σ' => ∃ M : Nat, σ.next ≤ M ∧ v = .int .i64 r.1 ∧ σ' = hp σ.objs [(w0, some ⟨96, 2, W0.set r0_ [.fsl (encL rI_u8 r.2.b), .int .i64 r.2.p]⟩)] M) := by
 refine ACalls_fr (L := [(w0, some ⟨96, 2, W0⟩)]) (Q1 := fun v σ' => ∃ M : Nat, σ.next ≤ M ∧ v = .int .i64 r.1 ∧ σ' = hp E0 [(w0, some ⟨96, 2, W0.set r0_ [.fsl (encL rI_u8 r.2.b), .int .i64 r.2.p]⟩)] M) (by simp [q0]) (fun hlt => ?_) ?_ ⟨_, Tryd.func45, rfl, rfl⟩
 rotate_left
 ·
  rintro v σ1 ⟨M, h0, rfl, rfl⟩
  exact ⟨_, M, rfl, by simp, by simp; try omega, M, h0, rfl, rfl⟩
 generalize σ.next = N0 at hlt ⊢
 have lw0 : w0 < N0 := hlt _ (.head _) rfl
 have gs_W0 : ∀ x, (W0.set r0_ x)[r0_]? = some x := gsetW g0
 rw [show W0 = W0.set r0_ [.fsl (encL rI_u8 p0.b), .int .i64 p0.p] from (set_same g0).symm]
 refine ACalls_fn tok Tryd.func45 (by kernel_rfl) rfl Tryd.ntmps45 Tryd.results45 rfl ?_
 simp only [argsA, Nat.reduceAdd, hp_next]
 unfold s_l6Rd_pick at H
 refine Sx tok [] [0, 1] (by intro K k; simp -dsimp -implicitDefEqProofs (maxDischargeDepth := 6) [gs_W0, List.set_set]; exact k) ?_
 refine Sx tok [] [0, 1] (by intro K k; simp -dsimp -implicitDefEqProofs (maxDischargeDepth := 6) [gs_W0, List.set_set]; exact k) ?_
 refine AWP_sq [0, 1] fun K1 hK1 => ?_
 obtain ⟨g1, hg1, H⟩ := bindE H
 refine AWP_sr tok [] [0, 1, 24] (fun a σ => a = [(0, .ptr w0 r0_ 0), (1, .int .i64 p1), (24, .bool g1)] ∧ σ = hp E0 [(w0, some ⟨96, 2, W0.set r0_ [.fsl (encL rI_u8 p0.b), .int .i64 (iadd .i64 p0.p 1)]⟩)] (N0 + 20)) (fun K hK => ?_) ?_
 ·
  simp -dsimp -implicitDefEqProofs (maxDischargeDepth := 6) [gs_W0, List.set_set]
  cases hbg1 : ilt p1 1
  ·
   replace hg1 := ifF hbg1 hg1
   replace hg1 := oi hg1; subst hg1
   try simp -dsimp -implicitDefEqProofs (maxDischargeDepth := 6) [gs_W0, List.set_set, hbg1]
   exact hK _ _ ⟨rfl, rfl⟩
  ·
   replace hg1 := ifT hbg1 hg1
   replace hg1 := oi hg1; subst hg1
   try simp -dsimp -implicitDefEqProofs (maxDischargeDepth := 6) [gs_W0, List.set_set, hbg1]
   exact hK _ _ ⟨rfl, rfl⟩
 rintro a σ ⟨rfl, rfl⟩
 refine AWP_cond g1 rfl (fun C1 => ?_) (fun C1 => ?_)
 ·
  replace H := ifT C1 H
  refine Sx tok [] [4] (by intro K k; simp -dsimp -implicitDefEqProofs (maxDischargeDepth := 6) [gs_W0, List.set_set]; exact k) ?_
  replace H := oi H; subst H
  refine Kp [4] ?_
  refine AWP_ret ?_
  refine ⟨[.int .i64 0], by simp [gs_W0], N0 + 21, by omega, ?_, ?_⟩
  ·
   simp [encL_nil]
  ·
   first | rfl | simp [List.set_set]
 ·
  replace H := ifF C1 H
  refine AWP_skip (Jn hK1 ?_)
  refine Sx tok [] [0, 1, 5] (by intro K k; simp -dsimp -implicitDefEqProofs (maxDischargeDepth := 6) [gs_W0, List.set_set]; exact k) ?_
  refine AWP_sq [0, 1, 5] fun K2 hK2 => ?_
  refine Sx tok [] [0, 1, 5, 36] (by intro K k; simp -dsimp -implicitDefEqProofs (maxDischargeDepth := 6) [gs_W0, List.set_set]; exact k) ?_
  refine AWP_cond (ilt (isub .i64 (iadd .i64 p0.p 1) 1) (ilen p0.b)) rfl (fun C2 => ?_) (fun C2 => ?_)
  ·
   replace H := ifT C2 H
   obtain ⟨v2, hv2, H⟩ := bindE H
   obtain ⟨v3, hv3, H⟩ := bindE H
   refine Sx tok [] [4] (by intro K k; simp -dsimp -implicitDefEqProofs (maxDischargeDepth := 6) [gs_W0, List.set_set, ix41 hv2, hv3]; exact k) ?_
   replace H := oi H; subst H
   refine Kp [4] ?_
   refine AWP_ret ?_
   refine ⟨[.int .i64 v3], by simp [gs_W0], N0 + 44, by omega, ?_, ?_⟩
   ·
    simp [encL_nil]
   ·
    first | rfl | simp [List.set_set]
  ·
   replace H := ifF C2 H
   refine AWP_skip (Jn hK2 ?_)
   obtain ⟨v4, hv4, H⟩ := bindE H
   obtain ⟨v5, hv5, H⟩ := bindE H
   obtain ⟨v6, hv6, H⟩ := bindE H
   obtain ⟨v7, hv7, H⟩ := bindE H
   obtain ⟨v8, hv8, H⟩ := bindE H
   refine Sd tok tokM [] [3, 8, 9, 10, 18, 25, 26, 27, 28, 29, 30, 31, 40, 41, 42, 43] [0, 1, 2, 4, 5, 6, 7, 15, 16, 17, 19, 20, 21, 22, 23, 24, 33, 34, 36, 37, 38, 39, 3, 8, 9, 10, 11, 12, 13, 14, 18, 25, 26, 27, 28, 29, 30, 31, 32, 35, 40, 41, 42, 43, 44, 45] [1, 6] (by
    intro K k
    simp only [pickL, nthO_succ, nthO_zero]
    simp -dsimp -implicitDefEqProofs (maxDischargeDepth := 6) [gs_W0, List.set_set, hv4, ix41 hv5, hv6, ix41 hv7, hv8]
    exact k) ?_
   obtain ⟨v9, hv9, H⟩ := bindE H
   refine Sx tok [] [1, 6] (by intro K k; simp -dsimp -implicitDefEqProofs (maxDischargeDepth := 6) [gs_W0, List.set_set, hv9]; exact k) ?_
   obtain ⟨v10, hv10, H⟩ := bindE H
   refine Sx tok [] [4] (by intro K k; simp -dsimp -implicitDefEqProofs (maxDischargeDepth := 6) [gs_W0, List.set_set, hv10]; exact k) ?_
   replace H := oi H; subst H
   refine Kp [4] ?_
   refine AWP_ret ?_
   refine ⟨[.int .i64 v10], by simp [gs_W0], N0 + 88, by omega, ?_, ?_⟩
   ·
    simp [encL_nil]
   ·
    first | rfl | simp [List.set_set]
theorem c102 {p0 : gL6Rd} {r : Int × gL6Rd} (H : s_l93Reg p0 = some r) {σ : AHeap} {w0 : Nat} {W0 : List (List AV)} {r0_ : Nat} (q0 : σ.objs w0 = some ⟨96, 2, W0⟩) (g0 : W0[r0_]? = some [.fsl (encL rI_u8 p0.b), .int .i64 p0.p]) : ACalls Tryd.prog G 102 [.ptr w0 r0_ 0] σ (fun v σ' => ∃ M : Nat, σ.next ≤ M ∧ v = .int .i64 r.1 ∧ σ' = hp σ.objs [(w0, some ⟨96, 2, W0.set r0_ [.fsl (encL rI_u8 r.2.b), .int .i64 r.2.p]⟩)] M) := by
 refine ACalls_fr (L := [(w0, some ⟨96, 2, W0⟩)]) (Q1 := fun v σ' => ∃ M : Nat, σ.next ≤ M ∧ v = .int .i64 r.1 ∧ σ' = hp E0 [(w0, some ⟨96, 2, W0.set r0_ [.fsl (encL rI_u8 r.2.b), .int .i64 r.2.p]⟩)] M) (by simp [q0]) (fun hlt => ?_) ?_ ⟨_, Tryd.func102, rfl, rfl⟩
 rotate_left
 ·
  rintro v σ1 ⟨M, h0, rfl, rfl⟩
  exact ⟨_, M, rfl, by simp, by simp; try omega, M, h0, rfl, rfl⟩
 generalize σ.next = N0 at hlt ⊢
 have lw0 : w0 < N0 := hlt _ (.head _) rfl
 have gs_W0 : ∀ x, (W0.set r0_ x)[r0_]? = some x := gsetW g0
 rw [show W0 = W0.set r0_ [.fsl (encL rI_u8 p0.b), .int .i64 p0.p] from (set_same g0).symm]
 refine ACalls_fn tok Tryd.func102 (by kernel_rfl) rfl Tryd.ntmps102 Tryd.results102 rfl ?_
 simp only [argsA, Nat.reduceAdd, hp_next]
 unfold s_l93Reg at H
 refine Sx tok [] [0] (by intro K k; simp -dsimp -implicitDefEqProofs (maxDischargeDepth := 6) [gs_W0, List.set_set]; exact k) ?_
 obtain ⟨r1, hr1, H⟩ := bindE H
 refine AWP_sr tok [] [2] (fun a σ => ∃ M1 : Nat, N0 + 4 ≤ M1 ∧ a = [(2, .int .i64 r1.1)] ∧ σ = hp E0 [(w0, some ⟨96, 2, W0.set r0_ [.fsl (encL rI_u8 r1.2.b), .int .i64 r1.2.p]⟩)] M1) (fun K hK => ?_) ?_
 ·
  simp -dsimp -implicitDefEqProofs (maxDischargeDepth := 6) [gs_W0, List.set_set]
  refine (c45 (W0 := W0.set r0_ [.fsl (encL rI_u8 p0.b), .int .i64 p0.p]) (r0_ := r0_) (H := hr1) (by simp [gs_W0, List.set_set]) (by simp [gs_W0, List.set_set])).mono ?_; rintro _ _ ⟨M1, fM1_0, rfl, rfl⟩; simp only [hp_next] at fM1_0
  try simp -dsimp -implicitDefEqProofs (maxDischargeDepth := 6) [gs_W0, List.set_set, hp_over_some, hp_over_none]
  exact hK _ _ ⟨M1, (by omega), rfl, rfl⟩
 rintro a σ ⟨M1, fM1_0, rfl, rfl⟩
 replace H := oi H; subst H
 refine Kp [2] ?_
 refine AWP_ret ?_
 refine ⟨[.int .i64 r1.1], by simp [gs_W0], M1, by omega, ?_, ?_⟩
 ·
  simp [encL_nil]
 ·
  first | rfl | simp [List.set_set]
theorem c101 {p0 : Int} {r : Int} (H : s_Wrap p0 = some r) : APure Tryd.prog G 101 [.int .i64 p0] (.int .i64 r) := by
 refine APure_fn (fun N0 => ?_) (by simp)
 refine ACalls_fn tok Tryd.func101 (by kernel_rfl) rfl Tryd.ntmps101 Tryd.results101 rfl ?_
 simp only [argsA, Nat.reduceAdd, hp_next]
 unfold s_Wrap at H
 refine S0 tok [] [0] ?_
 obtain ⟨v1, hv1, H⟩ := bindE H
 refine Sx tok [] [3] (by intro K k; simp -dsimp -implicitDefEqProofs (maxDischargeDepth := 6) [hv1]; exact k) ?_
 refine AWP_sq [3] fun K1 hK1 => ?_
 refine S0 tok [] [3, 7] ?_
 refine AWP_cond (igt v1 2147483647) rfl (fun C1 => ?_) (fun C1 => ?_)
 ·
  replace H := ifT C1 H
  refine S0 tok [] [2] ?_
  replace H := oi H; subst H; exact AWP_ret ⟨_, rfl, 4, by simp [encL_nil]⟩
 ·
  replace H := ifF C1 H
  refine AWP_skip (Jn hK1 ?_)
  refine AWP_sq [3] fun K2 hK2 => ?_
  refine S0 tok [] [3, 11] ?_
  refine AWP_cond (ilt v1 (-2147483648)) rfl (fun C2 => ?_) (fun C2 => ?_)
  ·
   replace H := ifT C2 H
   refine S0 tok [] [2] ?_
   replace H := oi H; subst H; exact AWP_ret ⟨_, rfl, 4, by simp [encL_nil]⟩
  ·
   replace H := ifF C2 H
   refine AWP_skip (Jn hK2 ?_)
   refine S0 tok [] [2] ?_
   replace H := oi H; subst H; exact AWP_ret ⟨_, rfl, 4, by simp [encL_nil]⟩
theorem c103 {p0 : gL6Rd} {r : Int × gL6Rd} (H : s_l91Word p0 = some r) {σ : AHeap} {w0 : Nat} {W0 : List (List AV)} {r0_ : Nat} (q0 : σ.objs w0 = some ⟨96, 2, W0⟩) (g0 : W0[r0_]? = some [.fsl (encL rI_u8 p0.b), .int .i64 p0.p]) : ACalls Tryd.prog G 103 [.ptr w0 r0_ 0] σ (fun v σ' => ∃ M : Nat, σ.next ≤ M ∧ v = .int .i64 r.1 ∧ σ' = hp σ.objs [(w0, some ⟨96, 2, W0.set r0_ [.fsl (encL rI_u8 r.2.b), .int .i64 r.2.p]⟩)] M) := by
 refine ACalls_fr (L := [(w0, some ⟨96, 2, W0⟩)]) (Q1 := fun v σ' => ∃ M : Nat, σ.next ≤ M ∧ v = .int .i64 r.1 ∧ σ' = hp E0 [(w0, some ⟨96, 2, W0.set r0_ [.fsl (encL rI_u8 r.2.b), .int .i64 r.2.p]⟩)] M) (by simp [q0]) (fun hlt => ?_) ?_ ⟨_, Tryd.func103, rfl, rfl⟩
 rotate_left
 ·
  rintro v σ1 ⟨M, h0, rfl, rfl⟩
  exact ⟨_, M, rfl, by simp, by simp; try omega, M, h0, rfl, rfl⟩
 generalize σ.next = N0 at hlt ⊢
 have lw0 : w0 < N0 := hlt _ (.head _) rfl
 have gs_W0 : ∀ x, (W0.set r0_ x)[r0_]? = some x := gsetW g0
 rw [show W0 = W0.set r0_ [.fsl (encL rI_u8 p0.b), .int .i64 p0.p] from (set_same g0).symm]
 refine ACalls_fn tok Tryd.func103 (by kernel_rfl) rfl Tryd.ntmps103 Tryd.results103 rfl ?_
 simp only [argsA, Nat.reduceAdd, hp_next]
 unfold s_l91Word at H
 refine Sx tok [] [0] (by intro K k; simp -dsimp -implicitDefEqProofs (maxDischargeDepth := 6) [gs_W0, List.set_set]; exact k) ?_
 refine AWP_sq [0] fun K1 hK1 => ?_
 obtain ⟨r1, hr1, H⟩ := bindE H
 refine AWP_sr tok [] [0, 4] (fun a σ => ∃ M1 : Nat, N0 + 3 ≤ M1 ∧ a = [(0, .ptr w0 r0_ 0), (4, .int .i64 r1.1)] ∧ σ = hp E0 [(w0, some ⟨96, 2, W0.set r0_ [.fsl (encL rI_u8 r1.2.b), .int .i64 r1.2.p]⟩)] M1) (fun K hK => ?_) ?_
 ·
  simp -dsimp -implicitDefEqProofs (maxDischargeDepth := 6) [gs_W0, List.set_set]
  refine (c45 (W0 := W0.set r0_ [.fsl (encL rI_u8 p0.b), .int .i64 p0.p]) (r0_ := r0_) (H := hr1) (by simp [gs_W0, List.set_set]) (by simp [gs_W0, List.set_set])).mono ?_; rintro _ _ ⟨M1, fM1_0, rfl, rfl⟩; simp only [hp_next] at fM1_0
  try simp -dsimp -implicitDefEqProofs (maxDischargeDepth := 6) [gs_W0, List.set_set, hp_over_some, hp_over_none]
  exact hK _ _ ⟨M1, (by omega), rfl, rfl⟩
 rintro a σ ⟨M1, fM1_0, rfl, rfl⟩
 refine AWP_block (AWP_thenB ?_)
 refine Sx tok [] [0, 4, 5] (by intro K k; simp -dsimp -implicitDefEqProofs (maxDischargeDepth := 6) [gs_W0, List.set_set]; exact k) ?_
 refine AWP_cond (ieq r1.1 0) rfl (fun C1 => ?_) (fun C1 => ?_)
 ·
  replace H := ifT C1 H
  obtain ⟨r2, hr2, H⟩ := bindE H
  obtain ⟨v3, hv3, H⟩ := bindE H
  have q0 : ∀ σ i, buildSliceA T 22 true i 8 [(0, .int .i64 (-2147483648)), (1, .int .i64 2147483647), (2, .int .i64 (-1)), (3, .int .i64 0), (4, .int .i64 1), (5, .int .i64 (-2147483647)), (6, .int .i64 65536), (7, .int .i64 (-65536))] σ = some (.fsl (encL rI ([-2147483648, 2147483647, -1, 0, 1, -2147483647, 65536, -65536] : List Int)), σ) := fun _ _ => rfl
  refine AWP_sr tok [0] [2] (fun a σ => ∃ M2 : Nat, M1 + 8 ≤ M2 ∧ a = [(2, .int .i64 v3)] ∧ σ = hp E0 [(w0, some ⟨96, 2, W0.set r0_ [.fsl (encL rI_u8 r2.2.b), .int .i64 r2.2.p]⟩)] M2) (fun K hK => ?_) ?_
  ·
   simp -dsimp -implicitDefEqProofs (maxDischargeDepth := 6) [gs_W0, List.set_set, q0, ix22 hv3]
   refine (c45 (W0 := W0.set r0_ [.fsl (encL rI_u8 r1.2.b), .int .i64 r1.2.p]) (r0_ := r0_) (H := hr2) (by simp [gs_W0, List.set_set, q0, ix22 hv3]) (by simp [gs_W0, List.set_set, q0, ix22 hv3])).mono ?_; rintro _ _ ⟨M2, fM2_0, rfl, rfl⟩; simp only [hp_next] at fM2_0
   try simp -dsimp -implicitDefEqProofs (maxDischargeDepth := 6) [gs_W0, List.set_set, q0, ix22 hv3, hp_over_some, hp_over_none]
   exact hK _ _ ⟨M2, (by omega), rfl, rfl⟩
  rintro a σ ⟨M2, fM2_0, rfl, rfl⟩
  replace H := oi H; subst H
  refine Kp [2] ?_
  refine AWP_ret ?_
  refine ⟨[.int .i64 v3], by simp [gs_W0], M2, by omega, ?_, ?_⟩
  ·
   simp [encL_nil]
  ·
   first | rfl | simp [List.set_set]
 ·
  replace H := ifF C1 H
  refine Sx tok [] [0, 4, 12] (by intro K k; simp -dsimp -implicitDefEqProofs (maxDischargeDepth := 6) [gs_W0, List.set_set]; exact k) ?_
  refine AWP_cond (ieq r1.1 1) rfl (fun C2 => ?_) (fun C2 => ?_)
  ·
   replace H := ifT C2 H
   obtain ⟨r4, hr4, H⟩ := bindE H
   obtain ⟨r5, hr5, H⟩ := bindE H
   obtain ⟨r6, hr6, H⟩ := bindE H
   obtain ⟨r7, hr7, H⟩ := bindE H
   obtain ⟨r8, hr8, H⟩ := bindE H
   refine AWP_sr tok [] [2] (fun a σ => ∃ M3 : Nat, ∃ M4 : Nat, ∃ M5 : Nat, ∃ M6 : Nat, M1 + 20 ≤ M3 ∧ M3 ≤ M4 ∧ M4 ≤ M5 ∧ M5 ≤ M6 ∧ a = [(2, .int .i64 r8)] ∧ σ = hp E0 [(w0, some ⟨96, 2, W0.set r0_ [.fsl (encL rI_u8 r7.2.b), .int .i64 r7.2.p]⟩)] M6) (fun K hK => ?_) ?_
   ·
    simp -dsimp -implicitDefEqProofs (maxDischargeDepth := 6) [gs_W0, List.set_set]
    refine (c45 (W0 := W0.set r0_ [.fsl (encL rI_u8 r1.2.b), .int .i64 r1.2.p]) (r0_ := r0_) (H := hr4) (by simp [gs_W0, List.set_set]) (by simp [gs_W0, List.set_set])).mono ?_; rintro _ _ ⟨M3, fM3_0, rfl, rfl⟩; simp only [hp_next] at fM3_0
    try simp -dsimp -implicitDefEqProofs (maxDischargeDepth := 6) [gs_W0, List.set_set, hp_over_some, hp_over_none]
    refine (c45 (W0 := W0.set r0_ [.fsl (encL rI_u8 r4.2.b), .int .i64 r4.2.p]) (r0_ := r0_) (H := hr5) (by simp [gs_W0, List.set_set, hp_over_some, hp_over_none]) (by simp [gs_W0, List.set_set, hp_over_some, hp_over_none])).mono ?_; rintro _ _ ⟨M4, fM4_0, rfl, rfl⟩; simp only [hp_next] at fM4_0
    try simp -dsimp -implicitDefEqProofs (maxDischargeDepth := 6) [gs_W0, List.set_set, hp_over_some, hp_over_none, hp_over_some, hp_over_none]
    refine (c45 (W0 := W0.set r0_ [.fsl (encL rI_u8 r5.2.b), .int .i64 r5.2.p]) (r0_ := r0_) (H := hr6) (by simp [gs_W0, List.set_set, hp_over_some, hp_over_none, hp_over_some, hp_over_none]) (by simp [gs_W0, List.set_set, hp_over_some, hp_over_none, hp_over_some, hp_over_none])).mono ?_; rintro _ _ ⟨M5, fM5_0, rfl, rfl⟩; simp only [hp_next] at fM5_0
    try simp -dsimp -implicitDefEqProofs (maxDischargeDepth := 6) [gs_W0, List.set_set, hp_over_some, hp_over_none, hp_over_some, hp_over_none, hp_over_some, hp_over_none]
    refine (c45 (W0 := W0.set r0_ [.fsl (encL rI_u8 r6.2.b), .int .i64 r6.2.p]) (r0_ := r0_) (H := hr7) (by simp [gs_W0, List.set_set, hp_over_some, hp_over_none, hp_over_some, hp_over_none, hp_over_some, hp_over_none]) (by simp [gs_W0, List.set_set, hp_over_some, hp_over_none, hp_over_some, hp_over_none, hp_over_some, hp_over_none])).mono ?_; rintro _ _ ⟨M6, fM6_0, rfl, rfl⟩; simp only [hp_next] at fM6_0
    try simp -dsimp -implicitDefEqProofs (maxDischargeDepth := 6) [gs_W0, List.set_set, hp_over_some, hp_over_none, hp_over_some, hp_over_none, hp_over_some, hp_over_none, hp_over_some, hp_over_none]
    refine (c101 hr8).app ?_; try simp -dsimp -implicitDefEqProofs (maxDischargeDepth := 6) [gs_W0, List.set_set, hp_over_some, hp_over_none, hp_over_some, hp_over_none, hp_over_some, hp_over_none, hp_over_some, hp_over_none]
    exact hK _ _ ⟨M3, M4, M5, M6, (by omega), (by omega), (by omega), (by omega), rfl, rfl⟩
   rintro a σ ⟨M3, M4, M5, M6, fM3_0, fM4_0, fM5_0, fM6_0, rfl, rfl⟩
   replace H := oi H; subst H
   refine Kp [2] ?_
   refine AWP_ret ?_
   refine ⟨[.int .i64 r8], by simp [gs_W0], M6, by omega, ?_, ?_⟩
   ·
    simp [encL_nil]
   ·
    first | rfl | simp [List.set_set]
  ·
   replace H := ifF C2 H
   refine Sx tok [] [0, 29] (by intro K k; simp -dsimp -implicitDefEqProofs (maxDischargeDepth := 6) [gs_W0, List.set_set]; exact k) ?_
   refine AWP_cond (ieq r1.1 2) rfl (fun C3 => ?_) (fun C3 => ?_)
   ·
    replace H := ifT C3 H
    obtain ⟨r9, hr9, H⟩ := bindE H
    refine AWP_sr tok [] [2] (fun a σ => ∃ M7 : Nat, M1 + 10 ≤ M7 ∧ a = [(2, .int .i64 (isub .i64 0 r9.1))] ∧ σ = hp E0 [(w0, some ⟨96, 2, W0.set r0_ [.fsl (encL rI_u8 r9.2.b), .int .i64 r9.2.p]⟩)] M7) (fun K hK => ?_) ?_
    ·
     simp -dsimp -implicitDefEqProofs (maxDischargeDepth := 6) [gs_W0, List.set_set]
     refine (c45 (W0 := W0.set r0_ [.fsl (encL rI_u8 r1.2.b), .int .i64 r1.2.p]) (r0_ := r0_) (H := hr9) (by simp [gs_W0, List.set_set]) (by simp [gs_W0, List.set_set])).mono ?_; rintro _ _ ⟨M7, fM7_0, rfl, rfl⟩; simp only [hp_next] at fM7_0
     try simp -dsimp -implicitDefEqProofs (maxDischargeDepth := 6) [gs_W0, List.set_set, hp_over_some, hp_over_none]
     exact hK _ _ ⟨M7, (by omega), rfl, rfl⟩
    rintro a σ ⟨M7, fM7_0, rfl, rfl⟩
    replace H := oi H; subst H
    refine Kp [2] ?_
    refine AWP_ret ?_
    refine ⟨[.int .i64 (isub .i64 0 r9.1)], by simp [gs_W0], M7, by omega, ?_, ?_⟩
    ·
     simp [encL_nil]
    ·
     first | rfl | simp [List.set_set]
   ·
    replace H := ifF C3 H
    refine AWP_skip (Jn hK1 ?_)
    obtain ⟨r10, hr10, H⟩ := bindE H
    refine AWP_sr tok [] [2] (fun a σ => ∃ M8 : Nat, M1 + 9 ≤ M8 ∧ a = [(2, .int .i64 r10.1)] ∧ σ = hp E0 [(w0, some ⟨96, 2, W0.set r0_ [.fsl (encL rI_u8 r10.2.b), .int .i64 r10.2.p]⟩)] M8) (fun K hK => ?_) ?_
    ·
     simp -dsimp -implicitDefEqProofs (maxDischargeDepth := 6) [gs_W0, List.set_set]
     refine (c45 (W0 := W0.set r0_ [.fsl (encL rI_u8 r1.2.b), .int .i64 r1.2.p]) (r0_ := r0_) (H := hr10) (by simp [gs_W0, List.set_set]) (by simp [gs_W0, List.set_set])).mono ?_; rintro _ _ ⟨M8, fM8_0, rfl, rfl⟩; simp only [hp_next] at fM8_0
     try simp -dsimp -implicitDefEqProofs (maxDischargeDepth := 6) [gs_W0, List.set_set, hp_over_some, hp_over_none]
     exact hK _ _ ⟨M8, (by omega), rfl, rfl⟩
    rintro a σ ⟨M8, fM8_0, rfl, rfl⟩
    replace H := oi H; subst H
    refine Kp [2] ?_
    refine AWP_ret ?_
    refine ⟨[.int .i64 r10.1], by simp [gs_W0], M8, by omega, ?_, ?_⟩
    ·
     simp [encL_nil]
    ·
     first | rfl | simp [List.set_set]
theorem c104 {p0 : gL6Rd} {r : Int × gL6Rd} (H : s_l91Op p0 = some r) {σ : AHeap} {w0 : Nat} {W0 : List (List AV)} {r0_ : Nat} (q0 : σ.objs w0 = some ⟨96, 2, W0⟩) (g0 : W0[r0_]? = some [.fsl (encL rI_u8 p0.b), .int .i64 p0.p]) : ACalls Tryd.prog G 104 [.ptr w0 r0_ 0] σ (fun v σ' => ∃ M : Nat, σ.next ≤ M ∧ v = .int .i64 r.1 ∧ σ' = hp σ.objs [(w0, some ⟨96, 2, W0.set r0_ [.fsl (encL rI_u8 r.2.b), .int .i64 r.2.p]⟩)] M) := by
 refine ACalls_fr (L := [(w0, some ⟨96, 2, W0⟩)]) (Q1 := fun v σ' => ∃ M : Nat, σ.next ≤ M ∧ v = .int .i64 r.1 ∧ σ' = hp E0 [(w0, some ⟨96, 2, W0.set r0_ [.fsl (encL rI_u8 r.2.b), .int .i64 r.2.p]⟩)] M) (by simp [q0]) (fun hlt => ?_) ?_ ⟨_, Tryd.func104, rfl, rfl⟩
 rotate_left
 ·
  rintro v σ1 ⟨M, h0, rfl, rfl⟩
  exact ⟨_, M, rfl, by simp, by simp; try omega, M, h0, rfl, rfl⟩
 generalize σ.next = N0 at hlt ⊢
 have lw0 : w0 < N0 := hlt _ (.head _) rfl
 have gs_W0 : ∀ x, (W0.set r0_ x)[r0_]? = some x := gsetW g0
 rw [show W0 = W0.set r0_ [.fsl (encL rI_u8 p0.b), .int .i64 p0.p] from (set_same g0).symm]
 refine ACalls_fn tok Tryd.func104 (by kernel_rfl) rfl Tryd.ntmps104 Tryd.results104 rfl ?_
 simp only [argsA, Nat.reduceAdd, hp_next]
 unfold s_l91Op at H
 refine Sx tok [] [0] (by intro K k; simp -dsimp -implicitDefEqProofs (maxDischargeDepth := 6) [gs_W0, List.set_set]; exact k) ?_
 obtain ⟨r1, hr1, H⟩ := bindE H
 refine AWP_sr tok [] [2] (fun a σ => ∃ M1 : Nat, N0 + 5 ≤ M1 ∧ a = [(2, .int .i64 (iadd .i64 1 r1.1))] ∧ σ = hp E0 [(w0, some ⟨96, 2, W0.set r0_ [.fsl (encL rI_u8 r1.2.b), .int .i64 r1.2.p]⟩)] M1) (fun K hK => ?_) ?_
 ·
  simp -dsimp -implicitDefEqProofs (maxDischargeDepth := 6) [gs_W0, List.set_set]
  refine (c45 (W0 := W0.set r0_ [.fsl (encL rI_u8 p0.b), .int .i64 p0.p]) (r0_ := r0_) (H := hr1) (by simp [gs_W0, List.set_set]) (by simp [gs_W0, List.set_set])).mono ?_; rintro _ _ ⟨M1, fM1_0, rfl, rfl⟩; simp only [hp_next] at fM1_0
  try simp -dsimp -implicitDefEqProofs (maxDischargeDepth := 6) [gs_W0, List.set_set, hp_over_some, hp_over_none]
  exact hK _ _ ⟨M1, (by omega), rfl, rfl⟩
 rintro a σ ⟨M1, fM1_0, rfl, rfl⟩
 replace H := oi H; subst H
 refine Kp [2] ?_
 refine AWP_ret ?_
 refine ⟨[.int .i64 (iadd .i64 1 r1.1)], by simp [gs_W0], M1, by omega, ?_, ?_⟩
 ·
  simp [encL_nil]
 ·
  first | rfl | simp [List.set_set]
theorem c63 {p0 : gL6Rd} {p1 : Int} {r : gQuad × gL6Rd} (H : s_l93Quad p0 p1 = some r) {σ : AHeap} {w0 : Nat} {W0 : List (List AV)} {r0_ : Nat} (q0 : σ.objs w0 = some ⟨96, 2, W0⟩) (g0 : W0[r0_]? = some [.fsl (encL rI_u8 p0.b), .int .i64 p0.p]) : ACalls Tryd.prog G 63 [.ptr w0 r0_ 0, .int .i64 p1] σ (fun v σ' => ∃ M : Nat, σ.next ≤ M ∧ v = .agg [.int .i64 r.1.Op, .int .i64 r.1.Dst, .int .i64 r.1.A, .int .i64 r.1.B, .int .i64 r.1.N] ∧ σ' = hp σ.objs [(w0, some ⟨96, 2, W0.set r0_ [.fsl (encL rI_u8 r.2.b), .int .i64 r.2.p]⟩)] M) := by
 refine ACalls_fr (L := [(w0, some ⟨96, 2, W0⟩)]) (Q1 := fun v σ' => ∃ M : Nat, σ.next ≤ M ∧ v = .agg [.int .i64 r.1.Op, .int .i64 r.1.Dst, .int .i64 r.1.A, .int .i64 r.1.B, .int .i64 r.1.N] ∧ σ' = hp E0 [(w0, some ⟨96, 2, W0.set r0_ [.fsl (encL rI_u8 r.2.b), .int .i64 r.2.p]⟩)] M) (by simp [q0]) (fun hlt => ?_) ?_ ⟨_, Tryd.func63, rfl, rfl⟩
 rotate_left
 ·
  rintro v σ1 ⟨M, h0, rfl, rfl⟩
  exact ⟨_, M, rfl, by simp, by simp; try omega, M, h0, rfl, rfl⟩
 generalize σ.next = N0 at hlt ⊢
 have lw0 : w0 < N0 := hlt _ (.head _) rfl
 have gs_W0 : ∀ x, (W0.set r0_ x)[r0_]? = some x := gsetW g0
 rw [show W0 = W0.set r0_ [.fsl (encL rI_u8 p0.b), .int .i64 p0.p] from (set_same g0).symm]
 refine ACalls_thaw 4 ?_
 refine ACalls_fn tok Tryd.func63 (by kernel_rfl) rfl Tryd.ntmps63 Tryd.results63 rfl ?_
 simp only [argsA, Nat.reduceAdd, hp_next]
 unfold s_l93Quad at H
 refine Sx tok [] [0, 1, 4] (by
  intro K k
  have e0 := nQ w0 N0
  simp -dsimp -implicitDefEqProofs (maxDischargeDepth := 6) [e0, gs_W0, List.set_set]
  exact k) ?_
 refine AWP_sq [0, 4] fun K1 hK1 => ?_
 obtain ⟨r1, hr1, H⟩ := bindE H
 refine AWP_sr tok [] [0, 1, 4, 13] (fun a σ => ∃ M1 : Nat, N0 + 3 ≤ M1 ∧ a = [(0, .ptr w0 r0_ 0), (1, .int .i64 p1), (4, .ptr N0 0 0), (13, .int .i64 r1.1)] ∧ σ = hp E0 [(w0, some ⟨96, 2, W0.set r0_ [.fsl (encL rI_u8 r1.2.b), .int .i64 r1.2.p]⟩), (N0, some ⟨43, 5, [[.int .i64 0, .int .i64 0, .int .i64 0, .int .i64 0, .int .i64 0]]⟩)] M1) (fun K hK => ?_) ?_
 ·
  have e0 := nQ w0 N0
  simp -dsimp -implicitDefEqProofs (maxDischargeDepth := 6) [e0, gs_W0, List.set_set]
  refine (c45 (W0 := W0.set r0_ [.fsl (encL rI_u8 p0.b), .int .i64 p0.p]) (r0_ := r0_) (H := hr1) (by simp [e0, gs_W0, List.set_set]) (by simp [e0, gs_W0, List.set_set])).mono ?_; rintro _ _ ⟨M1, fM1_0, rfl, rfl⟩; simp only [hp_next] at fM1_0
  try simp -dsimp -implicitDefEqProofs (maxDischargeDepth := 6) [e0, gs_W0, List.set_set, hp_over_some, hp_over_none]
  exact hK _ _ ⟨M1, (by omega), rfl, rfl⟩
 rintro a σ ⟨M1, fM1_0, rfl, rfl⟩
 refine AWP_block (AWP_thenB ?_)
 obtain ⟨j1, hj1, H⟩ := bindE H
 refine AWP_seq (AWP_named fun K5 hK5 => ?_)
 have hJ1 : ∀ a σ, Rc G 90 N0 (fun a σ => ∃ M2 : Nat, N0 ≤ M2 ∧ N0 < M2 ∧ a = [(0, .ptr w0 r0_ 0), (1, .int .i64 p1), (4, .ptr N0 0 0), (13, .int .i64 r1.1), (14, .bool j1)] ∧ σ = hp E0 [(w0, some ⟨96, 2, W0.set r0_ [.fsl (encL rI_u8 r1.2.b), .int .i64 r1.2.p]⟩), (N0, some ⟨43, 5, [[.int .i64 0, .int .i64 0, .int .i64 0, .int .i64 0, .int .i64 0]]⟩)] M2) (a.keep [0, 1, 4, 13, 14]) σ → K5 a σ := by
  rintro a σ ⟨b, τ, hr, M2, fM2_0, fM2_1, rfl, rfl⟩
  refine hK5 _ _ (AWP_keep [0, 1, 4, 13, 14] (AWP_ref hr ?_))
  refine AWP_cond j1 rfl (fun C1 => ?_) (fun C1 => ?_)
  ·
   replace H := ifT C1 H
   obtain ⟨r3, hr3, H⟩ := bindE H
   obtain ⟨r4, hr4, H⟩ := bindE H
   obtain ⟨r5, hr5, H⟩ := bindE H
   obtain ⟨v6, hv6, H⟩ := bindE H
   have q0 : ∀ σ i, buildSliceA T 22 true i 4 [(0, .int .i64 0), (1, .int .i64 1), (2, .int .i64 2), (3, .int .i64 r4.1)] σ = some (.fsl (encL rI ([0, 1, 2, r4.1] : List Int)), σ) := fun _ _ => rfl
   refine AWP_sr tok [4] [4] (fun a σ => ∃ M3 : Nat, ∃ M4 : Nat, ∃ M5 : Nat, M2 + 11 ≤ M3 ∧ M3 ≤ M4 ∧ M4 ≤ M5 ∧ a = [(4, .ptr N0 0 0)] ∧ σ = hp E0 [(w0, some ⟨96, 2, W0.set r0_ [.fsl (encL rI_u8 r5.2.b), .int .i64 r5.2.p]⟩), (N0, some ⟨43, 5, [[.int .i64 1, .int .i64 r3.1, .int .i64 0, .int .i64 0, .int .i64 v6]]⟩)] M5) (fun K hK => ?_) ?_
   ·
    have e0 := nQ w0 N0
    simp -dsimp -implicitDefEqProofs (maxDischargeDepth := 6) [e0, gs_W0, List.set_set, q0, ix22 hv6]
    refine (c102 (W0 := W0.set r0_ [.fsl (encL rI_u8 r1.2.b), .int .i64 r1.2.p]) (r0_ := r0_) (H := hr3) (by simp [e0, gs_W0, List.set_set, q0, ix22 hv6]) (by simp [e0, gs_W0, List.set_set, q0, ix22 hv6])).mono ?_; rintro _ _ ⟨M3, fM3_0, rfl, rfl⟩; simp only [hp_next] at fM3_0
    try simp -dsimp -implicitDefEqProofs (maxDischargeDepth := 6) [e0, gs_W0, List.set_set, q0, ix22 hv6, hp_over_some, hp_over_none]
    refine (c103 (W0 := W0.set r0_ [.fsl (encL rI_u8 r3.2.b), .int .i64 r3.2.p]) (r0_ := r0_) (H := hr4) (by simp [e0, gs_W0, List.set_set, q0, ix22 hv6, hp_over_some, hp_over_none]) (by simp [e0, gs_W0, List.set_set, q0, ix22 hv6, hp_over_some, hp_over_none])).mono ?_; rintro _ _ ⟨M4, fM4_0, rfl, rfl⟩; simp only [hp_next] at fM4_0
    try simp -dsimp -implicitDefEqProofs (maxDischargeDepth := 6) [e0, gs_W0, List.set_set, q0, ix22 hv6, hp_over_some, hp_over_none, hp_over_some, hp_over_none]
    refine (c45 (W0 := W0.set r0_ [.fsl (encL rI_u8 r4.2.b), .int .i64 r4.2.p]) (r0_ := r0_) (H := hr5) (by simp [e0, gs_W0, List.set_set, q0, ix22 hv6, hp_over_some, hp_over_none, hp_over_some, hp_over_none]) (by simp [e0, gs_W0, List.set_set, q0, ix22 hv6, hp_over_some, hp_over_none, hp_over_some, hp_over_none])).mono ?_; rintro _ _ ⟨M5, fM5_0, rfl, rfl⟩; simp only [hp_next] at fM5_0
    try simp -dsimp -implicitDefEqProofs (maxDischargeDepth := 6) [e0, gs_W0, List.set_set, q0, ix22 hv6, hp_over_some, hp_over_none, hp_over_some, hp_over_none, hp_over_some, hp_over_none]
    exact hK _ _ ⟨M3, M4, M5, (by omega), (by omega), (by omega), rfl, rfl⟩
   rintro a σ ⟨M3, M4, M5, fM3_0, fM4_0, fM5_0, rfl, rfl⟩
   replace H := oi H; subst H
   refine Kp [4] ?_
   have z0 := nQ w0 N0
   refine AWP_ret ?_
   refine ⟨[.agg [.int .i64 1, .int .i64 r3.1, .int .i64 0, .int .i64 0, .int .i64 v6]], by simp [z0, gs_W0], (fun o => [N0].contains o), M5, by omega, ?_, ?_⟩
   ·
    simp [encL_nil, z0, gs_W0]
   ·
    rw [cutD (L' := [(w0, some ⟨96, 2, W0.set r0_ [.fsl (encL rI_u8 r5.2.b), .int .i64 r5.2.p]⟩)]) (by simp [z0, gs_W0])]
    first | done | rfl | simp [List.set_set]
  ·
   replace H := ifF C1 H
   obtain ⟨j2, hj2, H⟩ := bindE H
   refine AWP_seq (AWP_named fun K4 hK4 => ?_)
   have hJ2 : ∀ a σ, Rc G 90 N0 (fun a σ => ∃ M6 : Nat, N0 ≤ M6 ∧ N0 < M6 ∧ a = [(0, .ptr w0 r0_ 0), (1, .int .i64 p1), (4, .ptr N0 0 0), (13, .int .i64 r1.1), (27, .bool j2)] ∧ σ = hp E0 [(w0, some ⟨96, 2, W0.set r0_ [.fsl (encL rI_u8 r1.2.b), .int .i64 r1.2.p]⟩), (N0, some ⟨43, 5, [[.int .i64 0, .int .i64 0, .int .i64 0, .int .i64 0, .int .i64 0]]⟩)] M6) (a.keep [0, 1, 4, 13, 27]) σ → K4 a σ := by
    rintro a σ ⟨b, τ, hr, M6, fM6_0, fM6_1, rfl, rfl⟩
    refine hK4 _ _ (AWP_keep [0, 1, 4, 13, 27] (AWP_ref hr ?_))
    refine AWP_cond j2 rfl (fun C2 => ?_) (fun C2 => ?_)
    ·
     replace H := ifT C2 H
     obtain ⟨r8, hr8, H⟩ := bindE H
     refine AWP_sr tok [] [0, 4, 5] (fun a σ => ∃ M7 : Nat, M6 + 3 ≤ M7 ∧ a = [(0, .ptr w0 r0_ 0), (4, .ptr N0 0 0), (5, .int .i64 r8.1)] ∧ σ = hp E0 [(w0, some ⟨96, 2, W0.set r0_ [.fsl (encL rI_u8 r8.2.b), .int .i64 r8.2.p]⟩), (N0, some ⟨43, 5, [[.int .i64 0, .int .i64 0, .int .i64 0, .int .i64 0, .int .i64 0]]⟩)] M7) (fun K hK => ?_) ?_
     ·
      have e0 := nQ w0 N0
      simp -dsimp -implicitDefEqProofs (maxDischargeDepth := 6) [e0, gs_W0, List.set_set]
      refine (c102 (W0 := W0.set r0_ [.fsl (encL rI_u8 r1.2.b), .int .i64 r1.2.p]) (r0_ := r0_) (H := hr8) (by simp [e0, gs_W0, List.set_set]) (by simp [e0, gs_W0, List.set_set])).mono ?_; rintro _ _ ⟨M7, fM7_0, rfl, rfl⟩; simp only [hp_next] at fM7_0
      try simp -dsimp -implicitDefEqProofs (maxDischargeDepth := 6) [e0, gs_W0, List.set_set, hp_over_some, hp_over_none]
      exact hK _ _ ⟨M7, (by omega), rfl, rfl⟩
     rintro a σ ⟨M7, fM7_0, rfl, rfl⟩
     obtain ⟨r9, hr9, H⟩ := bindE H
     refine AWP_sr tok [] [4] (fun a σ => ∃ M8 : Nat, M7 + 5 ≤ M8 ∧ a = [(4, .ptr N0 0 0)] ∧ σ = hp E0 [(w0, some ⟨96, 2, W0.set r0_ [.fsl (encL rI_u8 r9.2.b), .int .i64 r9.2.p]⟩), (N0, some ⟨43, 5, [[.int .i64 2, .int .i64 r8.1, .int .i64 r9.1, .int .i64 0, .int .i64 0]]⟩)] M8) (fun K hK => ?_) ?_
     ·
      have e0 := nQ w0 N0
      simp -dsimp -implicitDefEqProofs (maxDischargeDepth := 6) [e0, gs_W0, List.set_set]
      refine (c102 (W0 := W0.set r0_ [.fsl (encL rI_u8 r8.2.b), .int .i64 r8.2.p]) (r0_ := r0_) (H := hr9) (by simp [e0, gs_W0, List.set_set]) (by simp [e0, gs_W0, List.set_set])).mono ?_; rintro _ _ ⟨M8, fM8_0, rfl, rfl⟩; simp only [hp_next] at fM8_0
      try simp -dsimp -implicitDefEqProofs (maxDischargeDepth := 6) [e0, gs_W0, List.set_set, hp_over_some, hp_over_none]
      exact hK _ _ ⟨M8, (by omega), rfl, rfl⟩
     rintro a σ ⟨M8, fM8_0, rfl, rfl⟩
     replace H := oi H; subst H
     refine Kp [4] ?_
     have z1 := nQ w0 N0
     refine AWP_ret ?_
     refine ⟨[.agg [.int .i64 2, .int .i64 r8.1, .int .i64 r9.1, .int .i64 0, .int .i64 0]], by simp [z1, gs_W0], (fun o => [N0].contains o), M8, by omega, ?_, ?_⟩
     ·
      simp [encL_nil, z1, gs_W0]
     ·
      rw [cutD (L' := [(w0, some ⟨96, 2, W0.set r0_ [.fsl (encL rI_u8 r9.2.b), .int .i64 r9.2.p]⟩)]) (by simp [z1, gs_W0])]
      first | done | rfl | simp [List.set_set]
    ·
     replace H := ifF C2 H
     obtain ⟨j3, hj3, H⟩ := bindE H
     refine AWP_seq (AWP_named fun K3 hK3 => ?_)
     have hJ3 : ∀ a σ, Rc G 90 N0 (fun a σ => ∃ M9 : Nat, N0 ≤ M9 ∧ N0 < M9 ∧ a = [(0, .ptr w0 r0_ 0), (1, .int .i64 p1), (4, .ptr N0 0 0), (13, .int .i64 r1.1), (36, .bool j3)] ∧ σ = hp E0 [(w0, some ⟨96, 2, W0.set r0_ [.fsl (encL rI_u8 r1.2.b), .int .i64 r1.2.p]⟩), (N0, some ⟨43, 5, [[.int .i64 0, .int .i64 0, .int .i64 0, .int .i64 0, .int .i64 0]]⟩)] M9) (a.keep [0, 1, 4, 13, 36]) σ → K3 a σ := by
      rintro a σ ⟨b, τ, hr, M9, fM9_0, fM9_1, rfl, rfl⟩
      refine hK3 _ _ (AWP_keep [0, 1, 4, 13, 36] (AWP_ref hr ?_))
      refine AWP_cond j3 rfl (fun C3 => ?_) (fun C3 => ?_)
      ·
       replace H := ifT C3 H
       obtain ⟨r11, hr11, H⟩ := bindE H
       refine AWP_sr tok [] [0, 4, 6] (fun a σ => ∃ M10 : Nat, M9 + 3 ≤ M10 ∧ a = [(0, .ptr w0 r0_ 0), (4, .ptr N0 0 0), (6, .int .i64 r11.1)] ∧ σ = hp E0 [(w0, some ⟨96, 2, W0.set r0_ [.fsl (encL rI_u8 r11.2.b), .int .i64 r11.2.p]⟩), (N0, some ⟨43, 5, [[.int .i64 0, .int .i64 0, .int .i64 0, .int .i64 0, .int .i64 0]]⟩)] M10) (fun K hK => ?_) ?_
       ·
        have e0 := nQ w0 N0
        simp -dsimp -implicitDefEqProofs (maxDischargeDepth := 6) [e0, gs_W0, List.set_set]
        refine (c102 (W0 := W0.set r0_ [.fsl (encL rI_u8 r1.2.b), .int .i64 r1.2.p]) (r0_ := r0_) (H := hr11) (by simp [e0, gs_W0, List.set_set]) (by simp [e0, gs_W0, List.set_set])).mono ?_; rintro _ _ ⟨M10, fM10_0, rfl, rfl⟩; simp only [hp_next] at fM10_0
        try simp -dsimp -implicitDefEqProofs (maxDischargeDepth := 6) [e0, gs_W0, List.set_set, hp_over_some, hp_over_none]
        exact hK _ _ ⟨M10, (by omega), rfl, rfl⟩
       rintro a σ ⟨M10, fM10_0, rfl, rfl⟩
       obtain ⟨r12, hr12, H⟩ := bindE H
       refine AWP_sr tok [] [0, 4, 6, 7] (fun a σ => ∃ M11 : Nat, M10 + 3 ≤ M11 ∧ a = [(0, .ptr w0 r0_ 0), (4, .ptr N0 0 0), (6, .int .i64 r11.1), (7, .int .i64 r12.1)] ∧ σ = hp E0 [(w0, some ⟨96, 2, W0.set r0_ [.fsl (encL rI_u8 r12.2.b), .int .i64 r12.2.p]⟩), (N0, some ⟨43, 5, [[.int .i64 0, .int .i64 0, .int .i64 0, .int .i64 0, .int .i64 0]]⟩)] M11) (fun K hK => ?_) ?_
       ·
        have e0 := nQ w0 N0
        simp -dsimp -implicitDefEqProofs (maxDischargeDepth := 6) [e0, gs_W0, List.set_set]
        refine (c102 (W0 := W0.set r0_ [.fsl (encL rI_u8 r11.2.b), .int .i64 r11.2.p]) (r0_ := r0_) (H := hr12) (by simp [e0, gs_W0, List.set_set]) (by simp [e0, gs_W0, List.set_set])).mono ?_; rintro _ _ ⟨M11, fM11_0, rfl, rfl⟩; simp only [hp_next] at fM11_0
        try simp -dsimp -implicitDefEqProofs (maxDischargeDepth := 6) [e0, gs_W0, List.set_set, hp_over_some, hp_over_none]
        exact hK _ _ ⟨M11, (by omega), rfl, rfl⟩
       rintro a σ ⟨M11, fM11_0, rfl, rfl⟩
       obtain ⟨r13, hr13, H⟩ := bindE H
       refine AWP_sr tok [] [0, 4, 6, 7, 8] (fun a σ => ∃ M12 : Nat, M11 + 3 ≤ M12 ∧ a = [(0, .ptr w0 r0_ 0), (4, .ptr N0 0 0), (6, .int .i64 r11.1), (7, .int .i64 r12.1), (8, .int .i64 r13.1)] ∧ σ = hp E0 [(w0, some ⟨96, 2, W0.set r0_ [.fsl (encL rI_u8 r13.2.b), .int .i64 r13.2.p]⟩), (N0, some ⟨43, 5, [[.int .i64 0, .int .i64 0, .int .i64 0, .int .i64 0, .int .i64 0]]⟩)] M12) (fun K hK => ?_) ?_
       ·
        have e0 := nQ w0 N0
        simp -dsimp -implicitDefEqProofs (maxDischargeDepth := 6) [e0, gs_W0, List.set_set]
        refine (c102 (W0 := W0.set r0_ [.fsl (encL rI_u8 r12.2.b), .int .i64 r12.2.p]) (r0_ := r0_) (H := hr13) (by simp [e0, gs_W0, List.set_set]) (by simp [e0, gs_W0, List.set_set])).mono ?_; rintro _ _ ⟨M12, fM12_0, rfl, rfl⟩; simp only [hp_next] at fM12_0
        try simp -dsimp -implicitDefEqProofs (maxDischargeDepth := 6) [e0, gs_W0, List.set_set, hp_over_some, hp_over_none]
        exact hK _ _ ⟨M12, (by omega), rfl, rfl⟩
       rintro a σ ⟨M12, fM12_0, rfl, rfl⟩
       obtain ⟨r14, hr14, H⟩ := bindE H
       refine AWP_sr tok [] [4] (fun a σ => ∃ M13 : Nat, M12 + 7 ≤ M13 ∧ a = [(4, .ptr N0 0 0)] ∧ σ = hp E0 [(w0, some ⟨96, 2, W0.set r0_ [.fsl (encL rI_u8 r14.2.b), .int .i64 r14.2.p]⟩), (N0, some ⟨43, 5, [[.int .i64 3, .int .i64 r11.1, .int .i64 r12.1, .int .i64 r13.1, .int .i64 r14.1]]⟩)] M13) (fun K hK => ?_) ?_
       ·
        have e0 := nQ w0 N0
        simp -dsimp -implicitDefEqProofs (maxDischargeDepth := 6) [e0, gs_W0, List.set_set]
        refine (c104 (W0 := W0.set r0_ [.fsl (encL rI_u8 r13.2.b), .int .i64 r13.2.p]) (r0_ := r0_) (H := hr14) (by simp [e0, gs_W0, List.set_set]) (by simp [e0, gs_W0, List.set_set])).mono ?_; rintro _ _ ⟨M13, fM13_0, rfl, rfl⟩; simp only [hp_next] at fM13_0
        try simp -dsimp -implicitDefEqProofs (maxDischargeDepth := 6) [e0, gs_W0, List.set_set, hp_over_some, hp_over_none]
        exact hK _ _ ⟨M13, (by omega), rfl, rfl⟩
       rintro a σ ⟨M13, fM13_0, rfl, rfl⟩
       replace H := oi H; subst H
       refine Kp [4] ?_
       have z2 := nQ w0 N0
       refine AWP_ret ?_
       refine ⟨[.agg [.int .i64 3, .int .i64 r11.1, .int .i64 r12.1, .int .i64 r13.1, .int .i64 r14.1]], by simp [z2, gs_W0], (fun o => [N0].contains o), M13, by omega, ?_, ?_⟩
       ·
        simp [encL_nil, z2, gs_W0]
       ·
        rw [cutD (L' := [(w0, some ⟨96, 2, W0.set r0_ [.fsl (encL rI_u8 r14.2.b), .int .i64 r14.2.p]⟩)]) (by simp [z2, gs_W0])]
        first | done | rfl | simp [List.set_set]
      ·
       replace H := ifF C3 H
       refine Sx tok [] [0, 1, 4, 13, 52] (by
        intro K k
        have e0 := nQ w0 N0
        simp -dsimp -implicitDefEqProofs (maxDischargeDepth := 6) [e0, gs_W0, List.set_set]
        exact k) ?_
       refine AWP_cond (ieq r1.1 7) rfl (fun C4 => ?_) (fun C4 => ?_)
       ·
        replace H := ifT C4 H
        obtain ⟨r15, hr15, H⟩ := bindE H
        refine AWP_sr tok [] [4] (fun a σ => ∃ M14 : Nat, M9 + 7 ≤ M14 ∧ a = [(4, .ptr N0 0 0)] ∧ σ = hp E0 [(w0, some ⟨96, 2, W0.set r0_ [.fsl (encL rI_u8 r15.2.b), .int .i64 r15.2.p]⟩), (N0, some ⟨43, 5, [[.int .i64 4, .int .i64 0, .int .i64 0, .int .i64 0, .int .i64 r15.1]]⟩)] M14) (fun K hK => ?_) ?_
        ·
         have e0 := nQ w0 N0
         simp -dsimp -implicitDefEqProofs (maxDischargeDepth := 6) [e0, gs_W0, List.set_set]
         refine (c45 (W0 := W0.set r0_ [.fsl (encL rI_u8 r1.2.b), .int .i64 r1.2.p]) (r0_ := r0_) (H := hr15) (by simp [e0, gs_W0, List.set_set]) (by simp [e0, gs_W0, List.set_set])).mono ?_; rintro _ _ ⟨M14, fM14_0, rfl, rfl⟩; simp only [hp_next] at fM14_0
         try simp -dsimp -implicitDefEqProofs (maxDischargeDepth := 6) [e0, gs_W0, List.set_set, hp_over_some, hp_over_none]
         exact hK _ _ ⟨M14, (by omega), rfl, rfl⟩
        rintro a σ ⟨M14, fM14_0, rfl, rfl⟩
        replace H := oi H; subst H
        refine Kp [4] ?_
        have z3 := nQ w0 N0
        refine AWP_ret ?_
        refine ⟨[.agg [.int .i64 4, .int .i64 0, .int .i64 0, .int .i64 0, .int .i64 r15.1]], by simp [z3, gs_W0], (fun o => [N0].contains o), M14, by omega, ?_, ?_⟩
        ·
         simp [encL_nil, z3, gs_W0]
        ·
         rw [cutD (L' := [(w0, some ⟨96, 2, W0.set r0_ [.fsl (encL rI_u8 r15.2.b), .int .i64 r15.2.p]⟩)]) (by simp [z3, gs_W0])]
         first | done | rfl | simp [List.set_set]
       ·
        replace H := ifF C4 H
        refine Sx tok [] [0, 1, 4, 13, 58] (by
         intro K k
         have e0 := nQ w0 N0
         simp -dsimp -implicitDefEqProofs (maxDischargeDepth := 6) [e0, gs_W0, List.set_set]
         exact k) ?_
        refine AWP_cond (ieq r1.1 8) rfl (fun C5 => ?_) (fun C5 => ?_)
        ·
         replace H := ifT C5 H
         obtain ⟨r16, hr16, H⟩ := bindE H
         refine AWP_sr tok [] [0, 1, 4, 9] (fun a σ => ∃ M15 : Nat, M9 + 7 ≤ M15 ∧ a = [(0, .ptr w0 r0_ 0), (1, .int .i64 p1), (4, .ptr N0 0 0), (9, .int .i64 r16.1)] ∧ σ = hp E0 [(w0, some ⟨96, 2, W0.set r0_ [.fsl (encL rI_u8 r16.2.b), .int .i64 r16.2.p]⟩), (N0, some ⟨43, 5, [[.int .i64 0, .int .i64 0, .int .i64 0, .int .i64 0, .int .i64 0]]⟩)] M15) (fun K hK => ?_) ?_
         ·
          have e0 := nQ w0 N0
          simp -dsimp -implicitDefEqProofs (maxDischargeDepth := 6) [e0, gs_W0, List.set_set]
          refine (c102 (W0 := W0.set r0_ [.fsl (encL rI_u8 r1.2.b), .int .i64 r1.2.p]) (r0_ := r0_) (H := hr16) (by simp [e0, gs_W0, List.set_set]) (by simp [e0, gs_W0, List.set_set])).mono ?_; rintro _ _ ⟨M15, fM15_0, rfl, rfl⟩; simp only [hp_next] at fM15_0
          try simp -dsimp -implicitDefEqProofs (maxDischargeDepth := 6) [e0, gs_W0, List.set_set, hp_over_some, hp_over_none]
          exact hK _ _ ⟨M15, (by omega), rfl, rfl⟩
         rintro a σ ⟨M15, fM15_0, rfl, rfl⟩
         obtain ⟨r17, hr17, H⟩ := bindE H
         refine AWP_sr tok [] [4] (fun a σ => ∃ M16 : Nat, M15 + 6 ≤ M16 ∧ a = [(4, .ptr N0 0 0)] ∧ σ = hp E0 [(w0, some ⟨96, 2, W0.set r0_ [.fsl (encL rI_u8 r17.2.b), .int .i64 r17.2.p]⟩), (N0, some ⟨43, 5, [[.int .i64 5, .int .i64 0, .int .i64 r16.1, .int .i64 0, .int .i64 r17.1]]⟩)] M16) (fun K hK => ?_) ?_
         ·
          have e0 := nQ w0 N0
          simp -dsimp -implicitDefEqProofs (maxDischargeDepth := 6) [e0, gs_W0, List.set_set]
          refine (c45 (W0 := W0.set r0_ [.fsl (encL rI_u8 r16.2.b), .int .i64 r16.2.p]) (r0_ := r0_) (H := hr17) (by simp [e0, gs_W0, List.set_set]) (by simp [e0, gs_W0, List.set_set])).mono ?_; rintro _ _ ⟨M16, fM16_0, rfl, rfl⟩; simp only [hp_next] at fM16_0
          try simp -dsimp -implicitDefEqProofs (maxDischargeDepth := 6) [e0, gs_W0, List.set_set, hp_over_some, hp_over_none]
          exact hK _ _ ⟨M16, (by omega), rfl, rfl⟩
         rintro a σ ⟨M16, fM16_0, rfl, rfl⟩
         replace H := oi H; subst H
         refine Kp [4] ?_
         have z4 := nQ w0 N0
         refine AWP_ret ?_
         refine ⟨[.agg [.int .i64 5, .int .i64 0, .int .i64 r16.1, .int .i64 0, .int .i64 r17.1]], by simp [z4, gs_W0], (fun o => [N0].contains o), M16, by omega, ?_, ?_⟩
         ·
          simp [encL_nil, z4, gs_W0]
         ·
          rw [cutD (L' := [(w0, some ⟨96, 2, W0.set r0_ [.fsl (encL rI_u8 r17.2.b), .int .i64 r17.2.p]⟩)]) (by simp [z4, gs_W0])]
          first | done | rfl | simp [List.set_set]
        ·
         replace H := ifF C5 H
         refine Sx tok [] [0, 4, 13, 67] (by
          intro K k
          have e0 := nQ w0 N0
          simp -dsimp -implicitDefEqProofs (maxDischargeDepth := 6) [e0, gs_W0, List.set_set]
          exact k) ?_
         refine AWP_cond (ieq r1.1 9) rfl (fun C6 => ?_) (fun C6 => ?_)
         ·
          replace H := ifT C6 H
          obtain ⟨r18, hr18, H⟩ := bindE H
          refine AWP_sr tok [] [0, 4, 10] (fun a σ => ∃ M17 : Nat, M9 + 9 ≤ M17 ∧ a = [(0, .ptr w0 r0_ 0), (4, .ptr N0 0 0), (10, .int .i64 r18.1)] ∧ σ = hp E0 [(w0, some ⟨96, 2, W0.set r0_ [.fsl (encL rI_u8 r18.2.b), .int .i64 r18.2.p]⟩), (N0, some ⟨43, 5, [[.int .i64 0, .int .i64 0, .int .i64 0, .int .i64 0, .int .i64 0]]⟩)] M17) (fun K hK => ?_) ?_
          ·
           have e0 := nQ w0 N0
           simp -dsimp -implicitDefEqProofs (maxDischargeDepth := 6) [e0, gs_W0, List.set_set]
           refine (c102 (W0 := W0.set r0_ [.fsl (encL rI_u8 r1.2.b), .int .i64 r1.2.p]) (r0_ := r0_) (H := hr18) (by simp [e0, gs_W0, List.set_set]) (by simp [e0, gs_W0, List.set_set])).mono ?_; rintro _ _ ⟨M17, fM17_0, rfl, rfl⟩; simp only [hp_next] at fM17_0
           try simp -dsimp -implicitDefEqProofs (maxDischargeDepth := 6) [e0, gs_W0, List.set_set, hp_over_some, hp_over_none]
           exact hK _ _ ⟨M17, (by omega), rfl, rfl⟩
          rintro a σ ⟨M17, fM17_0, rfl, rfl⟩
          obtain ⟨r19, hr19, H⟩ := bindE H
          refine AWP_sr tok [] [4] (fun a σ => ∃ M18 : Nat, M17 + 5 ≤ M18 ∧ a = [(4, .ptr N0 0 0)] ∧ σ = hp E0 [(w0, some ⟨96, 2, W0.set r0_ [.fsl (encL rI_u8 r19.2.b), .int .i64 r19.2.p]⟩), (N0, some ⟨43, 5, [[.int .i64 6, .int .i64 0, .int .i64 r18.1, .int .i64 0, .int .i64 r19.1]]⟩)] M18) (fun K hK => ?_) ?_
          ·
           have e0 := nQ w0 N0
           simp -dsimp -implicitDefEqProofs (maxDischargeDepth := 6) [e0, gs_W0, List.set_set]
           refine (c45 (W0 := W0.set r0_ [.fsl (encL rI_u8 r18.2.b), .int .i64 r18.2.p]) (r0_ := r0_) (H := hr19) (by simp [e0, gs_W0, List.set_set]) (by simp [e0, gs_W0, List.set_set])).mono ?_; rintro _ _ ⟨M18, fM18_0, rfl, rfl⟩; simp only [hp_next] at fM18_0
           try simp -dsimp -implicitDefEqProofs (maxDischargeDepth := 6) [e0, gs_W0, List.set_set, hp_over_some, hp_over_none]
           exact hK _ _ ⟨M18, (by omega), rfl, rfl⟩
          rintro a σ ⟨M18, fM18_0, rfl, rfl⟩
          replace H := oi H; subst H
          refine Kp [4] ?_
          have z5 := nQ w0 N0
          refine AWP_ret ?_
          refine ⟨[.agg [.int .i64 6, .int .i64 0, .int .i64 r18.1, .int .i64 0, .int .i64 r19.1]], by simp [z5, gs_W0], (fun o => [N0].contains o), M18, by omega, ?_, ?_⟩
          ·
           simp [encL_nil, z5, gs_W0]
          ·
           rw [cutD (L' := [(w0, some ⟨96, 2, W0.set r0_ [.fsl (encL rI_u8 r19.2.b), .int .i64 r19.2.p]⟩)]) (by simp [z5, gs_W0])]
           first | done | rfl | simp [List.set_set]
         ·
          replace H := ifF C6 H
          refine Sx tok [] [0, 4, 75] (by
           intro K k
           have e0 := nQ w0 N0
           simp -dsimp -implicitDefEqProofs (maxDischargeDepth := 6) [e0, gs_W0, List.set_set]
           exact k) ?_
          refine AWP_cond (ieq r1.1 10) rfl (fun C7 => ?_) (fun C7 => ?_)
          ·
           replace H := ifT C7 H
           obtain ⟨r20, hr20, H⟩ := bindE H
           refine AWP_sr tok [] [0, 4, 11] (fun a σ => ∃ M19 : Nat, M9 + 11 ≤ M19 ∧ a = [(0, .ptr w0 r0_ 0), (4, .ptr N0 0 0), (11, .int .i64 r20.1)] ∧ σ = hp E0 [(w0, some ⟨96, 2, W0.set r0_ [.fsl (encL rI_u8 r20.2.b), .int .i64 r20.2.p]⟩), (N0, some ⟨43, 5, [[.int .i64 0, .int .i64 0, .int .i64 0, .int .i64 0, .int .i64 0]]⟩)] M19) (fun K hK => ?_) ?_
           ·
            have e0 := nQ w0 N0
            simp -dsimp -implicitDefEqProofs (maxDischargeDepth := 6) [e0, gs_W0, List.set_set]
            refine (c102 (W0 := W0.set r0_ [.fsl (encL rI_u8 r1.2.b), .int .i64 r1.2.p]) (r0_ := r0_) (H := hr20) (by simp [e0, gs_W0, List.set_set]) (by simp [e0, gs_W0, List.set_set])).mono ?_; rintro _ _ ⟨M19, fM19_0, rfl, rfl⟩; simp only [hp_next] at fM19_0
            try simp -dsimp -implicitDefEqProofs (maxDischargeDepth := 6) [e0, gs_W0, List.set_set, hp_over_some, hp_over_none]
            exact hK _ _ ⟨M19, (by omega), rfl, rfl⟩
           rintro a σ ⟨M19, fM19_0, rfl, rfl⟩
           obtain ⟨r21, hr21, H⟩ := bindE H
           refine AWP_sr tok [] [4] (fun a σ => ∃ M20 : Nat, M19 + 5 ≤ M20 ∧ a = [(4, .ptr N0 0 0)] ∧ σ = hp E0 [(w0, some ⟨96, 2, W0.set r0_ [.fsl (encL rI_u8 r21.2.b), .int .i64 r21.2.p]⟩), (N0, some ⟨43, 5, [[.int .i64 7, .int .i64 r20.1, .int .i64 0, .int .i64 0, .int .i64 r21.1]]⟩)] M20) (fun K hK => ?_) ?_
           ·
            have e0 := nQ w0 N0
            simp -dsimp -implicitDefEqProofs (maxDischargeDepth := 6) [e0, gs_W0, List.set_set]
            refine (c45 (W0 := W0.set r0_ [.fsl (encL rI_u8 r20.2.b), .int .i64 r20.2.p]) (r0_ := r0_) (H := hr21) (by simp [e0, gs_W0, List.set_set]) (by simp [e0, gs_W0, List.set_set])).mono ?_; rintro _ _ ⟨M20, fM20_0, rfl, rfl⟩; simp only [hp_next] at fM20_0
            try simp -dsimp -implicitDefEqProofs (maxDischargeDepth := 6) [e0, gs_W0, List.set_set, hp_over_some, hp_over_none]
            exact hK _ _ ⟨M20, (by omega), rfl, rfl⟩
           rintro a σ ⟨M20, fM20_0, rfl, rfl⟩
           replace H := oi H; subst H
           refine Kp [4] ?_
           have z6 := nQ w0 N0
           refine AWP_ret ?_
           refine ⟨[.agg [.int .i64 7, .int .i64 r20.1, .int .i64 0, .int .i64 0, .int .i64 r21.1]], by simp [z6, gs_W0], (fun o => [N0].contains o), M20, by omega, ?_, ?_⟩
           ·
            simp [encL_nil, z6, gs_W0]
           ·
            rw [cutD (L' := [(w0, some ⟨96, 2, W0.set r0_ [.fsl (encL rI_u8 r21.2.b), .int .i64 r21.2.p]⟩)]) (by simp [z6, gs_W0])]
            first | done | rfl | simp [List.set_set]
          ·
           replace H := ifF C7 H
           refine AWP_skip (Jn hK1 ?_)
           refine AWP_sq [0, 4] fun K2 hK2 => ?_
           obtain ⟨r22, hr22, H⟩ := bindE H
           refine AWP_sr tok [] [0, 4, 85] (fun a σ => ∃ M21 : Nat, M9 + 11 ≤ M21 ∧ a = [(0, .ptr w0 r0_ 0), (4, .ptr N0 0 0), (85, .bool (ieq r22.1 0))] ∧ σ = hp E0 [(w0, some ⟨96, 2, W0.set r0_ [.fsl (encL rI_u8 r22.2.b), .int .i64 r22.2.p]⟩), (N0, some ⟨43, 5, [[.int .i64 0, .int .i64 0, .int .i64 0, .int .i64 0, .int .i64 0]]⟩)] M21) (fun K hK => ?_) ?_
           ·
            have e0 := nQ w0 N0
            simp -dsimp -implicitDefEqProofs (maxDischargeDepth := 6) [e0, gs_W0, List.set_set]
            refine (c45 (W0 := W0.set r0_ [.fsl (encL rI_u8 r1.2.b), .int .i64 r1.2.p]) (r0_ := r0_) (H := hr22) (by simp [e0, gs_W0, List.set_set]) (by simp [e0, gs_W0, List.set_set])).mono ?_; rintro _ _ ⟨M21, fM21_0, rfl, rfl⟩; simp only [hp_next] at fM21_0
            try simp -dsimp -implicitDefEqProofs (maxDischargeDepth := 6) [e0, gs_W0, List.set_set, hp_over_some, hp_over_none]
            exact hK _ _ ⟨M21, (by omega), rfl, rfl⟩
           rintro a σ ⟨M21, fM21_0, rfl, rfl⟩
           refine AWP_cond (ieq r22.1 0) rfl (fun C8 => ?_) (fun C8 => ?_)
           ·
            replace H := ifT C8 H
            refine Sx tok [] [4] (by
             intro K k
             have e0 := nQ w0 N0
             simp -dsimp -implicitDefEqProofs (maxDischargeDepth := 6) [e0, gs_W0, List.set_set]
             exact k) ?_
            replace H := oi H; subst H
            refine Kp [4] ?_
            have z7 := nQ w0 N0
            refine AWP_ret ?_
            refine ⟨[.agg [.int .i64 8, .int .i64 0, .int .i64 0, .int .i64 0, .int .i64 0]], by simp [z7, gs_W0], (fun o => [N0].contains o), M21 + 2, by omega, ?_, ?_⟩
            ·
             simp [encL_nil, z7, gs_W0]
            ·
             rw [cutD (L' := [(w0, some ⟨96, 2, W0.set r0_ [.fsl (encL rI_u8 r22.2.b), .int .i64 r22.2.p]⟩)]) (by simp [z7, gs_W0])]
             first | done | rfl | simp [List.set_set]
           ·
            replace H := ifF C8 H
            refine AWP_skip (Jn hK2 ?_)
            obtain ⟨r23, hr23, H⟩ := bindE H
            refine AWP_sr tok [] [4] (fun a σ => ∃ M22 : Nat, M21 + 4 ≤ M22 ∧ a = [(4, .ptr N0 0 0)] ∧ σ = hp E0 [(w0, some ⟨96, 2, W0.set r0_ [.fsl (encL rI_u8 r23.2.b), .int .i64 r23.2.p]⟩), (N0, some ⟨43, 5, [[.int .i64 9, .int .i64 0, .int .i64 r23.1, .int .i64 0, .int .i64 0]]⟩)] M22) (fun K hK => ?_) ?_
            ·
             have e0 := nQ w0 N0
             simp -dsimp -implicitDefEqProofs (maxDischargeDepth := 6) [e0, gs_W0, List.set_set]
             refine (c102 (W0 := W0.set r0_ [.fsl (encL rI_u8 r22.2.b), .int .i64 r22.2.p]) (r0_ := r0_) (H := hr23) (by simp [e0, gs_W0, List.set_set]) (by simp [e0, gs_W0, List.set_set])).mono ?_; rintro _ _ ⟨M22, fM22_0, rfl, rfl⟩; simp only [hp_next] at fM22_0
             try simp -dsimp -implicitDefEqProofs (maxDischargeDepth := 6) [e0, gs_W0, List.set_set, hp_over_some, hp_over_none]
             exact hK _ _ ⟨M22, (by omega), rfl, rfl⟩
            rintro a σ ⟨M22, fM22_0, rfl, rfl⟩
            replace H := oi H; subst H
            refine Kp [4] ?_
            have z8 := nQ w0 N0
            refine AWP_ret ?_
            refine ⟨[.agg [.int .i64 9, .int .i64 0, .int .i64 r23.1, .int .i64 0, .int .i64 0]], by simp [z8, gs_W0], (fun o => [N0].contains o), M22, by omega, ?_, ?_⟩
            ·
             simp [encL_nil, z8, gs_W0]
            ·
             rw [cutD (L' := [(w0, some ⟨96, 2, W0.set r0_ [.fsl (encL rI_u8 r23.2.b), .int .i64 r23.2.p]⟩)]) (by simp [z8, gs_W0])]
             first | done | rfl | simp [List.set_set]
     replace H := hj3
     refine Sx tok [] [0, 1, 4, 13, 36] (by
      intro K k
      have e0 := nQ w0 N0
      simp -dsimp -implicitDefEqProofs (maxDischargeDepth := 6) [e0, gs_W0, List.set_set]
      exact k) ?_
     refine AWP_cond (ieq r1.1 4) rfl (fun C9 => ?_) (fun C9 => ?_)
     ·
      replace H := ifT C9 H
      refine AWP_skip ?_
      show K3 _ _
      refine kE [0, 1, 4, 13, 36] fun a' ha => ?_
      replace H := oi H; subst H
      refine hJ3 _ _ ?_; rw [ha]
      exact Rc.fin (AHeap.Sub.refl _) ⟨M6 + 2, (by omega), (by omega), rfl, rfl⟩
     ·
      replace H := ifF C9 H
      refine Sx tok [] [0, 1, 4, 13, 36] (by
       intro K k
       have e0 := nQ w0 N0
       simp -dsimp -implicitDefEqProofs (maxDischargeDepth := 6) [e0, gs_W0, List.set_set]
       exact k) ?_
      refine AWP_cond (ieq r1.1 5) rfl (fun C10 => ?_) (fun C10 => ?_)
      ·
       replace H := ifT C10 H
       refine AWP_skip ?_
       show K3 _ _
       refine kE [0, 1, 4, 13, 36] fun a' ha => ?_
       replace H := oi H; subst H
       refine hJ3 _ _ ?_; rw [ha]
       exact Rc.fin (AHeap.Sub.refl _) ⟨M6 + 4, (by omega), (by omega), rfl, rfl⟩
      ·
       replace H := ifF C10 H
       refine AWP_rt tok [] [0, 1, 4, 13, 36] (fun a σ => a = [(0, .ptr w0 r0_ 0), (1, .int .i64 p1), (4, .ptr N0 0 0), (13, .int .i64 r1.1), (36, .bool (ieq r1.1 6))] ∧ σ = hp E0 [(w0, some ⟨96, 2, W0.set r0_ [.fsl (encL rI_u8 r1.2.b), .int .i64 r1.2.p]⟩), (N0, some ⟨43, 5, [[.int .i64 0, .int .i64 0, .int .i64 0, .int .i64 0, .int .i64 0]]⟩)] (M6 + 6)) (fun K hK => ?_) ?_
       ·
        have e0 := nQ w0 N0
        simp -dsimp -implicitDefEqProofs (maxDischargeDepth := 6) [e0, gs_W0, List.set_set]
        exact hK _ _ ⟨rfl, rfl⟩
       rintro a σ ⟨ha, rfl⟩
       replace H := oi H; subst H
       refine hJ3 _ _ ?_; rw [ha]
       exact Rc.fin (AHeap.Sub.refl _) ⟨M6 + 6, (by omega), (by omega), rfl, rfl⟩
   replace H := hj2
   refine Sx tok [] [0, 1, 4, 13, 27] (by
    intro K k
    have e0 := nQ w0 N0
    simp -dsimp -implicitDefEqProofs (maxDischargeDepth := 6) [e0, gs_W0, List.set_set]
    exact k) ?_
   refine AWP_cond (ieq r1.1 2) rfl (fun C11 => ?_) (fun C11 => ?_)
   ·
    replace H := ifT C11 H
    refine AWP_skip ?_
    show K4 _ _
    refine kE [0, 1, 4, 13, 27] fun a' ha => ?_
    replace H := oi H; subst H
    refine hJ2 _ _ ?_; rw [ha]
    exact Rc.fin (AHeap.Sub.refl _) ⟨M2 + 2, (by omega), (by omega), rfl, rfl⟩
   ·
    replace H := ifF C11 H
    refine AWP_rt tok [] [0, 1, 4, 13, 27] (fun a σ => a = [(0, .ptr w0 r0_ 0), (1, .int .i64 p1), (4, .ptr N0 0 0), (13, .int .i64 r1.1), (27, .bool (ieq r1.1 3))] ∧ σ = hp E0 [(w0, some ⟨96, 2, W0.set r0_ [.fsl (encL rI_u8 r1.2.b), .int .i64 r1.2.p]⟩), (N0, some ⟨43, 5, [[.int .i64 0, .int .i64 0, .int .i64 0, .int .i64 0, .int .i64 0]]⟩)] (M2 + 4)) (fun K hK => ?_) ?_
    ·
     have e0 := nQ w0 N0
     simp -dsimp -implicitDefEqProofs (maxDischargeDepth := 6) [e0, gs_W0, List.set_set]
     exact hK _ _ ⟨rfl, rfl⟩
    rintro a σ ⟨ha, rfl⟩
    replace H := oi H; subst H
    refine hJ2 _ _ ?_; rw [ha]
    exact Rc.fin (AHeap.Sub.refl _) ⟨M2 + 4, (by omega), (by omega), rfl, rfl⟩
 replace H := hj1
 refine Sx tok [] [0, 1, 4, 13, 14] (by
  intro K k
  have e0 := nQ w0 N0
  simp -dsimp -implicitDefEqProofs (maxDischargeDepth := 6) [e0, gs_W0, List.set_set]
  exact k) ?_
 refine AWP_cond (ieq r1.1 0) rfl (fun C12 => ?_) (fun C12 => ?_)
 ·
  replace H := ifT C12 H
  refine AWP_skip ?_
  show K5 _ _
  refine kE [0, 1, 4, 13, 14] fun a' ha => ?_
  replace H := oi H; subst H
  refine hJ1 _ _ ?_; rw [ha]
  exact Rc.fin (AHeap.Sub.refl _) ⟨M1 + 2, (by omega), (by omega), rfl, rfl⟩
 ·
  replace H := ifF C12 H
  refine AWP_rt tok [] [0, 1, 4, 13, 14] (fun a σ => a = [(0, .ptr w0 r0_ 0), (1, .int .i64 p1), (4, .ptr N0 0 0), (13, .int .i64 r1.1), (14, .bool (ieq r1.1 1))] ∧ σ = hp E0 [(w0, some ⟨96, 2, W0.set r0_ [.fsl (encL rI_u8 r1.2.b), .int .i64 r1.2.p]⟩), (N0, some ⟨43, 5, [[.int .i64 0, .int .i64 0, .int .i64 0, .int .i64 0, .int .i64 0]]⟩)] (M1 + 4)) (fun K hK => ?_) ?_
  ·
   have e0 := nQ w0 N0
   simp -dsimp -implicitDefEqProofs (maxDischargeDepth := 6) [e0, gs_W0, List.set_set]
   exact hK _ _ ⟨rfl, rfl⟩
  rintro a σ ⟨ha, rfl⟩
  replace H := oi H; subst H
  refine hJ1 _ _ ?_; rw [ha]
  exact Rc.fin (AHeap.Sub.refl _) ⟨M1 + 4, (by omega), (by omega), rfl, rfl⟩
theorem c44 {p0 : gL6Rd} {r : gQuad × gL6Rd} (H : s_l93Wrong p0 = some r) {σ : AHeap} {w0 : Nat} {W0 : List (List AV)} {r0_ : Nat} (q0 : σ.objs w0 = some ⟨96, 2, W0⟩) (g0 : W0[r0_]? = some [.fsl (encL rI_u8 p0.b), .int .i64 p0.p]) : ACalls Tryd.prog G 44 [.ptr w0 r0_ 0] σ (fun v σ' => ∃ M : Nat, σ.next ≤ M ∧ v = .agg [.int .i64 r.1.Op, .int .i64 r.1.Dst, .int .i64 r.1.A, .int .i64 r.1.B, .int .i64 r.1.N] ∧ σ' = hp σ.objs [(w0, some ⟨96, 2, W0.set r0_ [.fsl (encL rI_u8 r.2.b), .int .i64 r.2.p]⟩)] M) := by
 refine ACalls_fr (L := [(w0, some ⟨96, 2, W0⟩)]) (Q1 := fun v σ' => ∃ M : Nat, σ.next ≤ M ∧ v = .agg [.int .i64 r.1.Op, .int .i64 r.1.Dst, .int .i64 r.1.A, .int .i64 r.1.B, .int .i64 r.1.N] ∧ σ' = hp E0 [(w0, some ⟨96, 2, W0.set r0_ [.fsl (encL rI_u8 r.2.b), .int .i64 r.2.p]⟩)] M) (by simp [q0]) (fun hlt => ?_) ?_ ⟨_, Tryd.func44, rfl, rfl⟩
 rotate_left
 ·
  rintro v σ1 ⟨M, h0, rfl, rfl⟩
  exact ⟨_, M, rfl, by simp, by simp; try omega, M, h0, rfl, rfl⟩
 generalize σ.next = N0 at hlt ⊢
 have lw0 : w0 < N0 := hlt _ (.head _) rfl
 have gs_W0 : ∀ x, (W0.set r0_ x)[r0_]? = some x := gsetW g0
 rw [show W0 = W0.set r0_ [.fsl (encL rI_u8 p0.b), .int .i64 p0.p] from (set_same g0).symm]
 refine ACalls_thaw 4 ?_
 refine ACalls_fn tok Tryd.func44 (by kernel_rfl) rfl Tryd.ntmps44 Tryd.results44 rfl ?_
 simp only [argsA, Nat.reduceAdd, hp_next]
 unfold s_l93Wrong at H
 refine Sx tok [] [0, 2] (by
  intro K k
  have e0 := nQ w0 N0
  simp -dsimp -implicitDefEqProofs (maxDischargeDepth := 6) [e0, gs_W0, List.set_set]
  exact k) ?_
 obtain ⟨r1, hr1, H⟩ := bindE H
 refine AWP_sr tok [] [0, 2, 3] (fun a σ => ∃ M1 : Nat, N0 + 5 ≤ M1 ∧ a = [(0, .ptr w0 r0_ 0), (2, .ptr N0 0 0), (3, .ptr (N0 + 3) 0 0)] ∧ σ = hp E0 [(w0, some ⟨96, 2, W0.set r0_ [.fsl (encL rI_u8 r1.2.b), .int .i64 r1.2.p]⟩), (N0, some ⟨43, 5, [[.int .i64 0, .int .i64 0, .int .i64 0, .int .i64 0, .int .i64 0]]⟩), (N0 + 3, some ⟨43, 5, [[.int .i64 r1.1.Op, .int .i64 r1.1.Dst, .int .i64 r1.1.A, .int .i64 r1.1.B, .int .i64 r1.1.N]]⟩)] M1) (fun K hK => ?_) ?_
 ·
  have e0 := nQ w0 N0
  have e1 := nQ w0 (N0 + 3)
  simp -dsimp -implicitDefEqProofs (maxDischargeDepth := 6) [e0, e1, gs_W0, List.set_set]
  refine (c63 (W0 := W0.set r0_ [.fsl (encL rI_u8 p0.b), .int .i64 p0.p]) (r0_ := r0_) (H := hr1) (by simp [e0, e1, gs_W0, List.set_set]) (by simp [e0, e1, gs_W0, List.set_set])).mono ?_; rintro _ _ ⟨M1, fM1_0, rfl, rfl⟩; simp only [hp_next] at fM1_0
  try simp -dsimp -implicitDefEqProofs (maxDischargeDepth := 6) [e0, e1, gs_W0, List.set_set, hp_over_some, hp_over_none]
  exact hK _ _ ⟨M1, (by omega), rfl, rfl⟩
 rintro a σ ⟨M1, fM1_0, rfl, rfl⟩
 obtain ⟨j1, hj1, H⟩ := bindE H
 refine AWP_seq (AWP_named fun K2 hK2 => ?_)
 have hJ1 : ∀ a σ, Rc G 30 N0 (fun a σ => ∃ M2 : Nat, N0 ≤ M2 ∧ N0 < M2 ∧ N0 + 3 < M2 ∧ a = [(0, .ptr w0 r0_ 0), (2, .ptr N0 0 0), (3, .ptr (N0 + 3) 0 0)] ∧ σ = hp E0 [(w0, some ⟨96, 2, W0.set r0_ [.fsl (encL rI_u8 j1.1.b), .int .i64 j1.1.p]⟩), (N0, some ⟨43, 5, [[.int .i64 0, .int .i64 0, .int .i64 0, .int .i64 0, .int .i64 0]]⟩), (N0 + 3, some ⟨43, 5, [[.int .i64 j1.2.Op, .int .i64 j1.2.Dst, .int .i64 j1.2.A, .int .i64 j1.2.B, .int .i64 j1.2.N]]⟩)] M2) (a.keep [0, 2, 3]) σ → K2 a σ := by
  rintro a σ ⟨b, τ, hr, M2, fM2_0, fM2_1, fM2_2, rfl, rfl⟩
  refine hK2 _ _ (AWP_keep [0, 2, 3] (AWP_ref hr ?_))
  refine AWP_sq [2, 3] fun K1 hK1 => ?_
  obtain ⟨r4, hr4, H⟩ := bindE H
  refine AWP_sr tok [] [0, 2, 3, 11] (fun a σ => ∃ M3 : Nat, M2 + 2 ≤ M3 ∧ a = [(0, .ptr w0 r0_ 0), (2, .ptr N0 0 0), (3, .ptr (N0 + 3) 0 0), (11, .int .i64 r4.1)] ∧ σ = hp E0 [(w0, some ⟨96, 2, W0.set r0_ [.fsl (encL rI_u8 r4.2.b), .int .i64 r4.2.p]⟩), (N0, some ⟨43, 5, [[.int .i64 0, .int .i64 0, .int .i64 0, .int .i64 0, .int .i64 0]]⟩), (N0 + 3, some ⟨43, 5, [[.int .i64 j1.2.Op, .int .i64 j1.2.Dst, .int .i64 j1.2.A, .int .i64 j1.2.B, .int .i64 j1.2.N]]⟩)] M3) (fun K hK => ?_) ?_
  ·
   have e0 := nQ w0 N0
   have e1 := nQ w0 (N0 + 3)
   simp -dsimp -implicitDefEqProofs (maxDischargeDepth := 6) [e0, e1, gs_W0, List.set_set]
   refine (c45 (W0 := W0.set r0_ [.fsl (encL rI_u8 j1.1.b), .int .i64 j1.1.p]) (r0_ := r0_) (H := hr4) (by simp [e0, e1, gs_W0, List.set_set]) (by simp [e0, e1, gs_W0, List.set_set])).mono ?_; rintro _ _ ⟨M3, fM3_0, rfl, rfl⟩; simp only [hp_next] at fM3_0
   try simp -dsimp -implicitDefEqProofs (maxDischargeDepth := 6) [e0, e1, gs_W0, List.set_set, hp_over_some, hp_over_none]
   exact hK _ _ ⟨M3, (by omega), rfl, rfl⟩
  rintro a σ ⟨M3, fM3_0, rfl, rfl⟩
  refine AWP_block (AWP_thenB ?_)
  refine Sx tok [] [0, 2, 3, 11, 12] (by
   intro K k
   have e0 := nQ w0 N0
   have e1 := nQ w0 (N0 + 3)
   simp -dsimp -implicitDefEqProofs (maxDischargeDepth := 6) [e0, e1, gs_W0, List.set_set]
   exact k) ?_
  refine AWP_cond (ieq r4.1 0) rfl (fun C1 => ?_) (fun C1 => ?_)
  ·
   replace H := ifT C1 H
   refine AWP_rt tok [] [2, 3] (fun a σ => a = [(2, .ptr N0 0 0), (3, .ptr (N0 + 3) 0 0)] ∧ σ = hp E0 [(w0, some ⟨96, 2, W0.set r0_ [.fsl (encL rI_u8 r4.2.b), .int .i64 r4.2.p]⟩), (N0, some ⟨43, 5, [[.int .i64 0, .int .i64 0, .int .i64 0, .int .i64 0, .int .i64 0]]⟩), (N0 + 3, some ⟨43, 5, [[.int .i64 j1.2.Op, .int .i64 j1.2.Dst, .int .i64 12, .int .i64 j1.2.B, .int .i64 j1.2.N]]⟩)] (M3 + 4)) (fun K hK => ?_) ?_
   ·
    have e0 := nQ w0 N0
    have e1 := nQ w0 (N0 + 3)
    simp -dsimp -implicitDefEqProofs (maxDischargeDepth := 6) [e0, e1, gs_W0, List.set_set]
    exact hK _ _ ⟨rfl, rfl⟩
   rintro a σ ⟨ha, rfl⟩
   refine hK1 _ _ ?_; rw [ha]
   refine Rc.mk ?_
   refine Sx tok [] [2] (by
    intro K k
    have e0 := nQ w0 N0
    have e1 := nQ w0 (N0 + 3)
    simp -dsimp -implicitDefEqProofs (maxDischargeDepth := 6) [e0, e1, gs_W0, List.set_set]
    exact k) ?_
   replace H := oi H; subst H
   refine Kp [2] ?_
   have z0 := nQ w0 N0
   have z1 := nQ w0 (N0 + 3)
   refine gDrop AWP_ref [(w0, some ⟨96, 2, W0.set r0_ [.fsl (encL rI_u8 r4.2.b), .int .i64 r4.2.p]⟩), (N0, some ⟨43, 5, [[.int .i64 j1.2.Op, .int .i64 j1.2.Dst, .int .i64 12, .int .i64 j1.2.B, .int .i64 j1.2.N]]⟩)] (hp_skip (hp_skip (AHeap.Sub.trans (AHeap.Sub.refl _) (hp_drop rfl (by simp; try omega))))) ?_
   refine AWP_ret ?_
   refine ⟨[.agg [.int .i64 j1.2.Op, .int .i64 j1.2.Dst, .int .i64 12, .int .i64 j1.2.B, .int .i64 j1.2.N]], by simp [z0, z1, gs_W0], (fun o => [N0].contains o), M3 + 6, by omega, ?_, ?_⟩
   ·
    simp [encL_nil, z0, z1, gs_W0]
   ·
    rw [cutD (L' := [(w0, some ⟨96, 2, W0.set r0_ [.fsl (encL rI_u8 r4.2.b), .int .i64 r4.2.p]⟩)]) (by simp [z0, z1, gs_W0])]
    first | done | rfl | simp [List.set_set]
  ·
   replace H := ifF C1 H
   refine Sx tok [] [0, 2, 3, 11, 15] (by
    intro K k
    have e0 := nQ w0 N0
    have e1 := nQ w0 (N0 + 3)
    simp -dsimp -implicitDefEqProofs (maxDischargeDepth := 6) [e0, e1, gs_W0, List.set_set]
    exact k) ?_
   refine AWP_cond (ieq r4.1 1) rfl (fun C2 => ?_) (fun C2 => ?_)
   ·
    replace H := ifT C2 H
    refine AWP_rt tok [] [2, 3] (fun a σ => a = [(2, .ptr N0 0 0), (3, .ptr (N0 + 3) 0 0)] ∧ σ = hp E0 [(w0, some ⟨96, 2, W0.set r0_ [.fsl (encL rI_u8 r4.2.b), .int .i64 r4.2.p]⟩), (N0, some ⟨43, 5, [[.int .i64 0, .int .i64 0, .int .i64 0, .int .i64 0, .int .i64 0]]⟩), (N0 + 3, some ⟨43, 5, [[.int .i64 j1.2.Op, .int .i64 j1.2.Dst, .int .i64 j1.2.A, .int .i64 1, .int .i64 j1.2.N]]⟩)] (M3 + 6)) (fun K hK => ?_) ?_
    ·
     have e0 := nQ w0 N0
     have e1 := nQ w0 (N0 + 3)
     simp -dsimp -implicitDefEqProofs (maxDischargeDepth := 6) [e0, e1, gs_W0, List.set_set]
     exact hK _ _ ⟨rfl, rfl⟩
    rintro a σ ⟨ha, rfl⟩
    refine hK1 _ _ ?_; rw [ha]
    refine Rc.mk ?_
    refine Sx tok [] [2] (by
     intro K k
     have e0 := nQ w0 N0
     have e1 := nQ w0 (N0 + 3)
     simp -dsimp -implicitDefEqProofs (maxDischargeDepth := 6) [e0, e1, gs_W0, List.set_set]
     exact k) ?_
    replace H := oi H; subst H
    refine Kp [2] ?_
    have z2 := nQ w0 N0
    have z3 := nQ w0 (N0 + 3)
    refine gDrop AWP_ref [(w0, some ⟨96, 2, W0.set r0_ [.fsl (encL rI_u8 r4.2.b), .int .i64 r4.2.p]⟩), (N0, some ⟨43, 5, [[.int .i64 j1.2.Op, .int .i64 j1.2.Dst, .int .i64 j1.2.A, .int .i64 1, .int .i64 j1.2.N]]⟩)] (hp_skip (hp_skip (AHeap.Sub.trans (AHeap.Sub.refl _) (hp_drop rfl (by simp; try omega))))) ?_
    refine AWP_ret ?_
    refine ⟨[.agg [.int .i64 j1.2.Op, .int .i64 j1.2.Dst, .int .i64 j1.2.A, .int .i64 1, .int .i64 j1.2.N]], by simp [z2, z3, gs_W0], (fun o => [N0].contains o), M3 + 8, by omega, ?_, ?_⟩
    ·
     simp [encL_nil, z2, z3, gs_W0]
    ·
     rw [cutD (L' := [(w0, some ⟨96, 2, W0.set r0_ [.fsl (encL rI_u8 r4.2.b), .int .i64 r4.2.p]⟩)]) (by simp [z2, z3, gs_W0])]
     first | done | rfl | simp [List.set_set]
   ·
    replace H := ifF C2 H
    refine Sx tok [] [0, 2, 3, 11, 18] (by
     intro K k
     have e0 := nQ w0 N0
     have e1 := nQ w0 (N0 + 3)
     simp -dsimp -implicitDefEqProofs (maxDischargeDepth := 6) [e0, e1, gs_W0, List.set_set]
     exact k) ?_
    refine AWP_cond (ieq r4.1 2) rfl (fun C3 => ?_) (fun C3 => ?_)
    ·
     replace H := ifT C3 H
     obtain ⟨r5, hr5, H⟩ := bindE H
     obtain ⟨v6, hv6, H⟩ := bindE H
     have q0 : ∀ σ i, buildSliceA T 22 true i 2 [(0, .int .i64 0), (1, .int .i64 11)] σ = some (.fsl (encL rI ([0, 11] : List Int)), σ) := fun _ _ => rfl
     refine AWP_rt tok [0] [2, 3] (fun a σ => ∃ M4 : Nat, M3 + 13 ≤ M4 ∧ a = [(2, .ptr N0 0 0), (3, .ptr (N0 + 3) 0 0)] ∧ σ = hp E0 [(w0, some ⟨96, 2, W0.set r0_ [.fsl (encL rI_u8 r5.2.b), .int .i64 r5.2.p]⟩), (N0, some ⟨43, 5, [[.int .i64 0, .int .i64 0, .int .i64 0, .int .i64 0, .int .i64 0]]⟩), (N0 + 3, some ⟨43, 5, [[.int .i64 v6, .int .i64 j1.2.Dst, .int .i64 j1.2.A, .int .i64 j1.2.B, .int .i64 j1.2.N]]⟩)] M4) (fun K hK => ?_) ?_
     ·
      have e0 := nQ w0 N0
      have e1 := nQ w0 (N0 + 3)
      simp -dsimp -implicitDefEqProofs (maxDischargeDepth := 6) [e0, e1, gs_W0, List.set_set, q0, ix22 hv6]
      refine (c45 (W0 := W0.set r0_ [.fsl (encL rI_u8 r4.2.b), .int .i64 r4.2.p]) (r0_ := r0_) (H := hr5) (by simp [e0, e1, gs_W0, List.set_set, q0, ix22 hv6]) (by simp [e0, e1, gs_W0, List.set_set, q0, ix22 hv6])).mono ?_; rintro _ _ ⟨M4, fM4_0, rfl, rfl⟩; simp only [hp_next] at fM4_0
      try simp -dsimp -implicitDefEqProofs (maxDischargeDepth := 6) [e0, e1, gs_W0, List.set_set, q0, ix22 hv6, hp_over_some, hp_over_none]
      exact hK _ _ ⟨M4, (by omega), rfl, rfl⟩
     rintro a σ ⟨M4, fM4_0, ha, rfl⟩
     refine hK1 _ _ ?_; rw [ha]
     refine Rc.mk ?_
     refine Sx tok [] [2] (by
      intro K k
      have e0 := nQ w0 N0
      have e1 := nQ w0 (N0 + 3)
      simp -dsimp -implicitDefEqProofs (maxDischargeDepth := 6) [e0, e1, gs_W0, List.set_set]
      exact k) ?_
     replace H := oi H; subst H
     refine Kp [2] ?_
     have z4 := nQ w0 N0
     have z5 := nQ w0 (N0 + 3)
     refine gDrop AWP_ref [(w0, some ⟨96, 2, W0.set r0_ [.fsl (encL rI_u8 r5.2.b), .int .i64 r5.2.p]⟩), (N0, some ⟨43, 5, [[.int .i64 v6, .int .i64 j1.2.Dst, .int .i64 j1.2.A, .int .i64 j1.2.B, .int .i64 j1.2.N]]⟩)] (hp_skip (hp_skip (AHeap.Sub.trans (AHeap.Sub.refl _) (hp_drop rfl (by simp; try omega))))) ?_
     refine AWP_ret ?_
     refine ⟨[.agg [.int .i64 v6, .int .i64 j1.2.Dst, .int .i64 j1.2.A, .int .i64 j1.2.B, .int .i64 j1.2.N]], by simp [z4, z5, gs_W0], (fun o => [N0].contains o), M4 + 2, by omega, ?_, ?_⟩
     ·
      simp [encL_nil, z4, z5, gs_W0]
     ·
      rw [cutD (L' := [(w0, some ⟨96, 2, W0.set r0_ [.fsl (encL rI_u8 r5.2.b), .int .i64 r5.2.p]⟩)]) (by simp [z4, z5, gs_W0])]
      first | done | rfl | simp [List.set_set]
    ·
     replace H := ifF C3 H
     refine Sx tok [] [2, 3, 26] (by
      intro K k
      have e0 := nQ w0 N0
      have e1 := nQ w0 (N0 + 3)
      simp -dsimp -implicitDefEqProofs (maxDischargeDepth := 6) [e0, e1, gs_W0, List.set_set]
      exact k) ?_
     refine AWP_cond (ieq r4.1 3) rfl (fun C4 => ?_) (fun C4 => ?_)
     ·
      replace H := ifT C4 H
      refine AWP_rt tok [] [2, 3] (fun a σ => a = [(2, .ptr N0 0 0), (3, .ptr (N0 + 3) 0 0)] ∧ σ = hp E0 [(w0, some ⟨96, 2, W0.set r0_ [.fsl (encL rI_u8 r4.2.b), .int .i64 r4.2.p]⟩), (N0, some ⟨43, 5, [[.int .i64 0, .int .i64 0, .int .i64 0, .int .i64 0, .int .i64 0]]⟩), (N0 + 3, some ⟨43, 5, [[.int .i64 j1.2.Op, .int .i64 j1.2.Dst, .int .i64 j1.2.A, .int .i64 j1.2.B, .int .i64 600]]⟩)] (M3 + 10)) (fun K hK => ?_) ?_
      ·
       have e0 := nQ w0 N0
       have e1 := nQ w0 (N0 + 3)
       simp -dsimp -implicitDefEqProofs (maxDischargeDepth := 6) [e0, e1, gs_W0, List.set_set]
       exact hK _ _ ⟨rfl, rfl⟩
      rintro a σ ⟨ha, rfl⟩
      refine hK1 _ _ ?_; rw [ha]
      refine Rc.mk ?_
      refine Sx tok [] [2] (by
       intro K k
       have e0 := nQ w0 N0
       have e1 := nQ w0 (N0 + 3)
       simp -dsimp -implicitDefEqProofs (maxDischargeDepth := 6) [e0, e1, gs_W0, List.set_set]
       exact k) ?_
      replace H := oi H; subst H
      refine Kp [2] ?_
      have z6 := nQ w0 N0
      have z7 := nQ w0 (N0 + 3)
      refine gDrop AWP_ref [(w0, some ⟨96, 2, W0.set r0_ [.fsl (encL rI_u8 r4.2.b), .int .i64 r4.2.p]⟩), (N0, some ⟨43, 5, [[.int .i64 j1.2.Op, .int .i64 j1.2.Dst, .int .i64 j1.2.A, .int .i64 j1.2.B, .int .i64 600]]⟩)] (hp_skip (hp_skip (AHeap.Sub.trans (AHeap.Sub.refl _) (hp_drop rfl (by simp; try omega))))) ?_
      refine AWP_ret ?_
      refine ⟨[.agg [.int .i64 j1.2.Op, .int .i64 j1.2.Dst, .int .i64 j1.2.A, .int .i64 j1.2.B, .int .i64 600]], by simp [z6, z7, gs_W0], (fun o => [N0].contains o), M3 + 12, by omega, ?_, ?_⟩
      ·
       simp [encL_nil, z6, z7, gs_W0]
      ·
       rw [cutD (L' := [(w0, some ⟨96, 2, W0.set r0_ [.fsl (encL rI_u8 r4.2.b), .int .i64 r4.2.p]⟩)]) (by simp [z6, z7, gs_W0])]
       first | done | rfl | simp [List.set_set]
     ·
      replace H := ifF C4 H
      refine AWP_skip (Jn hK1 ?_)
      refine Sx tok [] [2] (by
       intro K k
       have e0 := nQ w0 N0
       have e1 := nQ w0 (N0 + 3)
       simp -dsimp -implicitDefEqProofs (maxDischargeDepth := 6) [e0, e1, gs_W0, List.set_set]
       exact k) ?_
      replace H := oi H; subst H
      refine Kp [2] ?_
      have z8 := nQ w0 N0
      have z9 := nQ w0 (N0 + 3)
      refine gDrop AWP_ref [(w0, some ⟨96, 2, W0.set r0_ [.fsl (encL rI_u8 r4.2.b), .int .i64 r4.2.p]⟩), (N0, some ⟨43, 5, [[.int .i64 j1.2.Op, .int .i64 j1.2.Dst, .int .i64 j1.2.A, .int .i64 j1.2.B, .int .i64 j1.2.N]]⟩)] (hp_skip (hp_skip (AHeap.Sub.trans (AHeap.Sub.refl _) (hp_drop rfl (by simp; try omega))))) ?_
      refine AWP_ret ?_
      refine ⟨[.agg [.int .i64 j1.2.Op, .int .i64 j1.2.Dst, .int .i64 j1.2.A, .int .i64 j1.2.B, .int .i64 j1.2.N]], by simp [z8, z9, gs_W0], (fun o => [N0].contains o), M3 + 10, by omega, ?_, ?_⟩
      ·
       simp [encL_nil, z8, z9, gs_W0]
      ·
       rw [cutD (L' := [(w0, some ⟨96, 2, W0.set r0_ [.fsl (encL rI_u8 r4.2.b), .int .i64 r4.2.p]⟩)]) (by simp [z8, z9, gs_W0])]
       first | done | rfl | simp [List.set_set]
 replace H := hj1
 obtain ⟨r7, hr7, H⟩ := bindE H
 refine AWP_sr tok [] [0, 2, 3, 8] (fun a σ => ∃ M5 : Nat, M1 + 3 ≤ M5 ∧ a = [(0, .ptr w0 r0_ 0), (2, .ptr N0 0 0), (3, .ptr (N0 + 3) 0 0), (8, .bool (ieq r7.1 0))] ∧ σ = hp E0 [(w0, some ⟨96, 2, W0.set r0_ [.fsl (encL rI_u8 r7.2.b), .int .i64 r7.2.p]⟩), (N0, some ⟨43, 5, [[.int .i64 0, .int .i64 0, .int .i64 0, .int .i64 0, .int .i64 0]]⟩), (N0 + 3, some ⟨43, 5, [[.int .i64 r1.1.Op, .int .i64 r1.1.Dst, .int .i64 r1.1.A, .int .i64 r1.1.B, .int .i64 r1.1.N]]⟩)] M5) (fun K hK => ?_) ?_
 ·
  have e0 := nQ w0 N0
  have e1 := nQ w0 (N0 + 3)
  simp -dsimp -implicitDefEqProofs (maxDischargeDepth := 6) [e0, e1, gs_W0, List.set_set]
  refine (c45 (W0 := W0.set r0_ [.fsl (encL rI_u8 r1.2.b), .int .i64 r1.2.p]) (r0_ := r0_) (H := hr7) (by simp [e0, e1, gs_W0, List.set_set]) (by simp [e0, e1, gs_W0, List.set_set])).mono ?_; rintro _ _ ⟨M5, fM5_0, rfl, rfl⟩; simp only [hp_next] at fM5_0
  try simp -dsimp -implicitDefEqProofs (maxDischargeDepth := 6) [e0, e1, gs_W0, List.set_set, hp_over_some, hp_over_none]
  exact hK _ _ ⟨M5, (by omega), rfl, rfl⟩
 rintro a σ ⟨M5, fM5_0, rfl, rfl⟩
 refine AWP_cond (ieq r7.1 0) rfl (fun C5 => ?_) (fun C5 => ?_)
 ·
  replace H := ifT C5 H
  refine AWP_rt tok [] [0, 2, 3] (fun a σ => a = [(0, .ptr w0 r0_ 0), (2, .ptr N0 0 0), (3, .ptr (N0 + 3) 0 0)] ∧ σ = hp E0 [(w0, some ⟨96, 2, W0.set r0_ [.fsl (encL rI_u8 r7.2.b), .int .i64 r7.2.p]⟩), (N0, some ⟨43, 5, [[.int .i64 0, .int .i64 0, .int .i64 0, .int .i64 0, .int .i64 0]]⟩), (N0 + 3, some ⟨43, 5, [[.int .i64 10, .int .i64 0, .int .i64 0, .int .i64 0, .int .i64 0]]⟩)] (M5 + 2)) (fun K hK => ?_) ?_
  ·
   have e0 := nQ w0 N0
   have e1 := nQ w0 (N0 + 3)
   simp -dsimp -implicitDefEqProofs (maxDischargeDepth := 6) [e0, e1, gs_W0, List.set_set]
   exact hK _ _ ⟨rfl, rfl⟩
  rintro a σ ⟨ha, rfl⟩
  replace H := oi H; subst H
  refine hJ1 _ _ ?_; rw [ha]
  exact Rc.fin (AHeap.Sub.refl _) ⟨M5 + 2, (by omega), (by omega), (by omega), rfl, rfl⟩
 ·
  replace H := ifF C5 H
  refine AWP_skip ?_
  show K2 _ _
  refine kE [0, 2, 3] fun a' ha => ?_
  replace H := oi H; subst H
  refine hJ1 _ _ ?_; rw [ha]
  exact Rc.fin (AHeap.Sub.refl _) ⟨M5, (by omega), (by omega), (by omega), rfl, rfl⟩
theorem c17 {p0 : (List Int)} {r : gQuad × Int × Int} (H : s_DrawQuadInstrs p0 = some r) : APure Tryd.prog G 17 [.fsl (encL rI_u8 p0)] (.tup [.agg [.int .i64 r.1.Op, .int .i64 r.1.Dst, .int .i64 r.1.A, .int .i64 r.1.B, .int .i64 r.1.N], .int .i64 r.2.1, .int .i64 r.2.2]) := by
 refine APure_fn (fun N0 => ?_) (by simp)
 refine ACalls_fn tok Tryd.func17 (by kernel_rfl) rfl Tryd.ntmps17 Tryd.results17 rfl ?_
 simp only [argsA, Nat.reduceAdd, hp_next]
 unfold s_DrawQuadInstrs at H
 refine S0 tok [] [0, 2] ?_
 obtain ⟨r1, hr1, H⟩ := bindE H
 refine AWP_sr tok [] [2, 5] (fun a σ => ∃ M1 o1 : Nat, N0 + 6 ≤ M1 ∧ N0 + 6 ≤ o1 ∧ o1 < M1 ∧ a = [(2, .ptr N0 0 0), (5, .ptr o1 0 0)] ∧ σ = hp E0 [(N0, some ⟨43, 5, [[.int .i64 0, .int .i64 0, .int .i64 0, .int .i64 0, .int .i64 0]]⟩), (o1, some ⟨96, 2, [[.fsl (encL rI_u8 r1.b), .int .i64 r1.p]]⟩)] M1) (fun K hK => ?_) ?_
 ·
  simp -dsimp -implicitDefEqProofs (maxDischargeDepth := 6)
  refine (c43_o (H := hr1) ).mono ?_; rintro _ _ ⟨M1, o1, fM1_0, fM1_1, fM1_2, rfl, rfl⟩; simp only [hp_next] at fM1_0 fM1_1 fM1_2
  have eM1_0 := nQ o1 N0
  try simp -dsimp -implicitDefEqProofs (maxDischargeDepth := 6) [eM1_0, hp_over_some, hp_over_none]
  exact hK _ _ ⟨M1, o1, (by omega), (by omega), (by omega), rfl, rfl⟩
 rintro a σ ⟨M1, o1, fM1_0, fM1_1, fM1_2, rfl, rfl⟩
 obtain ⟨r2, hr2, H⟩ := bindE H
 refine AWP_sr tok [] [2, 5, 6] (fun a σ => ∃ M2 : Nat, M1 + 4 ≤ M2 ∧ a = [(2, .ptr N0 0 0), (5, .ptr o1 0 0), (6, .ptr (M1 + 2) 0 0)] ∧ σ = hp E0 [(N0, some ⟨43, 5, [[.int .i64 0, .int .i64 0, .int .i64 0, .int .i64 0, .int .i64 0]]⟩), (o1, some ⟨96, 2, [[.fsl (encL rI_u8 r2.2.b), .int .i64 r2.2.p]]⟩), (M1 + 2, some ⟨43, 5, [[.int .i64 r2.1.Op, .int .i64 r2.1.Dst, .int .i64 r2.1.A, .int .i64 r2.1.B, .int .i64 r2.1.N]]⟩)] M2) (fun K hK => ?_) ?_
 ·
  have e0 := nQ N0 o1
  have e1 := nQ N0 (M1 + 2)
  have e2 := nQ o1 (M1 + 2)
  simp -dsimp -implicitDefEqProofs (maxDischargeDepth := 6) [e0, e1, e2]
  refine (c44 (W0 := [[.fsl (encL rI_u8 r1.b), .int .i64 r1.p]]) (r0_ := 0) (H := hr2) (by simp [e0, e1, e2]) (by simp [e0, e1, e2])).mono ?_; rintro _ _ ⟨M2, fM2_0, rfl, rfl⟩; simp only [hp_next] at fM2_0
  try simp -dsimp -implicitDefEqProofs (maxDischargeDepth := 6) [e0, e1, e2, hp_over_some, hp_over_none]
  exact hK _ _ ⟨M2, (by omega), rfl, rfl⟩
 rintro a σ ⟨M2, fM2_0, rfl, rfl⟩
 obtain ⟨r3, hr3, H⟩ := bindE H
 refine AWP_sr tok [] [2, 5, 6, 7] (fun a σ => ∃ M3 : Nat, M2 + 4 ≤ M3 ∧ a = [(2, .ptr N0 0 0), (5, .ptr o1 0 0), (6, .ptr (M1 + 2) 0 0), (7, .int .i64 (iadd .i64 1 r3.1))] ∧ σ = hp E0 [(N0, some ⟨43, 5, [[.int .i64 0, .int .i64 0, .int .i64 0, .int .i64 0, .int .i64 0]]⟩), (o1, some ⟨96, 2, [[.fsl (encL rI_u8 r3.2.b), .int .i64 r3.2.p]]⟩), (M1 + 2, some ⟨43, 5, [[.int .i64 r2.1.Op, .int .i64 r2.1.Dst, .int .i64 r2.1.A, .int .i64 r2.1.B, .int .i64 r2.1.N]]⟩)] M3) (fun K hK => ?_) ?_
 ·
  have e0 := nQ N0 o1
  have e1 := nQ N0 (M1 + 2)
  have e2 := nQ o1 (M1 + 2)
  simp -dsimp -implicitDefEqProofs (maxDischargeDepth := 6) [e0, e1, e2]
  refine (c45 (W0 := [[.fsl (encL rI_u8 r2.2.b), .int .i64 r2.2.p]]) (r0_ := 0) (H := hr3) (by simp [e0, e1, e2]) (by simp [e0, e1, e2])).mono ?_; rintro _ _ ⟨M3, fM3_0, rfl, rfl⟩; simp only [hp_next] at fM3_0
  try simp -dsimp -implicitDefEqProofs (maxDischargeDepth := 6) [e0, e1, e2, hp_over_some, hp_over_none]
  exact hK _ _ ⟨M3, (by omega), rfl, rfl⟩
 rintro a σ ⟨M3, fM3_0, rfl, rfl⟩
 obtain ⟨r4, hr4, H⟩ := bindE H
 refine AWP_sr tok [] [2, 5, 6, 7, 8] (fun a σ => ∃ M4 : Nat, M3 + 5 ≤ M4 ∧ a = [(2, .ptr N0 0 0), (5, .ptr o1 0 0), (6, .ptr (M1 + 2) 0 0), (7, .int .i64 (iadd .i64 1 r3.1)), (8, .int .i64 (imul .i64 4 (isub .i64 r4.1 100)))] ∧ σ = hp E0 [(N0, some ⟨43, 5, [[.int .i64 0, .int .i64 0, .int .i64 0, .int .i64 0, .int .i64 0]]⟩), (o1, some ⟨96, 2, [[.fsl (encL rI_u8 r4.2.b), .int .i64 r4.2.p]]⟩), (M1 + 2, some ⟨43, 5, [[.int .i64 r2.1.Op, .int .i64 r2.1.Dst, .int .i64 r2.1.A, .int .i64 r2.1.B, .int .i64 r2.1.N]]⟩)] M4) (fun K hK => ?_) ?_
 ·
  have e0 := nQ N0 o1
  have e1 := nQ N0 (M1 + 2)
  have e2 := nQ o1 (M1 + 2)
  simp -dsimp -implicitDefEqProofs (maxDischargeDepth := 6) [e0, e1, e2]
  refine (c45 (W0 := [[.fsl (encL rI_u8 r3.2.b), .int .i64 r3.2.p]]) (r0_ := 0) (H := hr4) (by simp [e0, e1, e2]) (by simp [e0, e1, e2])).mono ?_; rintro _ _ ⟨M4, fM4_0, rfl, rfl⟩; simp only [hp_next] at fM4_0
  try simp -dsimp -implicitDefEqProofs (maxDischargeDepth := 6) [e0, e1, e2, hp_over_some, hp_over_none]
  exact hK _ _ ⟨M4, (by omega), rfl, rfl⟩
 rintro a σ ⟨M4, fM4_0, rfl, rfl⟩
 obtain ⟨j1, hj1, H⟩ := bindE H
 refine AWP_seq (AWP_named fun K1 hK1 => ?_)
 have hJ1 : ∀ a σ, Rc G 39 N0 (fun a σ => ∃ M5 : Nat, N0 ≤ M5 ∧ N0 < M5 ∧ M1 + 2 < M5 ∧ a = [(2, .ptr N0 0 0), (6, .ptr (M1 + 2) 0 0), (7, .int .i64 j1.1), (8, .int .i64 j1.2)] ∧ σ = hp E0 [(N0, some ⟨43, 5, [[.int .i64 0, .int .i64 0, .int .i64 0, .int .i64 0, .int .i64 0]]⟩), (M1 + 2, some ⟨43, 5, [[.int .i64 r2.1.Op, .int .i64 r2.1.Dst, .int .i64 r2.1.A, .int .i64 r2.1.B, .int .i64 r2.1.N]]⟩)] M5) (a.keep [2, 6, 7, 8]) σ → K1 a σ := by
  rintro a σ ⟨b, τ, hr, M5, fM5_0, fM5_1, fM5_2, rfl, rfl⟩
  refine hK1 _ _ (AWP_keep [2, 6, 7, 8] (AWP_ref hr ?_))
  refine Sx tok [] [2, 3, 4] (by
   intro K k
   have e0 := nQ N0 (M1 + 2)
   simp -dsimp -implicitDefEqProofs (maxDischargeDepth := 6) [e0]
   exact k) ?_
  replace H := oi H; subst H
  refine Kp [2, 3, 4] ?_
  have z0 := nQ N0 (M1 + 2)
  refine AWP_ret ?_
  exact ⟨[.agg [.int .i64 r2.1.Op, .int .i64 r2.1.Dst, .int .i64 r2.1.A, .int .i64 r2.1.B, .int .i64 r2.1.N], .int .i64 j1.1, .int .i64 j1.2], by simp [z0], 4, by simp [encL_nil, z0]⟩
 replace H := hj1
 obtain ⟨r7, hr7, H⟩ := bindE H
 refine AWP_sr tok [] [2, 5, 6, 7, 8, 21] (fun a σ => ∃ M6 : Nat, M4 + 2 ≤ M6 ∧ a = [(2, .ptr N0 0 0), (5, .ptr o1 0 0), (6, .ptr (M1 + 2) 0 0), (7, .int .i64 (iadd .i64 1 r3.1)), (8, .int .i64 (imul .i64 4 (isub .i64 r4.1 100))), (21, .int .i64 r7.1)] ∧ σ = hp E0 [(N0, some ⟨43, 5, [[.int .i64 0, .int .i64 0, .int .i64 0, .int .i64 0, .int .i64 0]]⟩), (o1, some ⟨96, 2, [[.fsl (encL rI_u8 r7.2.b), .int .i64 r7.2.p]]⟩), (M1 + 2, some ⟨43, 5, [[.int .i64 r2.1.Op, .int .i64 r2.1.Dst, .int .i64 r2.1.A, .int .i64 r2.1.B, .int .i64 r2.1.N]]⟩)] M6) (fun K hK => ?_) ?_
 ·
  have e0 := nQ N0 o1
  have e1 := nQ N0 (M1 + 2)
  have e2 := nQ o1 (M1 + 2)
  simp -dsimp -implicitDefEqProofs (maxDischargeDepth := 6) [e0, e1, e2]
  refine (c45 (W0 := [[.fsl (encL rI_u8 r4.2.b), .int .i64 r4.2.p]]) (r0_ := 0) (H := hr7) (by simp [e0, e1, e2]) (by simp [e0, e1, e2])).mono ?_; rintro _ _ ⟨M6, fM6_0, rfl, rfl⟩; simp only [hp_next] at fM6_0
  try simp -dsimp -implicitDefEqProofs (maxDischargeDepth := 6) [e0, e1, e2, hp_over_some, hp_over_none]
  exact hK _ _ ⟨M6, (by omega), rfl, rfl⟩
 rintro a σ ⟨M6, fM6_0, rfl, rfl⟩
 refine AWP_block (AWP_thenB ?_)
 refine Sx tok [] [2, 5, 6, 7, 8, 21, 22] (by
  intro K k
  have e0 := nQ N0 o1
  have e1 := nQ N0 (M1 + 2)
  have e2 := nQ o1 (M1 + 2)
  simp -dsimp -implicitDefEqProofs (maxDischargeDepth := 6) [e0, e1, e2]
  exact k) ?_
 refine AWP_cond (ieq r7.1 0) rfl (fun C1 => ?_) (fun C1 => ?_)
 ·
  replace H := ifT C1 H
  obtain ⟨r8, hr8, H⟩ := bindE H
  obtain ⟨v9, hv9, H⟩ := bindE H
  have q0 : ∀ σ i, buildSliceA T 22 true i 2 [(0, .int .i64 0), (1, .int .i64 9)] σ = some (.fsl (encL rI ([0, 9] : List Int)), σ) := fun _ _ => rfl
  refine AWP_rt tok [0] [2, 6, 7, 8] (fun a σ => ∃ M7 : Nat, M6 + 8 ≤ M7 ∧ a = [(2, .ptr N0 0 0), (6, .ptr (M1 + 2) 0 0), (7, .int .i64 v9), (8, .int .i64 (imul .i64 4 (isub .i64 r4.1 100)))] ∧ σ = hp E0 [(N0, some ⟨43, 5, [[.int .i64 0, .int .i64 0, .int .i64 0, .int .i64 0, .int .i64 0]]⟩), (o1, some ⟨96, 2, [[.fsl (encL rI_u8 r8.2.b), .int .i64 r8.2.p]]⟩), (M1 + 2, some ⟨43, 5, [[.int .i64 r2.1.Op, .int .i64 r2.1.Dst, .int .i64 r2.1.A, .int .i64 r2.1.B, .int .i64 r2.1.N]]⟩)] M7) (fun K hK => ?_) ?_
  ·
   have e0 := nQ N0 o1
   have e1 := nQ N0 (M1 + 2)
   have e2 := nQ o1 (M1 + 2)
   simp -dsimp -implicitDefEqProofs (maxDischargeDepth := 6) [e0, e1, e2, q0, ix22 hv9]
   refine (c45 (W0 := [[.fsl (encL rI_u8 r7.2.b), .int .i64 r7.2.p]]) (r0_ := 0) (H := hr8) (by simp [e0, e1, e2, q0, ix22 hv9]) (by simp [e0, e1, e2, q0, ix22 hv9])).mono ?_; rintro _ _ ⟨M7, fM7_0, rfl, rfl⟩; simp only [hp_next] at fM7_0
   try simp -dsimp -implicitDefEqProofs (maxDischargeDepth := 6) [e0, e1, e2, q0, ix22 hv9, hp_over_some, hp_over_none]
   exact hK _ _ ⟨M7, (by omega), rfl, rfl⟩
  rintro a σ ⟨M7, fM7_0, ha, rfl⟩
  replace H := oi H; subst H
  refine hJ1 _ _ ?_; rw [ha]
  exact Rc.fin (hp_skip (AHeap.Sub.trans (hp_skip (AHeap.Sub.refl _)) (hp_drop rfl (by simp; try omega)))) ⟨M7, (by omega), (by omega), (by omega), rfl, rfl⟩
 ·
  replace H := ifF C1 H
  refine Sx tok [] [2, 5, 6, 7, 8, 29] (by
   intro K k
   have e0 := nQ N0 o1
   have e1 := nQ N0 (M1 + 2)
   have e2 := nQ o1 (M1 + 2)
   simp -dsimp -implicitDefEqProofs (maxDischargeDepth := 6) [e0, e1, e2]
   exact k) ?_
  refine AWP_cond (ieq r7.1 1) rfl (fun C2 => ?_) (fun C2 => ?_)
  ·
   replace H := ifT C2 H
   obtain ⟨r10, hr10, H⟩ := bindE H
   obtain ⟨v11, hv11, H⟩ := bindE H
   have q1 : ∀ σ i, buildSliceA T 22 true i 4 [(0, .int .i64 2), (1, .int .i64 100004), (2, .int .i64 (-100004)), (3, .int .i64 100000)] σ = some (.fsl (encL rI ([2, 100004, -100004, 100000] : List Int)), σ) := fun _ _ => rfl
   refine AWP_rt tok [0] [2, 6, 7, 8] (fun a σ => ∃ M8 : Nat, M6 + 10 ≤ M8 ∧ a = [(2, .ptr N0 0 0), (6, .ptr (M1 + 2) 0 0), (7, .int .i64 (iadd .i64 1 r3.1)), (8, .int .i64 v11)] ∧ σ = hp E0 [(N0, some ⟨43, 5, [[.int .i64 0, .int .i64 0, .int .i64 0, .int .i64 0, .int .i64 0]]⟩), (o1, some ⟨96, 2, [[.fsl (encL rI_u8 r10.2.b), .int .i64 r10.2.p]]⟩), (M1 + 2, some ⟨43, 5, [[.int .i64 r2.1.Op, .int .i64 r2.1.Dst, .int .i64 r2.1.A, .int .i64 r2.1.B, .int .i64 r2.1.N]]⟩)] M8) (fun K hK => ?_) ?_
   ·
    have e0 := nQ N0 o1
    have e1 := nQ N0 (M1 + 2)
    have e2 := nQ o1 (M1 + 2)
    simp -dsimp -implicitDefEqProofs (maxDischargeDepth := 6) [e0, e1, e2, q1, ix22 hv11]
    refine (c45 (W0 := [[.fsl (encL rI_u8 r7.2.b), .int .i64 r7.2.p]]) (r0_ := 0) (H := hr10) (by simp [e0, e1, e2, q1, ix22 hv11]) (by simp [e0, e1, e2, q1, ix22 hv11])).mono ?_; rintro _ _ ⟨M8, fM8_0, rfl, rfl⟩; simp only [hp_next] at fM8_0
    try simp -dsimp -implicitDefEqProofs (maxDischargeDepth := 6) [e0, e1, e2, q1, ix22 hv11, hp_over_some, hp_over_none]
    exact hK _ _ ⟨M8, (by omega), rfl, rfl⟩
   rintro a σ ⟨M8, fM8_0, ha, rfl⟩
   replace H := oi H; subst H
   refine hJ1 _ _ ?_; rw [ha]
   exact Rc.fin (hp_skip (AHeap.Sub.trans (hp_skip (AHeap.Sub.refl _)) (hp_drop rfl (by simp; try omega)))) ⟨M8, (by omega), (by omega), (by omega), rfl, rfl⟩
  ·
   replace H := ifF C2 H
   refine AWP_skip ?_
   show K1 _ _
   refine kE [2, 6, 7, 8] fun a' ha => ?_
   replace H := oi H; subst H
   refine hJ1 _ _ ?_; rw [ha]
   exact Rc.fin (hp_skip (AHeap.Sub.trans (hp_skip (AHeap.Sub.refl _)) (hp_drop rfl (by simp; try omega)))) ⟨M6 + 4, (by omega), (by omega), (by omega), rfl, rfl⟩
theorem c64 {p0 : Int} {r : Bool} (H : i_isReg p0 = some r) : APure Tryd.prog G 64 [.int .i64 p0] (.bool r) := by
 refine APure_fn (fun N0 => ?_) (by simp)
 refine ACalls_fn tok Tryd.func64 (by kernel_rfl) rfl Tryd.ntmps64 Tryd.results64 rfl ?_
 simp only [argsA, Nat.reduceAdd, hp_next]
 unfold i_isReg at H
 refine S0 tok [] [0] ?_
 obtain ⟨g1, hg1, H⟩ := bindE H
 refine AWP_sr tok [] [2] (fun a σ => a = [(2, .bool g1)] ∧ σ = hp E0 [] (N0 + 8)) (fun K hK => ?_) ?_
 ·
  simp -dsimp -implicitDefEqProofs (maxDischargeDepth := 6)
  cases hbg1 : ige p0 0
  ·
   replace hg1 := ifF hbg1 hg1
   replace hg1 := oi hg1; subst hg1
   try simp -dsimp -implicitDefEqProofs (maxDischargeDepth := 6) [hbg1]
   exact hK _ _ ⟨rfl, rfl⟩
  ·
   replace hg1 := ifT hbg1 hg1
   replace hg1 := oi hg1; subst hg1
   try simp -dsimp -implicitDefEqProofs (maxDischargeDepth := 6) [hbg1]
   exact hK _ _ ⟨rfl, rfl⟩
 rintro a σ ⟨rfl, rfl⟩
 replace H := oi H; subst H; exact AWP_ret ⟨_, rfl, 4, by simp [encL_nil]⟩
theorem c55 {p0 : Int} {r : Bool} (H : i_WordValid p0 = some r) : APure Tryd.prog G 55 [.int .i64 p0] (.bool r) := by
 refine APure_fn (fun N0 => ?_) (by simp)
 refine ACalls_fn tok Tryd.func55 (by kernel_rfl) rfl Tryd.ntmps55 Tryd.results55 rfl ?_
 simp only [argsA, Nat.reduceAdd, hp_next]
 unfold i_WordValid at H
 refine S0 tok [] [0] ?_
 obtain ⟨g1, hg1, H⟩ := bindE H
 refine AWP_sr tok [] [2] (fun a σ => a = [(2, .bool g1)] ∧ σ = hp E0 [] (N0 + 8)) (fun K hK => ?_) ?_
 ·
  simp -dsimp -implicitDefEqProofs (maxDischargeDepth := 6)
  cases hbg1 : ige p0 (-2147483648)
  ·
   replace hg1 := ifF hbg1 hg1
   replace hg1 := oi hg1; subst hg1
   try simp -dsimp -implicitDefEqProofs (maxDischargeDepth := 6) [hbg1]
   exact hK _ _ ⟨rfl, rfl⟩
  ·
   replace hg1 := ifT hbg1 hg1
   replace hg1 := oi hg1; subst hg1
   try simp -dsimp -implicitDefEqProofs (maxDischargeDepth := 6) [hbg1]
   exact hK _ _ ⟨rfl, rfl⟩
 rintro a σ ⟨rfl, rfl⟩
 replace H := oi H; subst H; exact AWP_ret ⟨_, rfl, 4, by simp [encL_nil]⟩
theorem c54 {p0 : Int} {r : Bool} (H : i_OpValid p0 = some r) : APure Tryd.prog G 54 [.int .i64 p0] (.bool r) := by
 refine APure_fn (fun N0 => ?_) (by simp)
 refine ACalls_fn tok Tryd.func54 (by kernel_rfl) rfl Tryd.ntmps54 Tryd.results54 rfl ?_
 simp only [argsA, Nat.reduceAdd, hp_next]
 unfold i_OpValid at H
 refine S0 tok [] [0] ?_
 obtain ⟨g1, hg1, H⟩ := bindE H
 refine AWP_sr tok [] [2] (fun a σ => a = [(2, .bool g1)] ∧ σ = hp E0 [] (N0 + 8)) (fun K hK => ?_) ?_
 ·
  simp -dsimp -implicitDefEqProofs (maxDischargeDepth := 6)
  cases hbg1 : ige p0 1
  ·
   replace hg1 := ifF hbg1 hg1
   replace hg1 := oi hg1; subst hg1
   try simp -dsimp -implicitDefEqProofs (maxDischargeDepth := 6) [hbg1]
   exact hK _ _ ⟨rfl, rfl⟩
  ·
   replace hg1 := ifT hbg1 hg1
   replace hg1 := oi hg1; subst hg1
   try simp -dsimp -implicitDefEqProofs (maxDischargeDepth := 6) [hbg1]
   exact hK _ _ ⟨rfl, rfl⟩
 rintro a σ ⟨rfl, rfl⟩
 replace H := oi H; subst H; exact AWP_ret ⟨_, rfl, 4, by simp [encL_nil]⟩
theorem c46 {p0 : gQuad} {p1 : Int} {r : Bool} (H : i_QuadValid p0 p1 = some r) : APure Tryd.prog G 46 [.agg [.int .i64 p0.Op, .int .i64 p0.Dst, .int .i64 p0.A, .int .i64 p0.B, .int .i64 p0.N], .int .i64 p1] (.bool r) := by
 refine APure_fn (fun N0 => ?_) (by simp)
 refine ACalls_fn tok Tryd.func46 (by kernel_rfl) rfl Tryd.ntmps46 Tryd.results46 rfl ?_
 simp only [argsA, Nat.reduceAdd, hp_next]
 unfold i_QuadValid at H
 refine S0 tok [0] [1, 2] ?_
 obtain ⟨r1, hr1, H⟩ := bindE H
 obtain ⟨r2, hr2, H⟩ := bindE H
 obtain ⟨r3, hr3, H⟩ := bindE H
 refine Sd tok tokM [] [] [0, 1, 2, 3, 4, 5, 6, 7, 8, 9, 10, 11, 12, 13, 14] [1, 2, 5, 6, 7, 8] (by
  intro K k
  simp only [pickL, nthO_succ, nthO_zero]
  repeat first | simp -dsimp -implicitDefEqProofs (maxDischargeDepth := 6) | refine Pc.mk (c64 hr1) ?_ | refine Pc.mk (c64 hr2) ?_ | refine Pc.mk (c64 hr3) ?_
  exact k) ?_
 refine AWP_sq [] fun K1 hK1 => ?_
 refine S0 tok [] [1, 2, 5, 6, 7, 8, 21] ?_
 refine AWP_block (AWP_thenB ?_)
 refine S0 tok [] [1, 2, 5, 6, 7, 8, 21, 22] ?_
 refine AWP_cond (ieq p0.Op 1) rfl (fun C1 => ?_) (fun C1 => ?_)
 ·
  replace H := ifT C1 H
  obtain ⟨g4, hg4, H⟩ := bindE H
  obtain ⟨g6, hg6, H⟩ := bindE H
  refine AWP_sr tok [] [4] (fun a σ => a = [(4, .bool g6)] ∧ σ = hp E0 [] (N0 + 35)) (fun K hK => ?_) ?_
  ·
   simp -dsimp -implicitDefEqProofs (maxDischargeDepth := 6)
   cases hbg4 : eqD p0 (⟨1, p0.Dst, 0, 0, p0.N⟩ : gQuad)
   ·
    replace hg4 := ifF hbg4 hg4
    replace hg4 := oi hg4; subst hg4
    try simp -dsimp -implicitDefEqProofs (maxDischargeDepth := 6) [hbg4]
    replace hg6 := ifF rfl hg6
    replace hg6 := oi hg6; subst hg6
    try simp -dsimp -implicitDefEqProofs (maxDischargeDepth := 6) [hbg4]
    exact hK _ _ ⟨rfl, rfl⟩
   ·
    replace hg4 := ifT hbg4 hg4
    replace hg4 := oi hg4; subst hg4
    try simp -dsimp -implicitDefEqProofs (maxDischargeDepth := 6) [hbg4]
    cases hbg6 : r1
    ·
     replace hg6 := ifF hbg6 hg6
     replace hg6 := oi hg6; subst hg6
     try simp -dsimp -implicitDefEqProofs (maxDischargeDepth := 6) [hbg4, hbg6]
     exact hK _ _ ⟨rfl, rfl⟩
    ·
     replace hg6 := ifT hbg6 hg6
     obtain ⟨r5, hr5, hg6⟩ := bindE hg6
     replace hg6 := oi hg6; subst hg6
     try simp -dsimp -implicitDefEqProofs (maxDischargeDepth := 6) [hbg4, hbg6]
     refine (c55 hr5).app ?_; try simp -dsimp -implicitDefEqProofs (maxDischargeDepth := 6) [hbg4, hbg6]
     exact hK _ _ ⟨rfl, rfl⟩
  rintro a σ ⟨rfl, rfl⟩
  replace H := oi H; subst H; exact AWP_ret ⟨_, rfl, 4, by simp [encL_nil]⟩
 ·
  replace H := ifF C1 H
  refine S0 tok [] [1, 2, 5, 6, 7, 8, 21, 37] ?_
  refine AWP_cond (ieq p0.Op 2) rfl (fun C2 => ?_) (fun C2 => ?_)
  ·
   replace H := ifT C2 H
   obtain ⟨g7, hg7, H⟩ := bindE H
   obtain ⟨g8, hg8, H⟩ := bindE H
   refine AWP_sr tok [] [4] (fun a σ => a = [(4, .bool g8)] ∧ σ = hp E0 [] (N0 + 37)) (fun K hK => ?_) ?_
   ·
    simp -dsimp -implicitDefEqProofs (maxDischargeDepth := 6)
    cases hbg7 : eqD p0 (⟨2, p0.Dst, p0.A, 0, 0⟩ : gQuad)
    ·
     replace hg7 := ifF hbg7 hg7
     replace hg7 := oi hg7; subst hg7
     try simp -dsimp -implicitDefEqProofs (maxDischargeDepth := 6) [hbg7]
     replace hg8 := ifF rfl hg8
     replace hg8 := oi hg8; subst hg8
     try simp -dsimp -implicitDefEqProofs (maxDischargeDepth := 6) [hbg7]
     exact hK _ _ ⟨rfl, rfl⟩
    ·
     replace hg7 := ifT hbg7 hg7
     replace hg7 := oi hg7; subst hg7
     try simp -dsimp -implicitDefEqProofs (maxDischargeDepth := 6) [hbg7]
     cases hbg8 : r1
     ·
      replace hg8 := ifF hbg8 hg8
      replace hg8 := oi hg8; subst hg8
      try simp -dsimp -implicitDefEqProofs (maxDischargeDepth := 6) [hbg7, hbg8]
      exact hK _ _ ⟨rfl, rfl⟩
     ·
      replace hg8 := ifT hbg8 hg8
      replace hg8 := oi hg8; subst hg8
      try simp -dsimp -implicitDefEqProofs (maxDischargeDepth := 6) [hbg7, hbg8]
      exact hK _ _ ⟨rfl, rfl⟩
   rintro a σ ⟨rfl, rfl⟩
   replace H := oi H; subst H; exact AWP_ret ⟨_, rfl, 4, by simp [encL_nil]⟩
  ·
   replace H := ifF C2 H
   refine S0 tok [] [1, 2, 5, 6, 7, 8, 21, 52] ?_
   refine AWP_cond (ieq p0.Op 3) rfl (fun C3 => ?_) (fun C3 => ?_)
   ·
    replace H := ifT C3 H
    obtain ⟨g9, hg9, H⟩ := bindE H
    obtain ⟨g10, hg10, H⟩ := bindE H
    obtain ⟨g12, hg12, H⟩ := bindE H
    refine AWP_sr tok [] [4] (fun a σ => a = [(4, .bool g12)] ∧ σ = hp E0 [] (N0 + 37)) (fun K hK => ?_) ?_
    ·
     simp -dsimp -implicitDefEqProofs (maxDischargeDepth := 6)
     cases hbg9 : r1
     ·
      replace hg9 := ifF hbg9 hg9
      replace hg9 := oi hg9; subst hg9
      try simp -dsimp -implicitDefEqProofs (maxDischargeDepth := 6) [hbg9]
      replace hg10 := ifF rfl hg10
      replace hg10 := oi hg10; subst hg10
      try simp -dsimp -implicitDefEqProofs (maxDischargeDepth := 6) [hbg9]
      replace hg12 := ifF rfl hg12
      replace hg12 := oi hg12; subst hg12
      try simp -dsimp -implicitDefEqProofs (maxDischargeDepth := 6) [hbg9]
      exact hK _ _ ⟨rfl, rfl⟩
     ·
      replace hg9 := ifT hbg9 hg9
      replace hg9 := oi hg9; subst hg9
      try simp -dsimp -implicitDefEqProofs (maxDischargeDepth := 6) [hbg9]
      cases hbg10 : r2
      ·
       replace hg10 := ifF hbg10 hg10
       replace hg10 := oi hg10; subst hg10
       try simp -dsimp -implicitDefEqProofs (maxDischargeDepth := 6) [hbg9, hbg10]
       replace hg12 := ifF rfl hg12
       replace hg12 := oi hg12; subst hg12
       try simp -dsimp -implicitDefEqProofs (maxDischargeDepth := 6) [hbg9, hbg10]
       exact hK _ _ ⟨rfl, rfl⟩
      ·
       replace hg10 := ifT hbg10 hg10
       replace hg10 := oi hg10; subst hg10
       try simp -dsimp -implicitDefEqProofs (maxDischargeDepth := 6) [hbg9, hbg10]
       cases hbg12 : r3
       ·
        replace hg12 := ifF hbg12 hg12
        replace hg12 := oi hg12; subst hg12
        try simp -dsimp -implicitDefEqProofs (maxDischargeDepth := 6) [hbg9, hbg10, hbg12]
        exact hK _ _ ⟨rfl, rfl⟩
       ·
        replace hg12 := ifT hbg12 hg12
        obtain ⟨r11, hr11, hg12⟩ := bindE hg12
        replace hg12 := oi hg12; subst hg12
        try simp -dsimp -implicitDefEqProofs (maxDischargeDepth := 6) [hbg9, hbg10, hbg12]
        refine (c54 hr11).app ?_; try simp -dsimp -implicitDefEqProofs (maxDischargeDepth := 6) [hbg9, hbg10, hbg12]
        exact hK _ _ ⟨rfl, rfl⟩
    rintro a σ ⟨rfl, rfl⟩
    replace H := oi H; subst H; exact AWP_ret ⟨_, rfl, 4, by simp [encL_nil]⟩
   ·
    replace H := ifF C3 H
    refine S0 tok [] [1, 2, 5, 6, 8, 21, 65] ?_
    refine AWP_cond (ieq p0.Op 4) rfl (fun C4 => ?_) (fun C4 => ?_)
    ·
     replace H := ifT C4 H
     obtain ⟨g13, hg13, H⟩ := bindE H
     obtain ⟨g14, hg14, H⟩ := bindE H
     refine AWP_sr tok [] [4] (fun a σ => a = [(4, .bool g14)] ∧ σ = hp E0 [] (N0 + 41)) (fun K hK => ?_) ?_
     ·
      simp -dsimp -implicitDefEqProofs (maxDischargeDepth := 6)
      cases hbg13 : eqD p0 (⟨4, 0, 0, 0, p0.N⟩ : gQuad)
      ·
       replace hg13 := ifF hbg13 hg13
       replace hg13 := oi hg13; subst hg13
       try simp -dsimp -implicitDefEqProofs (maxDischargeDepth := 6) [hbg13]
       replace hg14 := ifF rfl hg14
       replace hg14 := oi hg14; subst hg14
       try simp -dsimp -implicitDefEqProofs (maxDischargeDepth := 6) [hbg13]
       exact hK _ _ ⟨rfl, rfl⟩
      ·
       replace hg13 := ifT hbg13 hg13
       replace hg13 := oi hg13; subst hg13
       try simp -dsimp -implicitDefEqProofs (maxDischargeDepth := 6) [hbg13]
       cases hbg14 : (ige p0.N 0)
       ·
        replace hg14 := ifF hbg14 hg14
        replace hg14 := oi hg14; subst hg14
        try simp -dsimp -implicitDefEqProofs (maxDischargeDepth := 6) [hbg13, hbg14]
        exact hK _ _ ⟨rfl, rfl⟩
       ·
        replace hg14 := ifT hbg14 hg14
        replace hg14 := oi hg14; subst hg14
        try simp -dsimp -implicitDefEqProofs (maxDischargeDepth := 6) [hbg13, hbg14]
        exact hK _ _ ⟨rfl, rfl⟩
     rintro a σ ⟨rfl, rfl⟩
     replace H := oi H; subst H; exact AWP_ret ⟨_, rfl, 4, by simp [encL_nil]⟩
    ·
     replace H := ifF C4 H
     refine S0 tok [] [1, 2, 5, 6, 8, 21, 80] ?_
     refine AWP_cond (ieq p0.Op 5) rfl (fun C5 => ?_) (fun C5 => ?_)
     ·
      replace H := ifT C5 H
      obtain ⟨g15, hg15, H⟩ := bindE H
      obtain ⟨g16, hg16, H⟩ := bindE H
      obtain ⟨g17, hg17, H⟩ := bindE H
      refine AWP_sr tok [] [4] (fun a σ => a = [(4, .bool g17)] ∧ σ = hp E0 [] (N0 + 48)) (fun K hK => ?_) ?_
      ·
       simp -dsimp -implicitDefEqProofs (maxDischargeDepth := 6)
       cases hbg15 : eqD p0 (⟨5, 0, p0.A, 0, p0.N⟩ : gQuad)
       ·
        replace hg15 := ifF hbg15 hg15
        replace hg15 := oi hg15; subst hg15
        try simp -dsimp -implicitDefEqProofs (maxDischargeDepth := 6) [hbg15]
        replace hg16 := ifF rfl hg16
        replace hg16 := oi hg16; subst hg16
        try simp -dsimp -implicitDefEqProofs (maxDischargeDepth := 6) [hbg15]
        replace hg17 := ifF rfl hg17
        replace hg17 := oi hg17; subst hg17
        try simp -dsimp -implicitDefEqProofs (maxDischargeDepth := 6) [hbg15]
        exact hK _ _ ⟨rfl, rfl⟩
       ·
        replace hg15 := ifT hbg15 hg15
        replace hg15 := oi hg15; subst hg15
        try simp -dsimp -implicitDefEqProofs (maxDischargeDepth := 6) [hbg15]
        cases hbg16 : r2
        ·
         replace hg16 := ifF hbg16 hg16
         replace hg16 := oi hg16; subst hg16
         try simp -dsimp -implicitDefEqProofs (maxDischargeDepth := 6) [hbg15, hbg16]
         replace hg17 := ifF rfl hg17
         replace hg17 := oi hg17; subst hg17
         try simp -dsimp -implicitDefEqProofs (maxDischargeDepth := 6) [hbg15, hbg16]
         exact hK _ _ ⟨rfl, rfl⟩
        ·
         replace hg16 := ifT hbg16 hg16
         replace hg16 := oi hg16; subst hg16
         try simp -dsimp -implicitDefEqProofs (maxDischargeDepth := 6) [hbg15, hbg16]
         cases hbg17 : (ige p0.N 0)
         ·
          replace hg17 := ifF hbg17 hg17
          replace hg17 := oi hg17; subst hg17
          try simp -dsimp -implicitDefEqProofs (maxDischargeDepth := 6) [hbg15, hbg16, hbg17]
          exact hK _ _ ⟨rfl, rfl⟩
         ·
          replace hg17 := ifT hbg17 hg17
          replace hg17 := oi hg17; subst hg17
          try simp -dsimp -implicitDefEqProofs (maxDischargeDepth := 6) [hbg15, hbg16, hbg17]
          exact hK _ _ ⟨rfl, rfl⟩
      rintro a σ ⟨rfl, rfl⟩
      replace H := oi H; subst H; exact AWP_ret ⟨_, rfl, 4, by simp [encL_nil]⟩
     ·
      replace H := ifF C5 H
      refine S0 tok [] [2, 5, 6, 8, 21, 100] ?_
      refine AWP_cond (ieq p0.Op 6) rfl (fun C6 => ?_) (fun C6 => ?_)
      ·
       replace H := ifT C6 H
       obtain ⟨g18, hg18, H⟩ := bindE H
       obtain ⟨g19, hg19, H⟩ := bindE H
       obtain ⟨g20, hg20, H⟩ := bindE H
       refine AWP_sr tok [] [4] (fun a σ => a = [(4, .bool g20)] ∧ σ = hp E0 [] (N0 + 49)) (fun K hK => ?_) ?_
       ·
        simp -dsimp -implicitDefEqProofs (maxDischargeDepth := 6)
        cases hbg18 : eqD p0 (⟨6, 0, p0.A, 0, p0.N⟩ : gQuad)
        ·
         replace hg18 := ifF hbg18 hg18
         replace hg18 := oi hg18; subst hg18
         try simp -dsimp -implicitDefEqProofs (maxDischargeDepth := 6) [hbg18]
         replace hg19 := ifF rfl hg19
         replace hg19 := oi hg19; subst hg19
         try simp -dsimp -implicitDefEqProofs (maxDischargeDepth := 6) [hbg18]
         replace hg20 := ifF rfl hg20
         replace hg20 := oi hg20; subst hg20
         try simp -dsimp -implicitDefEqProofs (maxDischargeDepth := 6) [hbg18]
         exact hK _ _ ⟨rfl, rfl⟩
        ·
         replace hg18 := ifT hbg18 hg18
         replace hg18 := oi hg18; subst hg18
         try simp -dsimp -implicitDefEqProofs (maxDischargeDepth := 6) [hbg18]
         cases hbg19 : r2
         ·
          replace hg19 := ifF hbg19 hg19
          replace hg19 := oi hg19; subst hg19
          try simp -dsimp -implicitDefEqProofs (maxDischargeDepth := 6) [hbg18, hbg19]
          replace hg20 := ifF rfl hg20
          replace hg20 := oi hg20; subst hg20
          try simp -dsimp -implicitDefEqProofs (maxDischargeDepth := 6) [hbg18, hbg19]
          exact hK _ _ ⟨rfl, rfl⟩
         ·
          replace hg19 := ifT hbg19 hg19
          replace hg19 := oi hg19; subst hg19
          try simp -dsimp -implicitDefEqProofs (maxDischargeDepth := 6) [hbg18, hbg19]
          cases hbg20 : (ige p0.N 0)
          ·
           replace hg20 := ifF hbg20 hg20
           replace hg20 := oi hg20; subst hg20
           try simp -dsimp -implicitDefEqProofs (maxDischargeDepth := 6) [hbg18, hbg19, hbg20]
           exact hK _ _ ⟨rfl, rfl⟩
          ·
           replace hg20 := ifT hbg20 hg20
           replace hg20 := oi hg20; subst hg20
           try simp -dsimp -implicitDefEqProofs (maxDischargeDepth := 6) [hbg18, hbg19, hbg20]
           exact hK _ _ ⟨rfl, rfl⟩
       rintro a σ ⟨rfl, rfl⟩
       replace H := oi H; subst H; exact AWP_ret ⟨_, rfl, 4, by simp [encL_nil]⟩
      ·
       replace H := ifF C6 H
       refine S0 tok [] [2, 5, 6, 8, 21, 119] ?_
       refine AWP_cond (ieq p0.Op 7) rfl (fun C7 => ?_) (fun C7 => ?_)
       ·
        replace H := ifT C7 H
        obtain ⟨g21, hg21, H⟩ := bindE H
        obtain ⟨g22, hg22, H⟩ := bindE H
        obtain ⟨g23, hg23, H⟩ := bindE H
        refine AWP_sr tok [] [4] (fun a σ => a = [(4, .bool g23)] ∧ σ = hp E0 [] (N0 + 51)) (fun K hK => ?_) ?_
        ·
         simp -dsimp -implicitDefEqProofs (maxDischargeDepth := 6)
         cases hbg21 : eqD p0 (⟨7, p0.Dst, 0, 0, p0.N⟩ : gQuad)
         ·
          replace hg21 := ifF hbg21 hg21
          replace hg21 := oi hg21; subst hg21
          try simp -dsimp -implicitDefEqProofs (maxDischargeDepth := 6) [hbg21]
          replace hg22 := ifF rfl hg22
          replace hg22 := oi hg22; subst hg22
          try simp -dsimp -implicitDefEqProofs (maxDischargeDepth := 6) [hbg21]
          replace hg23 := ifF rfl hg23
          replace hg23 := oi hg23; subst hg23
          try simp -dsimp -implicitDefEqProofs (maxDischargeDepth := 6) [hbg21]
          exact hK _ _ ⟨rfl, rfl⟩
         ·
          replace hg21 := ifT hbg21 hg21
          replace hg21 := oi hg21; subst hg21
          try simp -dsimp -implicitDefEqProofs (maxDischargeDepth := 6) [hbg21]
          cases hbg22 : r1
          ·
           replace hg22 := ifF hbg22 hg22
           replace hg22 := oi hg22; subst hg22
           try simp -dsimp -implicitDefEqProofs (maxDischargeDepth := 6) [hbg21, hbg22]
           replace hg23 := ifF rfl hg23
           replace hg23 := oi hg23; subst hg23
           try simp -dsimp -implicitDefEqProofs (maxDischargeDepth := 6) [hbg21, hbg22]
           exact hK _ _ ⟨rfl, rfl⟩
          ·
           replace hg22 := ifT hbg22 hg22
           replace hg22 := oi hg22; subst hg22
           try simp -dsimp -implicitDefEqProofs (maxDischargeDepth := 6) [hbg21, hbg22]
           cases hbg23 : (ige p0.N 0)
           ·
            replace hg23 := ifF hbg23 hg23
            replace hg23 := oi hg23; subst hg23
            try simp -dsimp -implicitDefEqProofs (maxDischargeDepth := 6) [hbg21, hbg22, hbg23]
            exact hK _ _ ⟨rfl, rfl⟩
           ·
            replace hg23 := ifT hbg23 hg23
            replace hg23 := oi hg23; subst hg23
            try simp -dsimp -implicitDefEqProofs (maxDischargeDepth := 6) [hbg21, hbg22, hbg23]
            exact hK _ _ ⟨rfl, rfl⟩
        rintro a σ ⟨rfl, rfl⟩
        replace H := oi H; subst H; exact AWP_ret ⟨_, rfl, 4, by simp [encL_nil]⟩
       ·
        replace H := ifF C7 H
        refine S0 tok [] [2, 6, 21, 138] ?_
        refine AWP_cond (ieq p0.Op 9) rfl (fun C8 => ?_) (fun C8 => ?_)
        ·
         replace H := ifT C8 H
         obtain ⟨g24, hg24, H⟩ := bindE H
         refine AWP_sr tok [] [4] (fun a σ => a = [(4, .bool g24)] ∧ σ = hp E0 [] (N0 + 44)) (fun K hK => ?_) ?_
         ·
          simp -dsimp -implicitDefEqProofs (maxDischargeDepth := 6)
          cases hbg24 : eqD p0 (⟨9, 0, p0.A, 0, 0⟩ : gQuad)
          ·
           replace hg24 := ifF hbg24 hg24
           replace hg24 := oi hg24; subst hg24
           try simp -dsimp -implicitDefEqProofs (maxDischargeDepth := 6) [hbg24]
           exact hK _ _ ⟨rfl, rfl⟩
          ·
           replace hg24 := ifT hbg24 hg24
           replace hg24 := oi hg24; subst hg24
           try simp -dsimp -implicitDefEqProofs (maxDischargeDepth := 6) [hbg24]
           exact hK _ _ ⟨rfl, rfl⟩
         rintro a σ ⟨rfl, rfl⟩
         replace H := oi H; subst H; exact AWP_ret ⟨_, rfl, 4, by simp [encL_nil]⟩
        ·
         replace H := ifF C8 H
         obtain ⟨j1, hj1, H⟩ := bindE H
         refine AWP_seq (AWP_named fun K2 hK2 => ?_)
         have hJ1 : ∀ a σ, Rc G 156 N0 (fun a σ => ∃ M1 : Nat, N0 ≤ M1 ∧ a = [(2, .fptr [.int .i64 p0.Op, .int .i64 p0.Dst, .int .i64 p0.A, .int .i64 p0.B, .int .i64 p0.N] 0), (148, .bool j1)] ∧ σ = hp E0 [] M1) (a.keep [2, 148]) σ → K2 a σ := by
          rintro a σ ⟨b, τ, hr, M1, fM1_0, rfl, rfl⟩
          refine hK2 _ _ (AWP_keep [2, 148] (AWP_ref hr ?_))
          refine AWP_cond j1 rfl (fun C9 => ?_) (fun C9 => ?_)
          ·
           replace H := ifT C9 H
           refine S0 tok [] [4] ?_
           replace H := oi H; subst H; exact AWP_ret ⟨_, rfl, 4, by simp [encL_nil]⟩
          ·
           replace H := ifF C9 H
           refine AWP_skip (Jn hK1 ?_)
           refine S0 tok [] [4] ?_
           replace H := oi H; subst H; exact AWP_ret ⟨_, rfl, 4, by simp [encL_nil]⟩
         replace H := hj1
         refine S0 tok [] [2, 21, 148] ?_
         refine AWP_cond (ieq p0.Op 8) rfl (fun C10 => ?_) (fun C10 => ?_)
         ·
          replace H := ifT C10 H
          refine AWP_skip ?_
          show K2 _ _
          refine kE [2, 148] fun a' ha => ?_
          replace H := oi H; subst H
          refine hJ1 _ _ ?_; rw [ha]
          exact Rc.fin (AHeap.Sub.refl _) ⟨N0 + 37, (by omega), rfl, rfl⟩
         ·
          replace H := ifF C10 H
          refine AWP_rt tok [] [2, 148] (fun a σ => a = [(2, .fptr [.int .i64 p0.Op, .int .i64 p0.Dst, .int .i64 p0.A, .int .i64 p0.B, .int .i64 p0.N] 0), (148, .bool (ieq p0.Op 10))] ∧ σ = hp E0 [] (N0 + 39)) (fun K hK => ?_) ?_
          ·
           simp -dsimp -implicitDefEqProofs (maxDischargeDepth := 6)
           exact hK _ _ ⟨rfl, rfl⟩
          rintro a σ ⟨ha, rfl⟩
          replace H := oi H; subst H
          refine hJ1 _ _ ?_; rw [ha]
          exact Rc.fin (AHeap.Sub.refl _) ⟨N0 + 39, (by omega), rfl, rfl⟩
theorem c70 {p0 : Int} {p1 : Int} {p2 : Int} {r : gInstr} (H : i_addi p0 p1 p2 = some r) : APure Tryd.prog G 70 [.int .i64 p0, .int .i64 p1, .int .i64 p2] (.agg [.int .i64 r.Op, .int .i64 r.Rd, .int .i64 r.Rs, .int .i64 r.Rt, .int .i64 r.Imm]) := by
 refine APure_fn (fun N0 => ?_) (by simp)
 refine ACalls_fn tok Tryd.func70 (by kernel_rfl) rfl Tryd.ntmps70 Tryd.results70 rfl ?_
 simp only [argsA, Nat.reduceAdd, hp_next]
 unfold i_addi at H
 refine S0 tok [] [0, 1, 2, 6] ?_
 refine S0 tok [] [6] ?_
 replace H := oi H; subst H
 refine Kp [6] ?_
 refine AWP_ret ?_
 exact ⟨[.agg [.int .i64 12, .int .i64 p0, .int .i64 p1, .int .i64 0, .int .i64 p2]], by simp, 4, by simp [encL_nil]⟩
theorem c90 {p0 : Int} {r : Int} (H : i_Unsigned p0 = some r) : APure Tryd.prog G 90 [.int .i64 p0] (.int .i64 r) := by
 refine APure_fn (fun N0 => ?_) (by simp)
 refine ACalls_fn tok Tryd.func90 (by kernel_rfl) rfl Tryd.ntmps90 Tryd.results90 rfl ?_
 simp only [argsA, Nat.reduceAdd, hp_next]
 unfold i_Unsigned at H
 refine S0 tok [] [0] ?_
 refine AWP_sq [0] fun K1 hK1 => ?_
 obtain ⟨r1, hr1, H⟩ := bindE H
 refine Sx tok [] [0, 5] (by intro K k; (repeat first | simp -dsimp -implicitDefEqProofs (maxDischargeDepth := 6) | refine (c55 hr1).app ?_); exact k) ?_
 refine AWP_cond (bnot r1) rfl (fun C1 => ?_) (fun C1 => ?_)
 ·
  replace H := ifT C1 H
  refine S0 tok [] [2] ?_
  replace H := oi H; subst H; exact AWP_ret ⟨_, rfl, 4, by simp [encL_nil]⟩
 ·
  replace H := ifF C1 H
  refine AWP_skip (Jn hK1 ?_)
  refine S0 tok [] [2] ?_
  replace H := oi H; subst H; exact AWP_ret ⟨_, rfl, 4, by simp [encL_nil]⟩
theorem c112 {p0 : Int} {r : Bool} (H : i_isUnsigned p0 = some r) : APure Tryd.prog G 112 [.int .i64 p0] (.bool r) := by
 refine APure_fn (fun N0 => ?_) (by simp)
 refine ACalls_fn tok Tryd.func112 (by kernel_rfl) rfl Tryd.ntmps112 Tryd.results112 rfl ?_
 simp only [argsA, Nat.reduceAdd, hp_next]
 unfold i_isUnsigned at H
 refine S0 tok [] [0] ?_
 obtain ⟨g1, hg1, H⟩ := bindE H
 refine AWP_sr tok [] [2] (fun a σ => a = [(2, .bool g1)] ∧ σ = hp E0 [] (N0 + 8)) (fun K hK => ?_) ?_
 ·
  simp -dsimp -implicitDefEqProofs (maxDischargeDepth := 6)
  cases hbg1 : ige p0 0
  ·
   replace hg1 := ifF hbg1 hg1
   replace hg1 := oi hg1; subst hg1
   try simp -dsimp -implicitDefEqProofs (maxDischargeDepth := 6) [hbg1]
   exact hK _ _ ⟨rfl, rfl⟩
  ·
   replace hg1 := ifT hbg1 hg1
   replace hg1 := oi hg1; subst hg1
   try simp -dsimp -implicitDefEqProofs (maxDischargeDepth := 6) [hbg1]
   exact hK _ _ ⟨rfl, rfl⟩
 rintro a σ ⟨rfl, rfl⟩
 replace H := oi H; subst H; exact AWP_ret ⟨_, rfl, 4, by simp [encL_nil]⟩
theorem c92 {p0 : Int} {p1 : Int} {p2 : Int} {r : Int} (H : i_Bits p0 p1 p2 = some r) : APure Tryd.prog G 92 [.int .i64 p0, .int .i64 p1, .int .i64 p2] (.int .i64 r) := by
 refine APure_fn (fun N0 => ?_) (by simp)
 refine ACalls_fn tok Tryd.func92 (by kernel_rfl) rfl Tryd.ntmps92 Tryd.results92 rfl ?_
 simp only [argsA, Nat.reduceAdd, hp_next]
 unfold i_Bits at H
 refine S0 tok [] [0, 1, 2] ?_
 refine AWP_sq [0, 1, 2] fun K1 hK1 => ?_
 obtain ⟨r1, hr1, H⟩ := bindE H
 obtain ⟨g2, hg2, H⟩ := bindE H
 obtain ⟨g3, hg3, H⟩ := bindE H
 obtain ⟨g4, hg4, H⟩ := bindE H
 obtain ⟨g5, hg5, H⟩ := bindE H
 refine AWP_sr tok [] [0, 1, 2, 27] (fun a σ => a = [(0, .int .i64 p0), (1, .int .i64 p1), (2, .int .i64 p2), (27, .bool g5)] ∧ σ = hp E0 [] (N0 + 22)) (fun K hK => ?_) ?_
 ·
  simp -dsimp -implicitDefEqProofs (maxDischargeDepth := 6)
  refine (c112 hr1).app ?_; try simp -dsimp -implicitDefEqProofs (maxDischargeDepth := 6)
  cases hbg2 : bnot r1
  ·
   replace hg2 := ifF hbg2 hg2
   replace hg2 := oi hg2; subst hg2
   try simp -dsimp -implicitDefEqProofs (maxDischargeDepth := 6) [hbg2]
   cases hbg3 : (ilt p1 0)
   ·
    replace hg3 := ifF hbg3 hg3
    replace hg3 := oi hg3; subst hg3
    try simp -dsimp -implicitDefEqProofs (maxDischargeDepth := 6) [hbg2, hbg3]
    cases hbg4 : (igt p1 31)
    ·
     replace hg4 := ifF hbg4 hg4
     replace hg4 := oi hg4; subst hg4
     try simp -dsimp -implicitDefEqProofs (maxDischargeDepth := 6) [hbg2, hbg3, hbg4]
     cases hbg5 : (ilt p2 1)
     ·
      replace hg5 := ifF hbg5 hg5
      replace hg5 := oi hg5; subst hg5
      try simp -dsimp -implicitDefEqProofs (maxDischargeDepth := 6) [hbg2, hbg3, hbg4, hbg5]
      exact hK _ _ ⟨rfl, rfl⟩
     ·
      replace hg5 := ifT hbg5 hg5
      replace hg5 := oi hg5; subst hg5
      try simp -dsimp -implicitDefEqProofs (maxDischargeDepth := 6) [hbg2, hbg3, hbg4, hbg5]
      exact hK _ _ ⟨rfl, rfl⟩
    ·
     replace hg4 := ifT hbg4 hg4
     replace hg4 := oi hg4; subst hg4
     try simp -dsimp -implicitDefEqProofs (maxDischargeDepth := 6) [hbg2, hbg3, hbg4]
     replace hg5 := ifT rfl hg5
     replace hg5 := oi hg5; subst hg5
     try simp -dsimp -implicitDefEqProofs (maxDischargeDepth := 6) [hbg2, hbg3, hbg4]
     exact hK _ _ ⟨rfl, rfl⟩
   ·
    replace hg3 := ifT hbg3 hg3
    replace hg3 := oi hg3; subst hg3
    try simp -dsimp -implicitDefEqProofs (maxDischargeDepth := 6) [hbg2, hbg3]
    replace hg4 := ifT rfl hg4
    replace hg4 := oi hg4; subst hg4
    try simp -dsimp -implicitDefEqProofs (maxDischargeDepth := 6) [hbg2, hbg3]
    replace hg5 := ifT rfl hg5
    replace hg5 := oi hg5; subst hg5
    try simp -dsimp -implicitDefEqProofs (maxDischargeDepth := 6) [hbg2, hbg3]
    exact hK _ _ ⟨rfl, rfl⟩
  ·
   replace hg2 := ifT hbg2 hg2
   replace hg2 := oi hg2; subst hg2
   try simp -dsimp -implicitDefEqProofs (maxDischargeDepth := 6) [hbg2]
   replace hg3 := ifT rfl hg3
   replace hg3 := oi hg3; subst hg3
   try simp -dsimp -implicitDefEqProofs (maxDischargeDepth := 6) [hbg2]
   replace hg4 := ifT rfl hg4
   replace hg4 := oi hg4; subst hg4
   try simp -dsimp -implicitDefEqProofs (maxDischargeDepth := 6) [hbg2]
   replace hg5 := ifT rfl hg5
   replace hg5 := oi hg5; subst hg5
   try simp -dsimp -implicitDefEqProofs (maxDischargeDepth := 6) [hbg2]
   exact hK _ _ ⟨rfl, rfl⟩
 rintro a σ ⟨rfl, rfl⟩
 refine AWP_cond g5 rfl (fun C1 => ?_) (fun C1 => ?_)
 ·
  replace H := ifT C1 H
  refine S0 tok [] [6] ?_
  replace H := oi H; subst H; exact AWP_ret ⟨_, rfl, 4, by simp [encL_nil]⟩
 ·
  replace H := ifF C1 H
  refine AWP_skip (Jn hK1 ?_)
  obtain ⟨v6, hv6, H⟩ := bindE H
  obtain ⟨v7, hv7, H⟩ := bindE H
  refine Sd tok tokM [] [] [0, 1, 2, 3, 4, 5, 6, 7] [6] (by
   intro K k
   simp only [pickL, nthO_succ, nthO_zero]
   simp -dsimp -implicitDefEqProofs (maxDischargeDepth := 6) [hv6, hv7]
   exact k) ?_
  replace H := oi H; subst H; exact AWP_ret ⟨_, rfl, 4, by simp [encL_nil]⟩
end Go.Proofs.YtlcilhmkbmgkeaaDoor
