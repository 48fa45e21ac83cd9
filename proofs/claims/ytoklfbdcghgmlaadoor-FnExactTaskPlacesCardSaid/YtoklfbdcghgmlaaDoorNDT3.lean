/- The contracts of functions of the program, part 3: each computes what its mirror computes. No conditions. -/
import Derived.Test.YtoklfbdcghgmlaaDoorNDT2
set_option linter.unusedSimpArgs false
set_option linter.unusedVariables false
set_option maxRecDepth 20000
set_option maxHeartbeats 4000000
namespace Go.Proofs.YtoklfbdcghgmlaaDoor
open Go Go.Abs Go.RowKit

theorem c37_o {p0 : (List gQuad)} {r : (List gQuad)} (H : l_toQuadS_o p0 = some r) {σ : AHeap} : ACalls Tryd.prog G 37 [.fsl (encL rQuad p0)] σ (fun v σ' => ∃ M n0 : Nat, σ.next ≤ M ∧ σ.next ≤ n0 ∧ n0 < M ∧ v = .sl n0 0 r.length ∧ σ' = hp σ.objs [(n0, some ⟨40, 5, encL rQuad r⟩)] M) := by
 refine ACalls_fr (L := []) (Q1 := fun v σ' => ∃ M n0 : Nat, σ.next ≤ M ∧ σ.next ≤ n0 ∧ n0 < M ∧ v = .sl n0 0 r.length ∧ σ' = hp E0 [(n0, some ⟨40, 5, encL rQuad r⟩)] M) (by simp []) (fun hlt => ?_) ?_ ⟨_, Tryd.func37, rfl, rfl⟩
 rotate_left
 ·
  rintro v σ1 ⟨M, n0, h0, h1, h2, rfl, rfl⟩
  exact ⟨_, M, rfl, by simp, by simp; try omega, M, n0, h0, h1, h2, rfl, rfl⟩
 generalize σ.next = N0 at hlt ⊢
 refine ACalls_fn tok Tryd.func37 (by kernel_rfl) rfl Tryd.ntmps37 Tryd.results37 rfl ?_
 simp only [argsA, Nat.reduceAdd, hp_next]
 unfold l_toQuadS_o at H
 refine AWP_sr tok [] [0] (fun a σ => a = [(0, .fsl (encL rQuad p0))] ∧ σ = hp E0 [] (N0 + 1)) (fun K hK => ?_) ?_
 ·
  skip
  simp -dsimp -implicitDefEqProofs (maxDischargeDepth := 6)
  exact hK _ _ ⟨rfl, rfl⟩
 rintro a σ ⟨rfl, rfl⟩
 obtain ⟨l1, hl1, H⟩ := bindE H
 refine AWP_sr tok [] [0, 3] (fun a σ => a = [(0, .fsl (encL rQuad p0)), (3, .sl (N0 + 3) 0 l1.length)] ∧ σ = hp E0 [(N0 + 3, some ⟨40, 5, encL rQuad l1⟩)] (N0 + 5)) (fun K hK => ?_) ?_
 ·
  skip
  simp -dsimp -implicitDefEqProofs (maxDischargeDepth := 6) [mak59 hl1]
  exact hK _ _ ⟨rfl, rfl⟩
 rintro a σ ⟨rfl, rfl⟩
 refine AWP_sq [3] fun K1 hK1 => ?_
 refine AWP_sr tok [] [0, 3, 4] (fun a σ => a = [(0, .fsl (encL rQuad p0)), (3, .sl (N0 + 3) 0 l1.length), (4, .int .i64 0)] ∧ σ = hp E0 [(N0 + 3, some ⟨40, 5, encL rQuad l1⟩)] (N0 + 6)) (fun K hK => ?_) ?_
 ·
  skip
  simp -dsimp -implicitDefEqProofs (maxDischargeDepth := 6)
  exact hK _ _ ⟨rfl, rfl⟩
 rintro a σ ⟨rfl, rfl⟩
 refine AWP_block (AWP_thenB ?_)
 obtain ⟨e1, hse1, H⟩ := bindE H
 refine AWP_lp [0, 3, 4] (fun s a σ => ∃ M1 o1 : Nat, N0 ≤ M1 ∧ N0 ≤ o1 ∧ o1 < M1 ∧ a = [(0, .fsl (encL rQuad p0)), (3, .sl o1 0 s.2.length), (4, .int .i64 s.1)] ∧ σ = hp E0 [(o1, some ⟨40, 5, encL rQuad s.2⟩)] M1) (fun s x a σ => x = .exit 0 ∧ Rc G 23 N0 (fun a σ => ∃ M2 o2 : Nat, N0 ≤ M2 ∧ N0 ≤ o2 ∧ o2 < M2 ∧ a = [(3, .sl o2 0 s.length)] ∧ σ = hp E0 [(o2, some ⟨40, 5, encL rQuad s⟩)] M2) (AAct.keep a [3]) σ) hse1 ?_ ?_ ?_
 ·
  refine Rc.kp [0, 3, 4] [(0, .fsl (encL rQuad p0)), (3, .sl (N0 + 3) 0 l1.length), (4, .int .i64 0)] rfl ?_
  exact Rc.fin (AHeap.Sub.refl _) ⟨N0 + 6, (N0 + 3), (by omega), (by omega), (by omega), rfl, rfl⟩
 ·
  clear H hse1
  rintro ⟨s2, s3⟩ fl a σ H ⟨M1, o1, fM1_0, fM1_1, fM1_2, rfl, rfl⟩ K2 O2 hK2 hO2
  unfold l_toQuadS_o_L1 at H; dsimp only at H
  refine AWP_sq [0, 3, 4] fun K3 hK3 => ?_
  refine AWP_sr tok [] [0, 3, 4, 11] (fun a σ => a = [(0, .fsl (encL rQuad p0)), (3, .sl o1 0 s3.length), (4, .int .i64 s2), (11, .bool (ilt s2 (ilen p0)))] ∧ σ = hp E0 [(o1, some ⟨40, 5, encL rQuad s3⟩)] (M1 + 4)) (fun K hK => ?_) ?_
  ·
   skip
   simp -dsimp -implicitDefEqProofs (maxDischargeDepth := 6)
   exact hK _ _ ⟨rfl, rfl⟩
  rintro a σ ⟨rfl, rfl⟩
  refine AWP_cond (ilt s2 (ilen p0)) rfl (fun C1 => ?_) (fun C1 => ?_)
  ·
   replace H := ifT C1 H
   refine AWP_skip ?_
   show K3 _ _
   refine keepE (l := [0, 3, 4]) (x := [(0, .fsl (encL rQuad p0)), (3, .sl o1 0 s3.length), (4, .int .i64 s2)]) rfl fun a' ha => ?_
   refine hK3 _ _ ?_; rw [ha]
   refine Rc.mk ?_
   refine AWP_sq [0, 3, 4] fun K4 hK4 => ?_
   refine AWP_block (AWP_thenB ?_)
   obtain ⟨v5, hv5, H⟩ := bindE H
   obtain ⟨r6, hr6, H⟩ := bindE H
   obtain ⟨v7, hv7, H⟩ := bindE H
   obtain ⟨l8, hl8, H⟩ := bindE H
   refine AWP_rt tok [] [0, 3, 4] (fun a σ => a = [(0, .fsl (encL rQuad p0)), (3, .sl o1 0 s3.length), (4, .int .i64 s2)] ∧ σ = hp E0 [(o1, some ⟨40, 5, encL rQuad l8⟩)] (M1 + 13)) (fun K hK => ?_) ?_
   ·
    skip
    simp -dsimp -implicitDefEqProofs (maxDischargeDepth := 6) [ix56 hv5, ixo59 hv7, (idx_lt3 hv7).2.2, (setx_iff.1 hl8).2.symm]
    refine (c24 hr6).app ?_; try simp -dsimp -implicitDefEqProofs (maxDischargeDepth := 6) [ix56 hv5, ixo59 hv7, (idx_lt3 hv7).2.2, (setx_iff.1 hl8).2.symm]
    exact hK _ _ ⟨rfl, rfl⟩
   rintro a σ ⟨ha, rfl⟩
   (try rw [← setx_len hl8] at ha); (try rw [← setx_len hl8])
   refine hK4 _ _ ?_; rw [ha]
   refine Rc.mk ?_
   refine AWP_rt tok [] [0, 3, 4] (fun a σ => a = [(0, .fsl (encL rQuad p0)), (3, .sl o1 0 l8.length), (4, .int .i64 (iadd .i64 s2 1))] ∧ σ = hp E0 [(o1, some ⟨40, 5, encL rQuad l8⟩)] (M1 + 16)) (fun K hK => ?_) ?_
   ·
    skip
    simp -dsimp -implicitDefEqProofs (maxDischargeDepth := 6)
    exact hK _ _ ⟨rfl, rfl⟩
   rintro a σ ⟨ha, rfl⟩
   replace H := Option.some.inj H; subst H
   refine hK2 _ _ _ rfl ?_; rw [ha]
   exact Rc.fin (AHeap.Sub.refl _) ⟨M1 + 16, o1, (by omega), (by omega), (by omega), rfl, rfl⟩
  ·
   replace H := ifF C1 H
   replace H := Option.some.inj H; subst H
   refine AWP_exit (hO2 _ _ _ _ rfl ⟨rfl, ?_⟩)
   refine Rc.rw (l := [3]) (X := [(3, .sl o1 0 s3.length)]) rfl ?_
   exact Rc.fin (AHeap.Sub.refl _) ⟨M1 + 4, o1, (by omega), (by omega), (by omega), rfl, rfl⟩
 ·
  intro x a σ hx
  obtain ⟨y4, rfl⟩ : ∃ x, x = e1 := ⟨_, rfl⟩
  obtain ⟨rfl, b, τ, hr, M2, o2, fM2_0, fM2_1, fM2_2, rfl, rfl⟩ := hx
  dsimp only at H
  show K1 _ _
  refine hK1 _ _ (Rc_ref hr ?_)
  refine Rc.mk ?_
  refine AWP_sr tok [] [2] (fun a σ => a = [(2, .sl o2 0 y4.length)] ∧ σ = hp E0 [(o2, some ⟨40, 5, encL rQuad y4⟩)] (M2 + 2)) (fun K hK => ?_) ?_
  ·
   skip
   simp -dsimp -implicitDefEqProofs (maxDischargeDepth := 6)
   exact hK _ _ ⟨rfl, rfl⟩
  rintro a σ ⟨rfl, rfl⟩
  replace H := Option.some.inj H; subst H
  refine AWP_kp [2] [(2, .sl o2 0 y4.length)] rfl ?_
  refine AWP_ret ?_
  refine ⟨[.sl o2 0 y4.length], by simp, M2 + 2, o2, by omega, by omega, by omega, ?_, ?_⟩
  ·
   simp [encL_nil]
  ·
   first | rfl | simp [List.set_set]
theorem c38_o {p0 : (List gQuad)} {p1 : Int} {r : (List Int)} (H : i_TaskPlaces_o p0 p1 = some r) {σ : AHeap} : ACalls Tryd.prog G 38 [.fsl (encL rQuad p0), .int .i64 p1] σ (fun v σ' => ∃ M n0 : Nat, σ.next ≤ M ∧ σ.next ≤ n0 ∧ n0 < M ∧ v = .sl n0 0 r.length ∧ σ' = hp σ.objs [(n0, some ⟨3, 1, encL rI r⟩)] M) := by
 refine ACalls_fr (L := []) (Q1 := fun v σ' => ∃ M n0 : Nat, σ.next ≤ M ∧ σ.next ≤ n0 ∧ n0 < M ∧ v = .sl n0 0 r.length ∧ σ' = hp E0 [(n0, some ⟨3, 1, encL rI r⟩)] M) (by simp []) (fun hlt => ?_) ?_ ⟨_, Tryd.func38, rfl, rfl⟩
 rotate_left
 ·
  rintro v σ1 ⟨M, n0, h0, h1, h2, rfl, rfl⟩
  exact ⟨_, M, rfl, by simp, by simp; try omega, M, n0, h0, h1, h2, rfl, rfl⟩
 generalize σ.next = N0 at hlt ⊢
 refine ACalls_fn tok Tryd.func38 (by kernel_rfl) rfl Tryd.ntmps38 Tryd.results38 rfl ?_
 simp only [argsA, Nat.reduceAdd, hp_next]
 unfold i_TaskPlaces_o at H
 refine AWP_sr tok [] [0, 1] (fun a σ => a = [(0, .fsl (encL rQuad p0)), (1, .int .i64 p1)] ∧ σ = hp E0 [] (N0 + 1)) (fun K hK => ?_) ?_
 ·
  skip
  simp -dsimp -implicitDefEqProofs (maxDischargeDepth := 6)
  exact hK _ _ ⟨rfl, rfl⟩
 rintro a σ ⟨rfl, rfl⟩
 refine AWP_sq [0, 1] fun K1 hK1 => ?_
 obtain ⟨r1, hr1, H⟩ := bindE H
 obtain ⟨g2, hg2, H⟩ := bindE H
 obtain ⟨g3, hg3, H⟩ := bindE H
 refine AWP_sr tok [] [0, 1, 19] (fun a σ => a = [(0, .fsl (encL rQuad p0)), (1, .int .i64 p1), (19, .bool g3)] ∧ σ = hp E0 [] (N0 + 12)) (fun K hK => ?_) ?_
 ·
  skip
  simp -dsimp -implicitDefEqProofs (maxDischargeDepth := 6)
  refine (c83 hr1).app ?_; try simp -dsimp -implicitDefEqProofs (maxDischargeDepth := 6)
  cases hbg2 : bnot r1
  ·
   replace hg2 := ifF hbg2 hg2
   replace hg2 := Option.some.inj hg2; subst hg2
   try simp -dsimp -implicitDefEqProofs (maxDischargeDepth := 6) [hbg2]
   cases hbg3 : (ilt p1 1)
   ·
    replace hg3 := ifF hbg3 hg3
    replace hg3 := Option.some.inj hg3; subst hg3
    try simp -dsimp -implicitDefEqProofs (maxDischargeDepth := 6) [hbg2, hbg3]
    exact hK _ _ ⟨rfl, rfl⟩
   ·
    replace hg3 := ifT hbg3 hg3
    replace hg3 := Option.some.inj hg3; subst hg3
    try simp -dsimp -implicitDefEqProofs (maxDischargeDepth := 6) [hbg2, hbg3]
    exact hK _ _ ⟨rfl, rfl⟩
  ·
   replace hg2 := ifT hbg2 hg2
   replace hg2 := Option.some.inj hg2; subst hg2
   try simp -dsimp -implicitDefEqProofs (maxDischargeDepth := 6) [hbg2]
   replace hg3 := ifT rfl hg3
   replace hg3 := Option.some.inj hg3; subst hg3
   try simp -dsimp -implicitDefEqProofs (maxDischargeDepth := 6) [hbg2]
   exact hK _ _ ⟨rfl, rfl⟩
 rintro a σ ⟨rfl, rfl⟩
 refine AWP_cond g3 rfl (fun C1 => ?_) (fun C1 => ?_)
 ·
  replace H := ifT C1 H
  refine AWP_sr tok [] [4] (fun a σ => a = [(4, .nilsl)] ∧ σ = hp E0 [] (N0 + 13)) (fun K hK => ?_) ?_
  ·
   skip
   simp -dsimp -implicitDefEqProofs (maxDischargeDepth := 6)
   exact hK _ _ ⟨rfl, rfl⟩
  rintro a σ ⟨rfl, rfl⟩
  replace H := Option.some.inj H; subst H
  refine AWP_kp [4] [(4, .nilsl)] rfl ?_
  refine gNilS AWP_ref 4 3 1 [(N0 + 13, some ⟨3, 1, encL rI ([] : List Int)⟩)] [(4, .sl (N0 + 13) 0 ([] : List Int).length)] (by simp) (by simp [encL_nil]) [4] rfl ?_
  refine AWP_ret ?_
  refine ⟨[.sl (N0 + 13) 0 ([] : List Int).length], by simp, N0 + 14, N0 + 13, by omega, by omega, by omega, ?_, ?_⟩
  ·
   simp [encL_nil]
  ·
   first | rfl | simp [List.set_set]
 ·
  replace H := ifF C1 H
  refine AWP_skip ?_
  show K1 _ _
  refine keepE (l := [0, 1]) (x := [(0, .fsl (encL rQuad p0)), (1, .int .i64 p1)]) rfl fun a' ha => ?_
  refine hK1 _ _ ?_; rw [ha]
  refine Rc.mk ?_
  refine AWP_sr tok [] [0, 1, 5] (fun a σ => a = [(0, .fsl (encL rQuad p0)), (1, .int .i64 p1), (5, .nilsl)] ∧ σ = hp E0 [] (N0 + 13)) (fun K hK => ?_) ?_
  ·
   skip
   simp -dsimp -implicitDefEqProofs (maxDischargeDepth := 6)
   exact hK _ _ ⟨rfl, rfl⟩
  rintro a σ ⟨rfl, rfl⟩
  refine AWP_sr tok [] [0, 1, 5, 6] (fun a σ => a = [(0, .fsl (encL rQuad p0)), (1, .int .i64 p1), (5, .nilsl), (6, .int .i64 0)] ∧ σ = hp E0 [] (N0 + 14)) (fun K hK => ?_) ?_
  ·
   skip
   simp -dsimp -implicitDefEqProofs (maxDischargeDepth := 6)
   exact hK _ _ ⟨rfl, rfl⟩
  rintro a σ ⟨rfl, rfl⟩
  refine AWP_sq [5] fun K2 hK2 => ?_
  refine AWP_sr tok [] [1, 5, 6, 20, 21, 22] (fun a σ => a = [(1, .int .i64 p1), (5, .nilsl), (6, .int .i64 0), (20, .fsl (encL rQuad p0)), (21, .int .i64 (ilen p0)), (22, .int .i64 0)] ∧ σ = hp E0 [] (N0 + 17)) (fun K hK => ?_) ?_
  ·
   skip
   simp -dsimp -implicitDefEqProofs (maxDischargeDepth := 6)
   exact hK _ _ ⟨rfl, rfl⟩
  rintro a σ ⟨rfl, rfl⟩
  refine AWP_block (AWP_thenB ?_)
  obtain ⟨e1, hse1, H⟩ := bindE H
  refine AWP_lp [1, 5, 6, 20, 21, 22] (fun s a σ => ∃ M1 o1 : Nat, N0 ≤ M1 ∧ N0 ≤ o1 ∧ o1 < M1 ∧ a = [(1, .int .i64 p1), (5, .sl o1 0 s.2.2.length), (6, .int .i64 s.1), (20, .fsl (encL rQuad p0)), (21, .int .i64 (ilen p0)), (22, .int .i64 s.2.1)] ∧ σ = hp E0 [(o1, some ⟨3, 1, encL rI s.2.2⟩)] M1) (fun s x a σ => x = .exit 0 ∧ Rc G 38 N0 (fun a σ => ∃ M2 o2 : Nat, N0 ≤ M2 ∧ N0 ≤ o2 ∧ o2 < M2 ∧ a = [(5, .sl o2 0 s.length)] ∧ σ = hp E0 [(o2, some ⟨3, 1, encL rI s⟩)] M2) (AAct.keep a [5]) σ) hse1 ?_ ?_ ?_
  ·
   refine Rc.kp [1, 5, 6, 20, 21, 22] [(1, .int .i64 p1), (5, .nilsl), (6, .int .i64 0), (20, .fsl (encL rQuad p0)), (21, .int .i64 (ilen p0)), (22, .int .i64 0)] rfl ?_
   refine gNilS Rc_ref 5 3 1 [(N0 + 17, some ⟨3, 1, encL rI ([] : List Int)⟩)] [(1, .int .i64 p1), (5, .sl (N0 + 17) 0 ([] : List Int).length), (6, .int .i64 0), (20, .fsl (encL rQuad p0)), (21, .int .i64 (ilen p0)), (22, .int .i64 0)] (by simp) (by simp [encL_nil]) [1, 5, 6, 20, 21, 22] rfl ?_
   exact Rc.fin (AHeap.Sub.refl _) ⟨N0 + 18, (N0 + 17), (by omega), (by omega), (by omega), rfl, rfl⟩
  ·
   clear H hse1
   rintro ⟨s4, s5, s6⟩ fl a σ H ⟨M1, o1, fM1_0, fM1_1, fM1_2, rfl, rfl⟩ K3 O3 hK3 hO3
   unfold i_TaskPlaces_o_L1 at H; dsimp only at H
   refine AWP_sr tok [] [1, 5, 6, 20, 21, 22, 23] (fun a σ => a = [(1, .int .i64 p1), (5, .sl o1 0 s6.length), (6, .int .i64 s4), (20, .fsl (encL rQuad p0)), (21, .int .i64 (ilen p0)), (22, .int .i64 s5), (23, .bool (ilt s5 (ilen p0)))] ∧ σ = hp E0 [(o1, some ⟨3, 1, encL rI s6⟩)] (M1 + 1)) (fun K hK => ?_) ?_
   ·
    skip
    simp -dsimp -implicitDefEqProofs (maxDischargeDepth := 6)
    exact hK _ _ ⟨rfl, rfl⟩
   rintro a σ ⟨rfl, rfl⟩
   refine AWP_sq [1, 5, 6, 20, 21, 22] fun K4 hK4 => ?_
   refine AWP_cond (ilt s5 (ilen p0)) rfl (fun C2 => ?_) (fun C2 => ?_)
   ·
    replace H := ifT C2 H
    refine AWP_skip ?_
    show K4 _ _
    refine keepE (l := [1, 5, 6, 20, 21, 22]) (x := [(1, .int .i64 p1), (5, .sl o1 0 s6.length), (6, .int .i64 s4), (20, .fsl (encL rQuad p0)), (21, .int .i64 (ilen p0)), (22, .int .i64 s5)]) rfl fun a' ha => ?_
    refine hK4 _ _ ?_; rw [ha]
    refine Rc.mk ?_
    refine AWP_sq [1, 5, 6, 20, 21, 22] fun K5 hK5 => ?_
    refine AWP_block (AWP_thenB ?_)
    obtain ⟨v8, hv8, H⟩ := bindE H
    refine AWP_sr tok [] [1, 5, 6, 8, 20, 21, 22] (fun a σ => a = [(1, .int .i64 p1), (5, .sl o1 0 s6.length), (6, .int .i64 s4), (8, .ptr (M1 + 3) 0 0), (20, .fsl (encL rQuad p0)), (21, .int .i64 (ilen p0)), (22, .int .i64 s5)] ∧ σ = hp E0 [(o1, some ⟨3, 1, encL rI s6⟩), (M1 + 3, some ⟨40, 5, [[.int .i64 v8.Op, .int .i64 v8.Dst, .int .i64 v8.A, .int .i64 v8.B, .int .i64 v8.N]]⟩)] (M1 + 5)) (fun K hK => ?_) ?_
    ·
     skip
     have e0 : ¬ o1 = M1 + 3 := by omega
     have e1 : ¬ M1 + 3 = o1 := by omega
     simp -dsimp -implicitDefEqProofs (maxDischargeDepth := 6) [e0, e1, ix59 hv8]
     exact hK _ _ ⟨rfl, rfl⟩
    rintro a σ ⟨rfl, rfl⟩
    obtain ⟨l9, hl9, H⟩ := bindE H
    have q0 : ∀ σ i, buildSliceA T 24 true i 1 [(0, .int .i64 s4)] σ = some (.fsl (encL rI ([s4] : List Int)), σ) := fun _ _ => rfl
    refine AWP_sr tok [2] [1, 5, 6, 8, 20, 21, 22] (fun a σ => a = [(1, .int .i64 p1), (5, .sl (M1 + 8) 0 l9.length), (6, .int .i64 s4), (8, .ptr (M1 + 3) 0 0), (20, .fsl (encL rQuad p0)), (21, .int .i64 (ilen p0)), (22, .int .i64 s5)] ∧ σ = hp E0 [(M1 + 3, some ⟨40, 5, [[.int .i64 v8.Op, .int .i64 v8.Dst, .int .i64 v8.A, .int .i64 v8.B, .int .i64 v8.N]]⟩), (M1 + 8, some ⟨3, 1, encL rI l9⟩)] (M1 + 10)) (fun K hK => ?_) ?_
    ·
     skip
     have e0 : ¬ o1 = M1 + 3 := by omega
     have e1 : ¬ M1 + 3 = o1 := by omega
     have e2 : ¬ o1 = M1 + 8 := by omega
     have e3 : ¬ M1 + 8 = o1 := by omega
     simp -dsimp -implicitDefEqProofs (maxDischargeDepth := 6) [e0, e1, e2, e3, q0, app24 hl9]
     exact hK _ _ ⟨rfl, rfl⟩
    rintro a σ ⟨rfl, rfl⟩
    obtain ⟨r10, hr10, H⟩ := bindE H
    refine AWP_rt tok [] [1, 5, 6, 20, 21, 22] (fun a σ => a = [(1, .int .i64 p1), (5, .sl (M1 + 8) 0 l9.length), (6, .int .i64 (iadd .i64 s4 (ilen r10))), (20, .fsl (encL rQuad p0)), (21, .int .i64 (ilen p0)), (22, .int .i64 s5)] ∧ σ = hp E0 [(M1 + 3, some ⟨40, 5, [[.int .i64 v8.Op, .int .i64 v8.Dst, .int .i64 v8.A, .int .i64 v8.B, .int .i64 v8.N]]⟩), (M1 + 8, some ⟨3, 1, encL rI l9⟩)] (M1 + 17)) (fun K hK => ?_) ?_
    ·
     skip
     simp -dsimp -implicitDefEqProofs (maxDischargeDepth := 6)
     refine (c68 hr10).app ?_; try simp -dsimp -implicitDefEqProofs (maxDischargeDepth := 6)
     exact hK _ _ ⟨rfl, rfl⟩
    rintro a σ ⟨ha, rfl⟩
    refine hK5 _ _ ?_; rw [ha]
    refine Rc.mk ?_
    refine AWP_rt tok [] [1, 5, 6, 20, 21, 22] (fun a σ => a = [(1, .int .i64 p1), (5, .sl (M1 + 8) 0 l9.length), (6, .int .i64 (iadd .i64 s4 (ilen r10))), (20, .fsl (encL rQuad p0)), (21, .int .i64 (ilen p0)), (22, .int .i64 (iadd .i64 s5 1))] ∧ σ = hp E0 [(M1 + 3, some ⟨40, 5, [[.int .i64 v8.Op, .int .i64 v8.Dst, .int .i64 v8.A, .int .i64 v8.B, .int .i64 v8.N]]⟩), (M1 + 8, some ⟨3, 1, encL rI l9⟩)] (M1 + 19)) (fun K hK => ?_) ?_
    ·
     skip
     simp -dsimp -implicitDefEqProofs (maxDischargeDepth := 6)
     exact hK _ _ ⟨rfl, rfl⟩
    rintro a σ ⟨ha, rfl⟩
    replace H := Option.some.inj H; subst H
    refine hK3 _ _ _ rfl ?_; rw [ha]
    exact Rc.fin (AHeap.Sub.trans (hp_skip (AHeap.Sub.refl _)) (hp_drop rfl (by simp; try omega))) ⟨M1 + 19, (M1 + 8), (by omega), (by omega), (by omega), rfl, rfl⟩
   ·
    replace H := ifF C2 H
    replace H := Option.some.inj H; subst H
    refine AWP_exit (hO3 _ _ _ _ rfl ⟨rfl, ?_⟩)
    refine Rc.rw (l := [5]) (X := [(5, .sl o1 0 s6.length)]) rfl ?_
    exact Rc.fin (AHeap.Sub.refl _) ⟨M1 + 1, o1, (by omega), (by omega), (by omega), rfl, rfl⟩
  ·
   intro x a σ hx
   obtain ⟨y7, rfl⟩ : ∃ x, x = e1 := ⟨_, rfl⟩
   obtain ⟨rfl, b, τ, hr, M2, o2, fM2_0, fM2_1, fM2_2, rfl, rfl⟩ := hx
   dsimp only at H
   show K2 _ _
   refine hK2 _ _ (Rc_ref hr ?_)
   refine Rc.mk ?_
   refine AWP_sr tok [] [4] (fun a σ => a = [(4, .sl o2 0 y7.length)] ∧ σ = hp E0 [(o2, some ⟨3, 1, encL rI y7⟩)] (M2 + 2)) (fun K hK => ?_) ?_
   ·
    skip
    simp -dsimp -implicitDefEqProofs (maxDischargeDepth := 6)
    exact hK _ _ ⟨rfl, rfl⟩
   rintro a σ ⟨rfl, rfl⟩
   replace H := Option.some.inj H; subst H
   refine AWP_kp [4] [(4, .sl o2 0 y7.length)] rfl ?_
   refine AWP_ret ?_
   refine ⟨[.sl o2 0 y7.length], by simp, M2 + 2, o2, by omega, by omega, by omega, ?_, ?_⟩
   ·
    simp [encL_nil]
   ·
    first | rfl | simp [List.set_set]
theorem c38_o_b {p0 : (List gQuad)} {p1 : Int} {r : (List Int)} (H : i_TaskPlaces_o p0 p1 = some r) {σ : AHeap} {args : List AV} (hy : args.map (thawA (fun _ => true) σ 8) = [.fsl (encL rQuad p0), .int .i64 p1]) : ACalls Tryd.prog G 38 args σ (fun v σ' => ∃ M n0 : Nat, σ.next ≤ M ∧ σ.next ≤ n0 ∧ n0 < M ∧ v = .sl n0 0 r.length ∧ σ' = hp σ.objs [(n0, some ⟨3, 1, encL rI r⟩)] M) := by
 refine borrowQ 8 8 (c38_o (σ := ⟨E0, σ.next⟩) H) hy ?_
 rintro _ _ ⟨M, n0, h0, h1, h2, rfl, rfl⟩
 refine ⟨_, M, rfl, by simp [AV.rnf, AV.simp1], fun p hp ob ho => ?_, by simp, M, n0, h0, h1, h2, rfl, rfl⟩
 simp only [List.mem_cons, List.not_mem_nil, or_false] at hp
 rcases hp with rfl <;> (cases ho; first | exact encL_nf (fun x => nf_rI 7 x) _ | simp [AV.nf, AV.simp1])
theorem c42 {p0 : (List Int)} {p1 : Int} {r : Int × (List Int)} (H : l_markIntS p0 p1 = some r) {σ : AHeap} {w0 : Nat} (q0 : σ.objs w0 = some ⟨3, 1, encL rI p0⟩) : ACalls Tryd.prog G 42 [.sl w0 0 p0.length, .int .i64 p1] σ (fun v σ' => ∃ M : Nat, σ.next ≤ M ∧ r.2.length = p0.length ∧ v = .int .i64 r.1 ∧ σ' = hp σ.objs [(w0, some ⟨3, 1, encL rI r.2⟩)] M) := by
 refine ACalls_fr (L := [(w0, some ⟨3, 1, encL rI p0⟩)]) (Q1 := fun v σ' => ∃ M : Nat, σ.next ≤ M ∧ r.2.length = p0.length ∧ v = .int .i64 r.1 ∧ σ' = hp E0 [(w0, some ⟨3, 1, encL rI r.2⟩)] M) (by simp [q0]) (fun hlt => ?_) ?_ ⟨_, Tryd.func42, rfl, rfl⟩
 rotate_left
 ·
  rintro v σ1 ⟨M, h0, h1, rfl, rfl⟩
  exact ⟨_, M, rfl, by simp, by simp; try omega, M, h0, h1, rfl, rfl⟩
 generalize σ.next = N0 at hlt ⊢
 have lw0 : w0 < N0 := hlt _ (.head _) rfl
 refine ACalls_fn tok Tryd.func42 (by kernel_rfl) rfl Tryd.ntmps42 Tryd.results42 rfl ?_
 simp only [argsA, Nat.reduceAdd, hp_next]
 unfold l_markIntS at H
 refine AWP_sr tok [] [0, 1] (fun a σ => a = [(0, .sl w0 0 p0.length), (1, .int .i64 p1)] ∧ σ = hp E0 [(w0, some ⟨3, 1, encL rI p0⟩)] (N0 + 1)) (fun K hK => ?_) ?_
 ·
  skip
  simp -dsimp -implicitDefEqProofs (maxDischargeDepth := 6)
  exact hK _ _ ⟨rfl, rfl⟩
 rintro a σ ⟨rfl, rfl⟩
 refine AWP_sq [1] fun K1 hK1 => ?_
 refine AWP_sr tok [] [0, 1, 5] (fun a σ => a = [(0, .sl w0 0 p0.length), (1, .int .i64 p1), (5, .int .i64 0)] ∧ σ = hp E0 [(w0, some ⟨3, 1, encL rI p0⟩)] (N0 + 2)) (fun K hK => ?_) ?_
 ·
  skip
  simp -dsimp -implicitDefEqProofs (maxDischargeDepth := 6)
  exact hK _ _ ⟨rfl, rfl⟩
 rintro a σ ⟨rfl, rfl⟩
 refine AWP_block (AWP_thenB ?_)
 obtain ⟨e1, hse1, H⟩ := bindE H
 refine AWP_lp [0, 1, 5] (fun s a σ => ∃ M1 : Nat, N0 ≤ M1 ∧ s.2.2.length = p0.length ∧ a = [(0, .sl w0 0 s.2.2.length), (1, .int .i64 s.1), (5, .int .i64 s.2.1)] ∧ σ = hp E0 [(w0, some ⟨3, 1, encL rI s.2.2⟩)] M1) (fun s x a σ => x = .exit 0 ∧ Rc G 19 N0 (fun a σ => ∃ M2 : Nat, N0 ≤ M2 ∧ s.2.length = p0.length ∧ a = [(1, .int .i64 s.1)] ∧ σ = hp E0 [(w0, some ⟨3, 1, encL rI s.2⟩)] M2) (AAct.keep a [1]) σ) hse1 ?_ ?_ ?_
 ·
  refine Rc.kp [0, 1, 5] [(0, .sl w0 0 p0.length), (1, .int .i64 p1), (5, .int .i64 0)] rfl ?_
  exact Rc.fin (AHeap.Sub.refl _) ⟨N0 + 2, (by omega), (by first | rfl | exact rfl | omega), rfl, rfl⟩
 ·
  clear H hse1
  rintro ⟨s1, s2, s3⟩ fl a σ H ⟨M1, fM1_0, fM1_1, rfl, rfl⟩ K2 O2 hK2 hO2
  unfold l_markIntS_L1 at H; dsimp only at H
  refine AWP_sq [0, 1, 5] fun K3 hK3 => ?_
  refine AWP_sr tok [] [0, 1, 5, 9] (fun a σ => a = [(0, .sl w0 0 s3.length), (1, .int .i64 s1), (5, .int .i64 s2), (9, .bool (ilt s2 (ilen s3)))] ∧ σ = hp E0 [(w0, some ⟨3, 1, encL rI s3⟩)] (M1 + 4)) (fun K hK => ?_) ?_
  ·
   skip
   simp -dsimp -implicitDefEqProofs (maxDischargeDepth := 6)
   exact hK _ _ ⟨rfl, rfl⟩
  rintro a σ ⟨rfl, rfl⟩
  refine AWP_cond (ilt s2 (ilen s3)) rfl (fun C1 => ?_) (fun C1 => ?_)
  ·
   replace H := ifT C1 H
   refine AWP_skip ?_
   show K3 _ _
   refine keepE (l := [0, 1, 5]) (x := [(0, .sl w0 0 s3.length), (1, .int .i64 s1), (5, .int .i64 s2)]) rfl fun a' ha => ?_
   refine hK3 _ _ ?_; rw [ha]
   refine Rc.mk ?_
   refine AWP_sq [0, 1, 5] fun K4 hK4 => ?_
   refine AWP_block (AWP_thenB ?_)
   obtain ⟨v6, hv6, H⟩ := bindE H
   obtain ⟨l7, hl7, H⟩ := bindE H
   refine AWP_sr tok [] [0, 1, 5] (fun a σ => a = [(0, .sl w0 0 s3.length), (1, .int .i64 s1), (5, .int .i64 s2)] ∧ σ = hp E0 [(w0, some ⟨3, 1, encL rI l7⟩)] (M1 + 9)) (fun K hK => ?_) ?_
   ·
    skip
    simp -dsimp -implicitDefEqProofs (maxDischargeDepth := 6) [ixo24 hv6, (idx_lt3 hv6).2.2, (setx_iff.1 hl7).2.symm]
    exact hK _ _ ⟨rfl, rfl⟩
   rintro a σ ⟨rfl, rfl⟩
   try rw [← setx_len hl7]
   refine AWP_rt tok [] [0, 1, 5] (fun a σ => a = [(0, .sl w0 0 l7.length), (1, .int .i64 (iadd .i64 s1 1)), (5, .int .i64 s2)] ∧ σ = hp E0 [(w0, some ⟨3, 1, encL rI l7⟩)] (M1 + 12)) (fun K hK => ?_) ?_
   ·
    skip
    simp -dsimp -implicitDefEqProofs (maxDischargeDepth := 6)
    exact hK _ _ ⟨rfl, rfl⟩
   rintro a σ ⟨ha, rfl⟩
   refine hK4 _ _ ?_; rw [ha]
   refine Rc.mk ?_
   refine AWP_rt tok [] [0, 1, 5] (fun a σ => a = [(0, .sl w0 0 l7.length), (1, .int .i64 (iadd .i64 s1 1)), (5, .int .i64 (iadd .i64 s2 1))] ∧ σ = hp E0 [(w0, some ⟨3, 1, encL rI l7⟩)] (M1 + 15)) (fun K hK => ?_) ?_
   ·
    skip
    simp -dsimp -implicitDefEqProofs (maxDischargeDepth := 6)
    exact hK _ _ ⟨rfl, rfl⟩
   rintro a σ ⟨ha, rfl⟩
   replace H := Option.some.inj H; subst H
   refine hK2 _ _ _ rfl ?_; rw [ha]
   exact Rc.fin (AHeap.Sub.refl _) ⟨M1 + 15, (by omega), (by first | rfl | exact ((setx_len hl7).trans fM1_1) | omega), rfl, rfl⟩
  ·
   replace H := ifF C1 H
   replace H := Option.some.inj H; subst H
   refine AWP_exit (hO2 _ _ _ _ rfl ⟨rfl, ?_⟩)
   refine Rc.rw (l := [1]) (X := [(1, .int .i64 s1)]) rfl ?_
   exact Rc.fin (AHeap.Sub.refl _) ⟨M1 + 4, (by omega), (by first | rfl | exact fM1_1 | omega), rfl, rfl⟩
 ·
  intro x a σ hx
  obtain ⟨y4, y5⟩ := e1
  obtain ⟨rfl, b, τ, hr, M2, fM2_0, fM2_1, rfl, rfl⟩ := hx
  dsimp only at H
  show K1 _ _
  refine hK1 _ _ (Rc_ref hr ?_)
  refine Rc.mk ?_
  refine AWP_sr tok [] [4] (fun a σ => a = [(4, .int .i64 y4)] ∧ σ = hp E0 [(w0, some ⟨3, 1, encL rI y5⟩)] (M2 + 2)) (fun K hK => ?_) ?_
  ·
   skip
   simp -dsimp -implicitDefEqProofs (maxDischargeDepth := 6)
   exact hK _ _ ⟨rfl, rfl⟩
  rintro a σ ⟨rfl, rfl⟩
  replace H := Option.some.inj H; subst H
  refine AWP_kp [4] [(4, .int .i64 y4)] rfl ?_
  refine AWP_ret ?_
  refine ⟨[.int .i64 y4], by simp, M2 + 2, by omega, by first | rfl | exact fM2_1 | omega, ?_, ?_⟩
  ·
   simp [encL_nil]
  ·
   first | rfl | simp [List.set_set]
theorem c43 {p0 : (List Int)} {p1 : Int} {r : Int} (H : l_heldIntS p0 p1 = some r) : APure Tryd.prog G 43 [.fsl (encL rI p0), .int .i64 p1] (.int .i64 r) := by
 refine APure_fn (fun N0 => ?_) (by simp)
 refine ACalls_fn tok Tryd.func43 (by kernel_rfl) rfl Tryd.ntmps43 Tryd.results43 rfl ?_
 simp only [argsA, Nat.reduceAdd, hp_next]
 unfold l_heldIntS at H
 refine AWP_sr tok [] [0, 1] (fun a σ => a = [(0, .fsl (encL rI p0)), (1, .int .i64 p1)] ∧ σ = hp E0 [] (N0 + 1)) (fun K hK => ?_) ?_
 ·
  skip
  simp -dsimp -implicitDefEqProofs (maxDischargeDepth := 6)
  exact hK _ _ ⟨rfl, rfl⟩
 rintro a σ ⟨rfl, rfl⟩
 refine AWP_sq [1] fun K1 hK1 => ?_
 refine AWP_sr tok [] [0, 1, 5] (fun a σ => a = [(0, .fsl (encL rI p0)), (1, .int .i64 p1), (5, .int .i64 0)] ∧ σ = hp E0 [] (N0 + 2)) (fun K hK => ?_) ?_
 ·
  skip
  simp -dsimp -implicitDefEqProofs (maxDischargeDepth := 6)
  exact hK _ _ ⟨rfl, rfl⟩
 rintro a σ ⟨rfl, rfl⟩
 refine AWP_block (AWP_thenB ?_)
 obtain ⟨e1, hse1, H⟩ := bindE H
 refine AWP_lp [0, 1, 5] (fun s a σ => ∃ M1 : Nat, N0 ≤ M1 ∧ a = [(0, .fsl (encL rI p0)), (1, .int .i64 s.1), (5, .int .i64 s.2)] ∧ σ = hp E0 [] M1) (fun e x a σ => match e with | .inl s => x = .exit 0 ∧ Rc G 21 N0 (fun a σ => ∃ M2 : Nat, N0 ≤ M2 ∧ a = [(1, .int .i64 s)] ∧ σ = hp E0 [] M2) (AAct.keep a [1]) σ | .inr s => x = .ret ∧ ∃ vs, resA T σ a [.tmp 4] = some vs ∧ ∃ d, thawA (fun _ => true) σ d (tupA vs) = .int .i64 s) hse1 ?_ ?_ ?_
 ·
  refine Rc.kp [0, 1, 5] [(0, .fsl (encL rI p0)), (1, .int .i64 p1), (5, .int .i64 0)] rfl ?_
  exact Rc.fin (AHeap.Sub.refl _) ⟨N0 + 2, (by omega), rfl, rfl⟩
 ·
  clear H hse1
  rintro ⟨s1, s2⟩ fl a σ H ⟨M1, fM1_0, rfl, rfl⟩ K2 O2 hK2 hO2
  unfold l_heldIntS_L1 at H; dsimp only at H
  refine AWP_sq [0, 1, 5] fun K3 hK3 => ?_
  refine AWP_sr tok [] [0, 1, 5, 9] (fun a σ => a = [(0, .fsl (encL rI p0)), (1, .int .i64 s1), (5, .int .i64 s2), (9, .bool (ilt s2 (ilen p0)))] ∧ σ = hp E0 [] (M1 + 4)) (fun K hK => ?_) ?_
  ·
   skip
   simp -dsimp -implicitDefEqProofs (maxDischargeDepth := 6)
   exact hK _ _ ⟨rfl, rfl⟩
  rintro a σ ⟨rfl, rfl⟩
  refine AWP_cond (ilt s2 (ilen p0)) rfl (fun C1 => ?_) (fun C1 => ?_)
  ·
   replace H := ifT C1 H
   refine AWP_skip ?_
   show K3 _ _
   refine keepE (l := [0, 1, 5]) (x := [(0, .fsl (encL rI p0)), (1, .int .i64 s1), (5, .int .i64 s2)]) rfl fun a' ha => ?_
   refine hK3 _ _ ?_; rw [ha]
   refine Rc.mk ?_
   refine AWP_sq [0, 1, 5] fun K4 hK4 => ?_
   refine AWP_block (AWP_thenB ?_)
   refine AWP_sq [0, 1, 5] fun K5 hK5 => ?_
   obtain ⟨v4, hv4, H⟩ := bindE H
   refine AWP_sr tok [] [0, 1, 5, 17] (fun a σ => a = [(0, .fsl (encL rI p0)), (1, .int .i64 s1), (5, .int .i64 s2), (17, .bool (ine v4 s1))] ∧ σ = hp E0 [] (M1 + 10)) (fun K hK => ?_) ?_
   ·
    skip
    simp -dsimp -implicitDefEqProofs (maxDischargeDepth := 6) [ix24 hv4]
    exact hK _ _ ⟨rfl, rfl⟩
   rintro a σ ⟨rfl, rfl⟩
   refine AWP_cond (ine v4 s1) rfl (fun C2 => ?_) (fun C2 => ?_)
   ·
    replace H := ifT C2 H
    refine AWP_sr tok [] [4] (fun a σ => a = [(4, .int .i64 (-1))] ∧ σ = hp E0 [] (M1 + 11)) (fun K hK => ?_) ?_
    ·
     skip
     simp -dsimp -implicitDefEqProofs (maxDischargeDepth := 6)
     exact hK _ _ ⟨rfl, rfl⟩
    rintro a σ ⟨rfl, rfl⟩
    replace H := Option.some.inj H; subst H
    refine AWP_kp [4] [(4, .int .i64 (-1))] rfl ?_
    refine AWP_ret (hO2 _ _ _ _ rfl ⟨rfl, ?_⟩)
    exact ⟨[.int .i64 (-1)], by simp, 4, by simp [encL_nil]⟩
   ·
    replace H := ifF C2 H
    refine AWP_skip ?_
    show K5 _ _
    refine keepE (l := [0, 1, 5]) (x := [(0, .fsl (encL rI p0)), (1, .int .i64 s1), (5, .int .i64 s2)]) rfl fun a' ha => ?_
    refine hK5 _ _ ?_; rw [ha]
    refine Rc.mk ?_
    refine AWP_rt tok [] [0, 1, 5] (fun a σ => a = [(0, .fsl (encL rI p0)), (1, .int .i64 (iadd .i64 s1 1)), (5, .int .i64 s2)] ∧ σ = hp E0 [] (M1 + 13)) (fun K hK => ?_) ?_
    ·
     skip
     simp -dsimp -implicitDefEqProofs (maxDischargeDepth := 6)
     exact hK _ _ ⟨rfl, rfl⟩
    rintro a σ ⟨ha, rfl⟩
    refine hK4 _ _ ?_; rw [ha]
    refine Rc.mk ?_
    refine AWP_rt tok [] [0, 1, 5] (fun a σ => a = [(0, .fsl (encL rI p0)), (1, .int .i64 (iadd .i64 s1 1)), (5, .int .i64 (iadd .i64 s2 1))] ∧ σ = hp E0 [] (M1 + 16)) (fun K hK => ?_) ?_
    ·
     skip
     simp -dsimp -implicitDefEqProofs (maxDischargeDepth := 6)
     exact hK _ _ ⟨rfl, rfl⟩
    rintro a σ ⟨ha, rfl⟩
    replace H := Option.some.inj H; subst H
    refine hK2 _ _ _ rfl ?_; rw [ha]
    exact Rc.fin (AHeap.Sub.refl _) ⟨M1 + 16, (by omega), rfl, rfl⟩
  ·
   replace H := ifF C1 H
   replace H := Option.some.inj H; subst H
   refine AWP_exit (hO2 _ _ _ _ rfl ⟨rfl, ?_⟩)
   refine Rc.rw (l := [1]) (X := [(1, .int .i64 s1)]) rfl ?_
   exact Rc.fin (AHeap.Sub.refl _) ⟨M1 + 4, (by omega), rfl, rfl⟩
 ·
  intro x a σ hx
  rcases e1 with y3 | r0
  ·
   obtain ⟨rfl, b, τ, hr, M2, fM2_0, rfl, rfl⟩ := hx
   dsimp only at H
   show K1 _ _
   refine hK1 _ _ (Rc_ref hr ?_)
   refine Rc.mk ?_
   refine AWP_sr tok [] [4] (fun a σ => a = [(4, .int .i64 y3)] ∧ σ = hp E0 [] (M2 + 2)) (fun K hK => ?_) ?_
   ·
    skip
    simp -dsimp -implicitDefEqProofs (maxDischargeDepth := 6)
    exact hK _ _ ⟨rfl, rfl⟩
   rintro a σ ⟨rfl, rfl⟩
   replace H := Option.some.inj H; subst H
   refine AWP_kp [4] [(4, .int .i64 y3)] rfl ?_
   refine AWP_ret ?_
   exact ⟨[.int .i64 y3], by simp, 4, by simp [encL_nil]⟩
  ·
   obtain ⟨rfl, hx2⟩ := hx
   dsimp only at H
   replace H := Option.some.inj H; subst H; exact hx2
theorem c9 {p0 : (List gQuad)} {p1 : Int} {r : Bool} (H : l_FnExactTaskPlaces p0 p1 = some r) : APure Tryd.prog G 9 [.fsl (encL rQuad p0), .int .i64 p1] (.bool r) := by
 refine APure_fn (fun N0 => ?_) (by simp)
 refine ACalls_fn tok Tryd.func9 (by kernel_rfl) rfl Tryd.ntmps9 Tryd.results9 rfl ?_
 simp only [argsA, Nat.reduceAdd, hp_next]
 unfold l_FnExactTaskPlaces at H
 refine AWP_sr tok [] [0, 1] (fun a σ => a = [(0, .fsl (encL rQuad p0)), (1, .int .i64 p1)] ∧ σ = hp E0 [] (N0 + 1)) (fun K hK => ?_) ?_
 ·
  skip
  simp -dsimp -implicitDefEqProofs (maxDischargeDepth := 6)
  exact hK _ _ ⟨rfl, rfl⟩
 rintro a σ ⟨rfl, rfl⟩
 refine AWP_sr tok [] [0, 1, 5] (fun a σ => a = [(0, .fsl (encL rQuad p0)), (1, .int .i64 p1), (5, .int .i64 1048576)] ∧ σ = hp E0 [] (N0 + 2)) (fun K hK => ?_) ?_
 ·
  skip
  simp -dsimp -implicitDefEqProofs (maxDischargeDepth := 6)
  exact hK _ _ ⟨rfl, rfl⟩
 rintro a σ ⟨rfl, rfl⟩
 obtain ⟨r1, hr1, H⟩ := bindE H
 refine AWP_sr tok [] [0, 1, 5] (fun a σ => a = [(0, .fsl (encL rQuad p0)), (1, .int .i64 p1), (5, .int .i64 r1)] ∧ σ = hp E0 [] (N0 + 6)) (fun K hK => ?_) ?_
 ·
  skip
  simp -dsimp -implicitDefEqProofs (maxDischargeDepth := 6)
  refine (c35 hr1).app ?_; try simp -dsimp -implicitDefEqProofs (maxDischargeDepth := 6)
  exact hK _ _ ⟨rfl, rfl⟩
 rintro a σ ⟨rfl, rfl⟩
 refine AWP_sq [0, 1] fun K1 hK1 => ?_
 refine AWP_sr tok [] [0, 1, 17] (fun a σ => a = [(0, .fsl (encL rQuad p0)), (1, .int .i64 p1), (17, .bool (ilt r1 0))] ∧ σ = hp E0 [] (N0 + 8)) (fun K hK => ?_) ?_
 ·
  skip
  simp -dsimp -implicitDefEqProofs (maxDischargeDepth := 6)
  exact hK _ _ ⟨rfl, rfl⟩
 rintro a σ ⟨rfl, rfl⟩
 refine AWP_cond (ilt r1 0) rfl (fun C1 => ?_) (fun C1 => ?_)
 ·
  replace H := ifT C1 H
  refine AWP_sr tok [] [4] (fun a σ => a = [(4, .bool true)] ∧ σ = hp E0 [] (N0 + 9)) (fun K hK => ?_) ?_
  ·
   skip
   simp -dsimp -implicitDefEqProofs (maxDischargeDepth := 6)
   exact hK _ _ ⟨rfl, rfl⟩
  rintro a σ ⟨rfl, rfl⟩
  replace H := Option.some.inj H; subst H
  refine AWP_kp [4] [(4, .bool true)] rfl ?_
  refine AWP_ret ?_
  exact ⟨[.bool true], by simp, 4, by simp [encL_nil]⟩
 ·
  replace H := ifF C1 H
  refine AWP_skip ?_
  show K1 _ _
  refine keepE (l := [0, 1]) (x := [(0, .fsl (encL rQuad p0)), (1, .int .i64 p1)]) rfl fun a' ha => ?_
  refine hK1 _ _ ?_; rw [ha]
  refine Rc.mk ?_
  obtain ⟨r2, hr2, H⟩ := bindE H
  obtain ⟨r3, hr3, H⟩ := bindE H
  refine AWP_sr tok [] [0, 1, 6] (fun a σ => a = [(0, .fsl (encL rQuad p0)), (1, .int .i64 p1), (6, .fsl (encL rI r3))] ∧ σ = hp E0 [] (N0 + 13)) (fun K hK => ?_) ?_
  ·
   skip
   simp -dsimp -implicitDefEqProofs (maxDischargeDepth := 6)
   refine (c37 hr2).app ?_; try simp -dsimp -implicitDefEqProofs (maxDischargeDepth := 6)
   refine (c36 hr3).app ?_; try simp -dsimp -implicitDefEqProofs (maxDischargeDepth := 6)
   exact hK _ _ ⟨rfl, rfl⟩
  rintro a σ ⟨rfl, rfl⟩
  obtain ⟨r4, hr4, H⟩ := bindE H
  refine AWP_sr tok [] [0, 1, 6, 7] (fun a σ => ∃ M1 o1 : Nat, N0 + 16 ≤ M1 ∧ N0 + 16 ≤ o1 ∧ o1 < M1 ∧ a = [(0, .fsl (encL rQuad p0)), (1, .int .i64 p1), (6, .fsl (encL rI r3)), (7, .sl o1 0 r4.length)] ∧ σ = hp E0 [(o1, some ⟨40, 5, encL rQuad r4⟩)] M1) (fun K hK => ?_) ?_
  ·
   skip
   simp -dsimp -implicitDefEqProofs (maxDischargeDepth := 6)
   refine (c37_o (H := hr4) ).mono ?_; rintro _ _ ⟨M1, o1, fM1_0, fM1_1, fM1_2, rfl, rfl⟩; simp only [hp_next] at fM1_0 fM1_1 fM1_2
   try simp -dsimp -implicitDefEqProofs (maxDischargeDepth := 6) [hp_over_some, hp_over_none]
   exact hK _ _ ⟨M1, o1, (by omega), (by omega), (by omega), rfl, rfl⟩
  rintro a σ ⟨M1, o1, fM1_0, fM1_1, fM1_2, rfl, rfl⟩
  obtain ⟨r5, hr5, H⟩ := bindE H
  refine AWP_sr tok [] [0, 1, 6, 7, 8] (fun a σ => ∃ M2 o2 : Nat, M1 + 4 ≤ M2 ∧ M1 + 4 ≤ o2 ∧ o2 < M2 ∧ a = [(0, .fsl (encL rQuad p0)), (1, .int .i64 p1), (6, .fsl (encL rI r3)), (7, .sl o1 0 r4.length), (8, .sl o2 0 r5.length)] ∧ σ = hp E0 [(o1, some ⟨40, 5, encL rQuad r4⟩), (o2, some ⟨3, 1, encL rI r5⟩)] M2) (fun K hK => ?_) ?_
  ·
   skip
   simp -dsimp -implicitDefEqProofs (maxDischargeDepth := 6)
   refine (c38_o_b (H := hr5) (by simp [])).mono ?_; rintro _ _ ⟨M2, o2, fM2_0, fM2_1, fM2_2, rfl, rfl⟩; simp only [hp_next] at fM2_0 fM2_1 fM2_2
   have eM2_0 : ¬ o2 = o1 := by omega
   have eM2_1 : ¬ o1 = o2 := by omega
   try simp -dsimp -implicitDefEqProofs (maxDischargeDepth := 6) [eM2_0, eM2_1, hp_over_some, hp_over_none]
   exact hK _ _ ⟨M2, o2, (by omega), (by omega), (by omega), rfl, rfl⟩
  rintro a σ ⟨M2, o2, fM2_0, fM2_1, fM2_2, rfl, rfl⟩
  refine AWP_sq [0, 1, 6, 7, 8] fun K2 hK2 => ?_
  obtain ⟨r6, hr6, H⟩ := bindE H
  refine AWP_sr tok [] [0, 1, 6, 7, 8, 30] (fun a σ => a = [(0, .fsl (encL rQuad p0)), (1, .int .i64 p1), (6, .fsl (encL rI r3)), (7, .sl o1 0 r4.length), (8, .sl o2 0 r5.length), (30, .bool (bnot r6))] ∧ σ = hp E0 [(o1, some ⟨40, 5, encL rQuad r4⟩), (o2, some ⟨3, 1, encL rI r5⟩)] (M2 + 4)) (fun K hK => ?_) ?_
  ·
   skip
   have e0 : ¬ o1 = o2 := by omega
   have e1 : ¬ o2 = o1 := by omega
   simp -dsimp -implicitDefEqProofs (maxDischargeDepth := 6) [e0, e1]
   refine (borrow 8 (c39 hr6) (by simp [e0, e1]) rfl).mono ?_; rintro _ _ ⟨rfl, rfl⟩; try simp -dsimp -implicitDefEqProofs (maxDischargeDepth := 6) [e0, e1]
   exact hK _ _ ⟨rfl, rfl⟩
  rintro a σ ⟨rfl, rfl⟩
  refine AWP_cond (bnot r6) rfl (fun C2 => ?_) (fun C2 => ?_)
  ·
   replace H := ifT C2 H
   refine AWP_sr tok [] [4] (fun a σ => a = [(4, .bool false)] ∧ σ = hp E0 [(o1, some ⟨40, 5, encL rQuad r4⟩), (o2, some ⟨3, 1, encL rI r5⟩)] (M2 + 5)) (fun K hK => ?_) ?_
   ·
    skip
    have e0 : ¬ o1 = o2 := by omega
    have e1 : ¬ o2 = o1 := by omega
    simp -dsimp -implicitDefEqProofs (maxDischargeDepth := 6) [e0, e1]
    exact hK _ _ ⟨rfl, rfl⟩
   rintro a σ ⟨rfl, rfl⟩
   replace H := Option.some.inj H; subst H
   refine AWP_kp [4] [(4, .bool false)] rfl ?_
   have z0 : ¬ o1 = o2 := by omega
   have z1 : ¬ o2 = o1 := by omega
   refine AWP_ret ?_
   exact ⟨[.bool false], by simp [z0, z1], 4, by simp [encL_nil, z0, z1]⟩
  ·
   replace H := ifF C2 H
   refine AWP_skip ?_
   show K2 _ _
   refine keepE (l := [0, 1, 6, 7, 8]) (x := [(0, .fsl (encL rQuad p0)), (1, .int .i64 p1), (6, .fsl (encL rI r3)), (7, .sl o1 0 r4.length), (8, .sl o2 0 r5.length)]) rfl fun a' ha => ?_
   refine hK2 _ _ ?_; rw [ha]
   refine Rc.mk ?_
   refine AWP_sq [0, 1, 6, 7, 8] fun K3 hK3 => ?_
   obtain ⟨r7, hr7, H⟩ := bindE H
   refine AWP_sr tok [] [0, 1, 6, 7, 8, 35] (fun a σ => a = [(0, .fsl (encL rQuad p0)), (1, .int .i64 p1), (6, .fsl (encL rI r3)), (7, .sl o1 0 r4.length), (8, .sl o2 0 r5.length), (35, .bool (bnot r7))] ∧ σ = hp E0 [(o1, some ⟨40, 5, encL rQuad r4⟩), (o2, some ⟨3, 1, encL rI r5⟩)] (M2 + 9)) (fun K hK => ?_) ?_
   ·
    skip
    have e0 : ¬ o1 = o2 := by omega
    have e1 : ¬ o2 = o1 := by omega
    simp -dsimp -implicitDefEqProofs (maxDischargeDepth := 6) [e0, e1]
    refine (c37 hr2).app ?_; try simp -dsimp -implicitDefEqProofs (maxDischargeDepth := 6) [e0, e1]
    refine (borrow 8 (c40 hr7) (by simp [e0, e1]) rfl).mono ?_; rintro _ _ ⟨rfl, rfl⟩; try simp -dsimp -implicitDefEqProofs (maxDischargeDepth := 6) [e0, e1]
    exact hK _ _ ⟨rfl, rfl⟩
   rintro a σ ⟨rfl, rfl⟩
   refine AWP_cond (bnot r7) rfl (fun C3 => ?_) (fun C3 => ?_)
   ·
    replace H := ifT C3 H
    refine AWP_sr tok [] [4] (fun a σ => a = [(4, .bool false)] ∧ σ = hp E0 [(o1, some ⟨40, 5, encL rQuad r4⟩), (o2, some ⟨3, 1, encL rI r5⟩)] (M2 + 10)) (fun K hK => ?_) ?_
    ·
     skip
     have e0 : ¬ o1 = o2 := by omega
     have e1 : ¬ o2 = o1 := by omega
     simp -dsimp -implicitDefEqProofs (maxDischargeDepth := 6) [e0, e1]
     exact hK _ _ ⟨rfl, rfl⟩
    rintro a σ ⟨rfl, rfl⟩
    replace H := Option.some.inj H; subst H
    refine AWP_kp [4] [(4, .bool false)] rfl ?_
    have z2 : ¬ o1 = o2 := by omega
    have z3 : ¬ o2 = o1 := by omega
    refine AWP_ret ?_
    exact ⟨[.bool false], by simp [z2, z3], 4, by simp [encL_nil, z2, z3]⟩
   ·
    replace H := ifF C3 H
    refine AWP_skip ?_
    show K3 _ _
    refine keepE (l := [0, 1, 6, 7, 8]) (x := [(0, .fsl (encL rQuad p0)), (1, .int .i64 p1), (6, .fsl (encL rI r3)), (7, .sl o1 0 r4.length), (8, .sl o2 0 r5.length)]) rfl fun a' ha => ?_
    refine hK3 _ _ ?_; rw [ha]
    refine Rc.mk ?_
    refine AWP_sr tok [] [0, 1, 6, 7, 8, 9] (fun a σ => a = [(0, .fsl (encL rQuad p0)), (1, .int .i64 p1), (6, .fsl (encL rI r3)), (7, .sl o1 0 r4.length), (8, .sl o2 0 r5.length), (9, .int .i64 1)] ∧ σ = hp E0 [(o1, some ⟨40, 5, encL rQuad r4⟩), (o2, some ⟨3, 1, encL rI r5⟩)] (M2 + 10)) (fun K hK => ?_) ?_
    ·
     skip
     have e0 : ¬ o1 = o2 := by omega
     have e1 : ¬ o2 = o1 := by omega
     simp -dsimp -implicitDefEqProofs (maxDischargeDepth := 6) [e0, e1]
     exact hK _ _ ⟨rfl, rfl⟩
    rintro a σ ⟨rfl, rfl⟩
    obtain ⟨r8, hr8, H⟩ := bindE H
    refine AWP_sr tok [] [0, 1, 6, 8, 9] (fun a σ => ∃ M3 : Nat, M2 + 14 ≤ M3 ∧ r8.2.length = r4.length ∧ a = [(0, .fsl (encL rQuad p0)), (1, .int .i64 p1), (6, .fsl (encL rI r3)), (8, .sl o2 0 r5.length), (9, .int .i64 r8.1)] ∧ σ = hp E0 [(o1, some ⟨40, 5, encL rQuad r8.2⟩), (o2, some ⟨3, 1, encL rI r5⟩)] M3) (fun K hK => ?_) ?_
    ·
     skip
     have e0 : ¬ o1 = o2 := by omega
     have e1 : ¬ o2 = o1 := by omega
     simp -dsimp -implicitDefEqProofs (maxDischargeDepth := 6) [e0, e1]
     refine (c41 (H := hr8) (by simp [e0, e1])).mono ?_; rintro _ _ ⟨M3, fM3_0, fM3_1, rfl, rfl⟩; simp only [hp_next] at fM3_0
     try simp -dsimp -implicitDefEqProofs (maxDischargeDepth := 6) [e0, e1, hp_over_some, hp_over_none]
     exact hK _ _ ⟨M3, (by omega), fM3_1, rfl, rfl⟩
    rintro a σ ⟨M3, fM3_0, fM3_1, rfl, rfl⟩
    try rw [← fM3_1]
    refine AWP_sq [0, 1, 6, 8] fun K4 hK4 => ?_
    obtain ⟨g9, hg9, H⟩ := bindE H
    refine AWP_sr tok [] [0, 1, 6, 8, 46] (fun a σ => a = [(0, .fsl (encL rQuad p0)), (1, .int .i64 p1), (6, .fsl (encL rI r3)), (8, .sl o2 0 r5.length), (46, .bool g9)] ∧ σ = hp E0 [(o1, some ⟨40, 5, encL rQuad r8.2⟩), (o2, some ⟨3, 1, encL rI r5⟩)] (M3 + 8)) (fun K hK => ?_) ?_
    ·
     skip
     have e0 : ¬ o1 = o2 := by omega
     have e1 : ¬ o2 = o1 := by omega
     simp -dsimp -implicitDefEqProofs (maxDischargeDepth := 6) [e0, e1]
     cases hbg9 : ilt r8.1 0
     ·
      replace hg9 := ifF hbg9 hg9
      replace hg9 := Option.some.inj hg9; subst hg9
      try simp -dsimp -implicitDefEqProofs (maxDischargeDepth := 6) [e0, e1, hbg9]
      refine (borrow 8 (c39 hr6) (by simp [e0, e1, hbg9]) rfl).mono ?_; rintro _ _ ⟨rfl, rfl⟩; try simp -dsimp -implicitDefEqProofs (maxDischargeDepth := 6) [e0, e1, hbg9]
      exact hK _ _ ⟨rfl, rfl⟩
     ·
      replace hg9 := ifT hbg9 hg9
      replace hg9 := Option.some.inj hg9; subst hg9
      try simp -dsimp -implicitDefEqProofs (maxDischargeDepth := 6) [e0, e1, hbg9]
      exact hK _ _ ⟨rfl, rfl⟩
    rintro a σ ⟨rfl, rfl⟩
    refine AWP_cond g9 rfl (fun C4 => ?_) (fun C4 => ?_)
    ·
     replace H := ifT C4 H
     refine AWP_sr tok [] [4] (fun a σ => a = [(4, .bool false)] ∧ σ = hp E0 [(o1, some ⟨40, 5, encL rQuad r8.2⟩), (o2, some ⟨3, 1, encL rI r5⟩)] (M3 + 9)) (fun K hK => ?_) ?_
     ·
      skip
      have e0 : ¬ o1 = o2 := by omega
      have e1 : ¬ o2 = o1 := by omega
      simp -dsimp -implicitDefEqProofs (maxDischargeDepth := 6) [e0, e1]
      exact hK _ _ ⟨rfl, rfl⟩
     rintro a σ ⟨rfl, rfl⟩
     replace H := Option.some.inj H; subst H
     refine AWP_kp [4] [(4, .bool false)] rfl ?_
     have z4 : ¬ o1 = o2 := by omega
     have z5 : ¬ o2 = o1 := by omega
     refine AWP_ret ?_
     exact ⟨[.bool false], by simp [z4, z5], 4, by simp [encL_nil, z4, z5]⟩
    ·
     replace H := ifF C4 H
     refine AWP_skip ?_
     show K4 _ _
     refine keepE (l := [0, 1, 6, 8]) (x := [(0, .fsl (encL rQuad p0)), (1, .int .i64 p1), (6, .fsl (encL rI r3)), (8, .sl o2 0 r5.length)]) rfl fun a' ha => ?_
     refine hK4 _ _ ?_; rw [ha]
     refine Rc.mk ?_
     refine AWP_sr tok [] [0, 1, 6, 8, 10] (fun a σ => a = [(0, .fsl (encL rQuad p0)), (1, .int .i64 p1), (6, .fsl (encL rI r3)), (8, .sl o2 0 r5.length), (10, .int .i64 1)] ∧ σ = hp E0 [(o1, some ⟨40, 5, encL rQuad r8.2⟩), (o2, some ⟨3, 1, encL rI r5⟩)] (M3 + 9)) (fun K hK => ?_) ?_
     ·
      skip
      have e0 : ¬ o1 = o2 := by omega
      have e1 : ¬ o2 = o1 := by omega
      simp -dsimp -implicitDefEqProofs (maxDischargeDepth := 6) [e0, e1]
      exact hK _ _ ⟨rfl, rfl⟩
     rintro a σ ⟨rfl, rfl⟩
     obtain ⟨r10, hr10, H⟩ := bindE H
     refine AWP_sr tok [] [0, 1, 6, 8, 10] (fun a σ => ∃ M4 : Nat, M3 + 13 ≤ M4 ∧ r10.2.length = r5.length ∧ a = [(0, .fsl (encL rQuad p0)), (1, .int .i64 p1), (6, .fsl (encL rI r3)), (8, .sl o2 0 r5.length), (10, .int .i64 r10.1)] ∧ σ = hp E0 [(o1, some ⟨40, 5, encL rQuad r8.2⟩), (o2, some ⟨3, 1, encL rI r10.2⟩)] M4) (fun K hK => ?_) ?_
     ·
      skip
      have e0 : ¬ o1 = o2 := by omega
      have e1 : ¬ o2 = o1 := by omega
      simp -dsimp -implicitDefEqProofs (maxDischargeDepth := 6) [e0, e1]
      refine (c42 (H := hr10) (by simp [e0, e1])).mono ?_; rintro _ _ ⟨M4, fM4_0, fM4_1, rfl, rfl⟩; simp only [hp_next] at fM4_0
      try simp -dsimp -implicitDefEqProofs (maxDischargeDepth := 6) [e0, e1, hp_over_some, hp_over_none]
      exact hK _ _ ⟨M4, (by omega), fM4_1, rfl, rfl⟩
     rintro a σ ⟨M4, fM4_0, fM4_1, rfl, rfl⟩
     try rw [← fM4_1]
     refine AWP_sr tok [] [0, 1, 6, 8, 10, 11] (fun a σ => a = [(0, .fsl (encL rQuad p0)), (1, .int .i64 p1), (6, .fsl (encL rI r3)), (8, .sl o2 0 r10.2.length), (10, .int .i64 r10.1), (11, .int .i64 1)] ∧ σ = hp E0 [(o1, some ⟨40, 5, encL rQuad r8.2⟩), (o2, some ⟨3, 1, encL rI r10.2⟩)] (M4 + 1)) (fun K hK => ?_) ?_
     ·
      skip
      have e0 : ¬ o1 = o2 := by omega
      have e1 : ¬ o2 = o1 := by omega
      simp -dsimp -implicitDefEqProofs (maxDischargeDepth := 6) [e0, e1]
      exact hK _ _ ⟨rfl, rfl⟩
     rintro a σ ⟨rfl, rfl⟩
     obtain ⟨r11, hr11, H⟩ := bindE H
     refine AWP_sr tok [] [0, 1, 6, 8, 10, 11] (fun a σ => a = [(0, .fsl (encL rQuad p0)), (1, .int .i64 p1), (6, .fsl (encL rI r3)), (8, .sl o2 0 r10.2.length), (10, .int .i64 r10.1), (11, .int .i64 r11)] ∧ σ = hp E0 [(o1, some ⟨40, 5, encL rQuad r8.2⟩), (o2, some ⟨3, 1, encL rI r10.2⟩)] (M4 + 5)) (fun K hK => ?_) ?_
     ·
      skip
      have e0 : ¬ o1 = o2 := by omega
      have e1 : ¬ o2 = o1 := by omega
      simp -dsimp -implicitDefEqProofs (maxDischargeDepth := 6) [e0, e1]
      refine (borrow 8 (c43 hr11) (by simp [e0, e1]) rfl).mono ?_; rintro _ _ ⟨rfl, rfl⟩; try simp -dsimp -implicitDefEqProofs (maxDischargeDepth := 6) [e0, e1]
      exact hK _ _ ⟨rfl, rfl⟩
     rintro a σ ⟨rfl, rfl⟩
     refine AWP_sq [0, 1, 6, 8, 10, 11] fun K5 hK5 => ?_
     refine AWP_sr tok [] [0, 1, 6, 8, 10, 11, 54] (fun a σ => a = [(0, .fsl (encL rQuad p0)), (1, .int .i64 p1), (6, .fsl (encL rI r3)), (8, .sl o2 0 r10.2.length), (10, .int .i64 r10.1), (11, .int .i64 r11), (54, .bool (ilt r11 0))] ∧ σ = hp E0 [(o1, some ⟨40, 5, encL rQuad r8.2⟩), (o2, some ⟨3, 1, encL rI r10.2⟩)] (M4 + 7)) (fun K hK => ?_) ?_
     ·
      skip
      have e0 : ¬ o1 = o2 := by omega
      have e1 : ¬ o2 = o1 := by omega
      simp -dsimp -implicitDefEqProofs (maxDischargeDepth := 6) [e0, e1]
      exact hK _ _ ⟨rfl, rfl⟩
     rintro a σ ⟨rfl, rfl⟩
     refine AWP_cond (ilt r11 0) rfl (fun C5 => ?_) (fun C5 => ?_)
     ·
      replace H := ifT C5 H
      refine AWP_sr tok [] [4] (fun a σ => a = [(4, .bool false)] ∧ σ = hp E0 [(o1, some ⟨40, 5, encL rQuad r8.2⟩), (o2, some ⟨3, 1, encL rI r10.2⟩)] (M4 + 8)) (fun K hK => ?_) ?_
      ·
       skip
       have e0 : ¬ o1 = o2 := by omega
       have e1 : ¬ o2 = o1 := by omega
       simp -dsimp -implicitDefEqProofs (maxDischargeDepth := 6) [e0, e1]
       exact hK _ _ ⟨rfl, rfl⟩
      rintro a σ ⟨rfl, rfl⟩
      replace H := Option.some.inj H; subst H
      refine AWP_kp [4] [(4, .bool false)] rfl ?_
      have z6 : ¬ o1 = o2 := by omega
      have z7 : ¬ o2 = o1 := by omega
      refine AWP_ret ?_
      exact ⟨[.bool false], by simp [z6, z7], 4, by simp [encL_nil, z6, z7]⟩
     ·
      replace H := ifF C5 H
      refine AWP_skip ?_
      show K5 _ _
      refine keepE (l := [0, 1, 6, 8, 10, 11]) (x := [(0, .fsl (encL rQuad p0)), (1, .int .i64 p1), (6, .fsl (encL rI r3)), (8, .sl o2 0 r10.2.length), (10, .int .i64 r10.1), (11, .int .i64 r11)]) rfl fun a' ha => ?_
      refine hK5 _ _ ?_; rw [ha]
      refine Rc.mk ?_
      refine AWP_sq [0, 1, 6, 8, 10] fun K6 hK6 => ?_
      refine AWP_sr tok [] [0, 1, 6, 8, 10, 57] (fun a σ => a = [(0, .fsl (encL rQuad p0)), (1, .int .i64 p1), (6, .fsl (encL rI r3)), (8, .sl o2 0 r10.2.length), (10, .int .i64 r10.1), (57, .bool (ine r11 r10.1))] ∧ σ = hp E0 [(o1, some ⟨40, 5, encL rQuad r8.2⟩), (o2, some ⟨3, 1, encL rI r10.2⟩)] (M4 + 10)) (fun K hK => ?_) ?_
      ·
       skip
       have e0 : ¬ o1 = o2 := by omega
       have e1 : ¬ o2 = o1 := by omega
       simp -dsimp -implicitDefEqProofs (maxDischargeDepth := 6) [e0, e1]
       exact hK _ _ ⟨rfl, rfl⟩
      rintro a σ ⟨rfl, rfl⟩
      refine AWP_cond (ine r11 r10.1) rfl (fun C6 => ?_) (fun C6 => ?_)
      ·
       replace H := ifT C6 H
       refine AWP_sr tok [] [4] (fun a σ => a = [(4, .bool false)] ∧ σ = hp E0 [(o1, some ⟨40, 5, encL rQuad r8.2⟩), (o2, some ⟨3, 1, encL rI r10.2⟩)] (M4 + 11)) (fun K hK => ?_) ?_
       ·
        skip
        have e0 : ¬ o1 = o2 := by omega
        have e1 : ¬ o2 = o1 := by omega
        simp -dsimp -implicitDefEqProofs (maxDischargeDepth := 6) [e0, e1]
        exact hK _ _ ⟨rfl, rfl⟩
       rintro a σ ⟨rfl, rfl⟩
       replace H := Option.some.inj H; subst H
       refine AWP_kp [4] [(4, .bool false)] rfl ?_
       have z8 : ¬ o1 = o2 := by omega
       have z9 : ¬ o2 = o1 := by omega
       refine AWP_ret ?_
       exact ⟨[.bool false], by simp [z8, z9], 4, by simp [encL_nil, z8, z9]⟩
      ·
       replace H := ifF C6 H
       refine AWP_skip ?_
       show K6 _ _
       refine keepE (l := [0, 1, 6, 8, 10]) (x := [(0, .fsl (encL rQuad p0)), (1, .int .i64 p1), (6, .fsl (encL rI r3)), (8, .sl o2 0 r10.2.length), (10, .int .i64 r10.1)]) rfl fun a' ha => ?_
       refine hK6 _ _ ?_; rw [ha]
       refine Rc.mk ?_
       obtain ⟨r12, hr12, H⟩ := bindE H
       refine AWP_sr tok [] [6, 8, 10, 12] (fun a σ => a = [(6, .fsl (encL rI r3)), (8, .sl o2 0 r10.2.length), (10, .int .i64 r10.1), (12, .fsl (encL rI r12))] ∧ σ = hp E0 [(o1, some ⟨40, 5, encL rQuad r8.2⟩), (o2, some ⟨3, 1, encL rI r10.2⟩)] (M4 + 15)) (fun K hK => ?_) ?_
       ·
        skip
        have e0 : ¬ o1 = o2 := by omega
        have e1 : ¬ o2 = o1 := by omega
        simp -dsimp -implicitDefEqProofs (maxDischargeDepth := 6) [e0, e1]
        refine (c37 hr2).app ?_; try simp -dsimp -implicitDefEqProofs (maxDischargeDepth := 6) [e0, e1]
        refine (c38 hr12).app ?_; try simp -dsimp -implicitDefEqProofs (maxDischargeDepth := 6) [e0, e1]
        exact hK _ _ ⟨rfl, rfl⟩
       rintro a σ ⟨rfl, rfl⟩
       refine AWP_sq [8, 10] fun K7 hK7 => ?_
       obtain ⟨r13, hr13, H⟩ := bindE H
       refine AWP_sr tok [] [8, 10, 65] (fun a σ => a = [(8, .sl o2 0 r10.2.length), (10, .int .i64 r10.1), (65, .bool (bnot r13))] ∧ σ = hp E0 [(o1, some ⟨40, 5, encL rQuad r8.2⟩), (o2, some ⟨3, 1, encL rI r10.2⟩)] (M4 + 19)) (fun K hK => ?_) ?_
       ·
        skip
        have e0 : ¬ o1 = o2 := by omega
        have e1 : ¬ o2 = o1 := by omega
        simp -dsimp -implicitDefEqProofs (maxDischargeDepth := 6) [e0, e1]
        refine (c39 hr13).app ?_; try simp -dsimp -implicitDefEqProofs (maxDischargeDepth := 6) [e0, e1]
        exact hK _ _ ⟨rfl, rfl⟩
       rintro a σ ⟨rfl, rfl⟩
       refine AWP_cond (bnot r13) rfl (fun C7 => ?_) (fun C7 => ?_)
       ·
        replace H := ifT C7 H
        refine AWP_sr tok [] [4] (fun a σ => a = [(4, .bool false)] ∧ σ = hp E0 [(o1, some ⟨40, 5, encL rQuad r8.2⟩), (o2, some ⟨3, 1, encL rI r10.2⟩)] (M4 + 20)) (fun K hK => ?_) ?_
        ·
         skip
         have e0 : ¬ o1 = o2 := by omega
         have e1 : ¬ o2 = o1 := by omega
         simp -dsimp -implicitDefEqProofs (maxDischargeDepth := 6) [e0, e1]
         exact hK _ _ ⟨rfl, rfl⟩
        rintro a σ ⟨rfl, rfl⟩
        replace H := Option.some.inj H; subst H
        refine AWP_kp [4] [(4, .bool false)] rfl ?_
        have z10 : ¬ o1 = o2 := by omega
        have z11 : ¬ o2 = o1 := by omega
        refine AWP_ret ?_
        exact ⟨[.bool false], by simp [z10, z11], 4, by simp [encL_nil, z10, z11]⟩
       ·
        replace H := ifF C7 H
        refine AWP_skip ?_
        show K7 _ _
        refine keepE (l := [8, 10]) (x := [(8, .sl o2 0 r10.2.length), (10, .int .i64 r10.1)]) rfl fun a' ha => ?_
        refine hK7 _ _ ?_; rw [ha]
        refine Rc.mk ?_
        refine AWP_sr tok [] [8, 10, 11] (fun a σ => a = [(8, .sl o2 0 r10.2.length), (10, .int .i64 r10.1), (11, .int .i64 1)] ∧ σ = hp E0 [(o1, some ⟨40, 5, encL rQuad r8.2⟩), (o2, some ⟨3, 1, encL rI r10.2⟩)] (M4 + 20)) (fun K hK => ?_) ?_
        ·
         skip
         have e0 : ¬ o1 = o2 := by omega
         have e1 : ¬ o2 = o1 := by omega
         simp -dsimp -implicitDefEqProofs (maxDischargeDepth := 6) [e0, e1]
         exact hK _ _ ⟨rfl, rfl⟩
        rintro a σ ⟨rfl, rfl⟩
        refine AWP_sr tok [] [10, 11] (fun a σ => a = [(10, .int .i64 r10.1), (11, .int .i64 r11)] ∧ σ = hp E0 [(o1, some ⟨40, 5, encL rQuad r8.2⟩), (o2, some ⟨3, 1, encL rI r10.2⟩)] (M4 + 24)) (fun K hK => ?_) ?_
        ·
         skip
         have e0 : ¬ o1 = o2 := by omega
         have e1 : ¬ o2 = o1 := by omega
         simp -dsimp -implicitDefEqProofs (maxDischargeDepth := 6) [e0, e1]
         refine (borrow 8 (c43 hr11) (by simp [e0, e1]) rfl).mono ?_; rintro _ _ ⟨rfl, rfl⟩; try simp -dsimp -implicitDefEqProofs (maxDischargeDepth := 6) [e0, e1]
         exact hK _ _ ⟨rfl, rfl⟩
        rintro a σ ⟨rfl, rfl⟩
        refine AWP_sq [10, 11] fun K8 hK8 => ?_
        refine AWP_sr tok [] [10, 11, 70] (fun a σ => a = [(10, .int .i64 r10.1), (11, .int .i64 r11), (70, .bool (ilt r11 0))] ∧ σ = hp E0 [(o1, some ⟨40, 5, encL rQuad r8.2⟩), (o2, some ⟨3, 1, encL rI r10.2⟩)] (M4 + 26)) (fun K hK => ?_) ?_
        ·
         skip
         have e0 : ¬ o1 = o2 := by omega
         have e1 : ¬ o2 = o1 := by omega
         simp -dsimp -implicitDefEqProofs (maxDischargeDepth := 6) [e0, e1]
         exact hK _ _ ⟨rfl, rfl⟩
        rintro a σ ⟨rfl, rfl⟩
        refine AWP_cond (ilt r11 0) rfl (fun C8 => ?_) (fun C8 => ?_)
        ·
         replace H := ifT C8 H
         refine AWP_sr tok [] [4] (fun a σ => a = [(4, .bool false)] ∧ σ = hp E0 [(o1, some ⟨40, 5, encL rQuad r8.2⟩), (o2, some ⟨3, 1, encL rI r10.2⟩)] (M4 + 27)) (fun K hK => ?_) ?_
         ·
          skip
          have e0 : ¬ o1 = o2 := by omega
          have e1 : ¬ o2 = o1 := by omega
          simp -dsimp -implicitDefEqProofs (maxDischargeDepth := 6) [e0, e1]
          exact hK _ _ ⟨rfl, rfl⟩
         rintro a σ ⟨rfl, rfl⟩
         replace H := Option.some.inj H; subst H
         refine AWP_kp [4] [(4, .bool false)] rfl ?_
         have z12 : ¬ o1 = o2 := by omega
         have z13 : ¬ o2 = o1 := by omega
         refine AWP_ret ?_
         exact ⟨[.bool false], by simp [z12, z13], 4, by simp [encL_nil, z12, z13]⟩
        ·
         replace H := ifF C8 H
         refine AWP_skip ?_
         show K8 _ _
         refine keepE (l := [10, 11]) (x := [(10, .int .i64 r10.1), (11, .int .i64 r11)]) rfl fun a' ha => ?_
         refine hK8 _ _ ?_; rw [ha]
         refine Rc.mk ?_
         refine AWP_sq [] fun K9 hK9 => ?_
         refine AWP_sr tok [] [73] (fun a σ => a = [(73, .bool (ine r11 r10.1))] ∧ σ = hp E0 [(o1, some ⟨40, 5, encL rQuad r8.2⟩), (o2, some ⟨3, 1, encL rI r10.2⟩)] (M4 + 29)) (fun K hK => ?_) ?_
         ·
          skip
          have e0 : ¬ o1 = o2 := by omega
          have e1 : ¬ o2 = o1 := by omega
          simp -dsimp -implicitDefEqProofs (maxDischargeDepth := 6) [e0, e1]
          exact hK _ _ ⟨rfl, rfl⟩
         rintro a σ ⟨rfl, rfl⟩
         refine AWP_cond (ine r11 r10.1) rfl (fun C9 => ?_) (fun C9 => ?_)
         ·
          replace H := ifT C9 H
          refine AWP_sr tok [] [4] (fun a σ => a = [(4, .bool false)] ∧ σ = hp E0 [(o1, some ⟨40, 5, encL rQuad r8.2⟩), (o2, some ⟨3, 1, encL rI r10.2⟩)] (M4 + 30)) (fun K hK => ?_) ?_
          ·
           skip
           have e0 : ¬ o1 = o2 := by omega
           have e1 : ¬ o2 = o1 := by omega
           simp -dsimp -implicitDefEqProofs (maxDischargeDepth := 6) [e0, e1]
           exact hK _ _ ⟨rfl, rfl⟩
          rintro a σ ⟨rfl, rfl⟩
          replace H := Option.some.inj H; subst H
          refine AWP_kp [4] [(4, .bool false)] rfl ?_
          have z14 : ¬ o1 = o2 := by omega
          have z15 : ¬ o2 = o1 := by omega
          refine AWP_ret ?_
          exact ⟨[.bool false], by simp [z14, z15], 4, by simp [encL_nil, z14, z15]⟩
         ·
          replace H := ifF C9 H
          refine AWP_skip ?_
          show K9 _ _
          refine keepE (l := []) (x := []) rfl fun a' ha => ?_
          refine hK9 _ _ ?_; rw [ha]
          refine Rc.mk ?_
          refine AWP_sr tok [] [4] (fun a σ => a = [(4, .bool true)] ∧ σ = hp E0 [(o1, some ⟨40, 5, encL rQuad r8.2⟩), (o2, some ⟨3, 1, encL rI r10.2⟩)] (M4 + 30)) (fun K hK => ?_) ?_
          ·
           skip
           have e0 : ¬ o1 = o2 := by omega
           have e1 : ¬ o2 = o1 := by omega
           simp -dsimp -implicitDefEqProofs (maxDischargeDepth := 6) [e0, e1]
           exact hK _ _ ⟨rfl, rfl⟩
          rintro a σ ⟨rfl, rfl⟩
          replace H := Option.some.inj H; subst H
          refine AWP_kp [4] [(4, .bool true)] rfl ?_
          have z16 : ¬ o1 = o2 := by omega
          have z17 : ¬ o2 = o1 := by omega
          refine AWP_ret ?_
          exact ⟨[.bool true], by simp [z16, z17], 4, by simp [encL_nil, z16, z17]⟩
theorem c69_o {p0 : (List Int)} {r : gL6Rd} (H : s_l6Open_o p0 = some r) {σ : AHeap} : ACalls Tryd.prog G 69 [.fsl (encL rI_u8 p0)] σ (fun v σ' => ∃ M n0 : Nat, σ.next ≤ M ∧ σ.next ≤ n0 ∧ n0 < M ∧ v = .ptr n0 0 0 ∧ σ' = hp σ.objs [(n0, some ⟨138, 2, [[.fsl (encL rI_u8 r.b), .int .i64 r.p]]⟩)] M) := by
 refine ACalls_fr (L := []) (Q1 := fun v σ' => ∃ M n0 : Nat, σ.next ≤ M ∧ σ.next ≤ n0 ∧ n0 < M ∧ v = .ptr n0 0 0 ∧ σ' = hp E0 [(n0, some ⟨138, 2, [[.fsl (encL rI_u8 r.b), .int .i64 r.p]]⟩)] M) (by simp []) (fun hlt => ?_) ?_ ⟨_, Tryd.func69, rfl, rfl⟩
 rotate_left
 ·
  rintro v σ1 ⟨M, n0, h0, h1, h2, rfl, rfl⟩
  exact ⟨_, M, rfl, by simp, by simp; try omega, M, n0, h0, h1, h2, rfl, rfl⟩
 generalize σ.next = N0 at hlt ⊢
 refine ACalls_fn tok Tryd.func69 (by kernel_rfl) rfl Tryd.ntmps69 Tryd.results69 rfl ?_
 simp only [argsA, Nat.reduceAdd, hp_next]
 unfold s_l6Open_o at H
 refine AWP_sr tok [] [0] (fun a σ => a = [(0, .fsl (encL rI_u8 p0))] ∧ σ = hp E0 [] (N0 + 1)) (fun K hK => ?_) ?_
 ·
  skip
  simp -dsimp -implicitDefEqProofs (maxDischargeDepth := 6)
  exact hK _ _ ⟨rfl, rfl⟩
 rintro a σ ⟨rfl, rfl⟩
 refine AWP_sq [0] fun K1 hK1 => ?_
 refine AWP_sr tok [] [0, 5] (fun a σ => a = [(0, .fsl (encL rI_u8 p0)), (5, .bool (igt (ilen p0) 2000))] ∧ σ = hp E0 [] (N0 + 4)) (fun K hK => ?_) ?_
 ·
  skip
  simp -dsimp -implicitDefEqProofs (maxDischargeDepth := 6)
  exact hK _ _ ⟨rfl, rfl⟩
 rintro a σ ⟨rfl, rfl⟩
 refine AWP_cond (igt (ilen p0) 2000) rfl (fun C1 => ?_) (fun C1 => ?_)
 ·
  replace H := ifT C1 H
  obtain ⟨l1, hl1, H⟩ := bindE H
  refine AWP_rt tok [] [0] (fun a σ => a = [(0, .fsl (encL rI_u8 l1))] ∧ σ = hp E0 [] (N0 + 7)) (fun K hK => ?_) ?_
  ·
   skip
   simp -dsimp -implicitDefEqProofs (maxDischargeDepth := 6) [cuth_43 hl1]
   exact hK _ _ ⟨rfl, rfl⟩
  rintro a σ ⟨ha, rfl⟩
  refine hK1 _ _ ?_; rw [ha]
  refine Rc.mk ?_
  refine AWP_sr tok [] [2] (fun a σ => a = [(2, .ptr (N0 + 9) 0 0)] ∧ σ = hp E0 [(N0 + 9, some ⟨138, 2, [[.fsl (encL rI_u8 l1), .int .i64 0]]⟩)] (N0 + 11)) (fun K hK => ?_) ?_
  ·
   skip
   simp -dsimp -implicitDefEqProofs (maxDischargeDepth := 6)
   exact hK _ _ ⟨rfl, rfl⟩
  rintro a σ ⟨rfl, rfl⟩
  replace H := Option.some.inj H; subst H
  refine AWP_kp [2] [(2, .ptr (N0 + 9) 0 0)] rfl ?_
  refine AWP_ret ?_
  refine ⟨[.ptr (N0 + 9) 0 0], by simp, N0 + 11, N0 + 9, by omega, by omega, by omega, ?_, ?_⟩
  ·
   simp [encL_nil]
  ·
   first | rfl | simp [List.set_set]
 ·
  replace H := ifF C1 H
  refine AWP_skip ?_
  show K1 _ _
  refine keepE (l := [0]) (x := [(0, .fsl (encL rI_u8 p0))]) rfl fun a' ha => ?_
  refine hK1 _ _ ?_; rw [ha]
  refine Rc.mk ?_
  refine AWP_sr tok [] [2] (fun a σ => a = [(2, .ptr (N0 + 6) 0 0)] ∧ σ = hp E0 [(N0 + 6, some ⟨138, 2, [[.fsl (encL rI_u8 p0), .int .i64 0]]⟩)] (N0 + 8)) (fun K hK => ?_) ?_
  ·
   skip
   simp -dsimp -implicitDefEqProofs (maxDischargeDepth := 6)
   exact hK _ _ ⟨rfl, rfl⟩
  rintro a σ ⟨rfl, rfl⟩
  replace H := Option.some.inj H; subst H
  refine AWP_kp [2] [(2, .ptr (N0 + 6) 0 0)] rfl ?_
  refine AWP_ret ?_
  refine ⟨[.ptr (N0 + 6) 0 0], by simp, N0 + 8, N0 + 6, by omega, by omega, by omega, ?_, ?_⟩
  ·
   simp [encL_nil]
  ·
   first | rfl | simp [List.set_set]
theorem c71 {p0 : gL6Rd} {p1 : Int} {r : Int × gL6Rd} (H : s_l6Rd_pick p0 p1 = some r) {σ : AHeap} {w0 : Nat} {W0 : List (List AV)} {r0_ : Nat} (q0 : σ.objs w0 = some ⟨138, 2, W0⟩) (g0 : W0[r0_]? = some [.fsl (encL rI_u8 p0.b), .int .i64 p0.p]) : ACalls Tryd.prog G 71 [.ptr w0 r0_ 0, .int .i64 p1] σ (fun v σ' => ∃ M : Nat, σ.next ≤ M ∧ v = .int .i64 r.1 ∧ σ' = hp σ.objs [(w0, some ⟨138, 2, W0.set r0_ [.fsl (encL rI_u8 r.2.b), .int .i64 r.2.p]⟩)] M) := by
 refine ACalls_fr (L := [(w0, some ⟨138, 2, W0⟩)]) (Q1 := fun v σ' => ∃ M : Nat, σ.next ≤ M ∧ v = .int .i64 r.1 ∧ σ' = hp E0 [(w0, some ⟨138, 2, W0.set r0_ [.fsl (encL rI_u8 r.2.b), .int .i64 r.2.p]⟩)] M) (by simp [q0]) (fun hlt => ?_) ?_ ⟨_, Tryd.func71, rfl, rfl⟩
 rotate_left
 ·
  rintro v σ1 ⟨M, h0, rfl, rfl⟩
  exact ⟨_, M, rfl, by simp, by simp; try omega, M, h0, rfl, rfl⟩
 generalize σ.next = N0 at hlt ⊢
 have lw0 : w0 < N0 := hlt _ (.head _) rfl
 have gs_W0 : ∀ x, (W0.set r0_ x)[r0_]? = some x := gsetW g0
 rw [show W0 = W0.set r0_ [.fsl (encL rI_u8 p0.b), .int .i64 p0.p] from (set_same g0).symm]
 refine ACalls_fn tok Tryd.func71 (by kernel_rfl) rfl Tryd.ntmps71 Tryd.results71 rfl ?_
 simp only [argsA, Nat.reduceAdd, hp_next]
 unfold s_l6Rd_pick at H
 refine AWP_sr tok [] [0, 1] (fun a σ => a = [(0, .ptr w0 r0_ 0), (1, .int .i64 p1)] ∧ σ = hp E0 [(w0, some ⟨138, 2, W0.set r0_ [.fsl (encL rI_u8 p0.b), .int .i64 p0.p]⟩)] (N0 + 1)) (fun K hK => ?_) ?_
 ·
  skip
  simp -dsimp -implicitDefEqProofs (maxDischargeDepth := 6) [gs_W0, List.set_set]
  exact hK _ _ ⟨rfl, rfl⟩
 rintro a σ ⟨rfl, rfl⟩
 refine AWP_sr tok [] [0, 1] (fun a σ => a = [(0, .ptr w0 r0_ 0), (1, .int .i64 p1)] ∧ σ = hp E0 [(w0, some ⟨138, 2, W0.set r0_ [.fsl (encL rI_u8 p0.b), .int .i64 (iadd .i64 p0.p 1)]⟩)] (N0 + 10)) (fun K hK => ?_) ?_
 ·
  skip
  simp -dsimp -implicitDefEqProofs (maxDischargeDepth := 6) [gs_W0, List.set_set]
  exact hK _ _ ⟨rfl, rfl⟩
 rintro a σ ⟨rfl, rfl⟩
 refine AWP_sq [0, 1] fun K1 hK1 => ?_
 obtain ⟨g1, hg1, H⟩ := bindE H
 refine AWP_sr tok [] [0, 1, 24] (fun a σ => a = [(0, .ptr w0 r0_ 0), (1, .int .i64 p1), (24, .bool g1)] ∧ σ = hp E0 [(w0, some ⟨138, 2, W0.set r0_ [.fsl (encL rI_u8 p0.b), .int .i64 (iadd .i64 p0.p 1)]⟩)] (N0 + 20)) (fun K hK => ?_) ?_
 ·
  skip
  simp -dsimp -implicitDefEqProofs (maxDischargeDepth := 6) [gs_W0, List.set_set]
  cases hbg1 : ilt p1 1
  ·
   replace hg1 := ifF hbg1 hg1
   replace hg1 := Option.some.inj hg1; subst hg1
   try simp -dsimp -implicitDefEqProofs (maxDischargeDepth := 6) [gs_W0, List.set_set, hbg1]
   exact hK _ _ ⟨rfl, rfl⟩
  ·
   replace hg1 := ifT hbg1 hg1
   replace hg1 := Option.some.inj hg1; subst hg1
   try simp -dsimp -implicitDefEqProofs (maxDischargeDepth := 6) [gs_W0, List.set_set, hbg1]
   exact hK _ _ ⟨rfl, rfl⟩
 rintro a σ ⟨rfl, rfl⟩
 refine AWP_cond g1 rfl (fun C1 => ?_) (fun C1 => ?_)
 ·
  replace H := ifT C1 H
  refine AWP_sr tok [] [4] (fun a σ => a = [(4, .int .i64 0)] ∧ σ = hp E0 [(w0, some ⟨138, 2, W0.set r0_ [.fsl (encL rI_u8 p0.b), .int .i64 (iadd .i64 p0.p 1)]⟩)] (N0 + 21)) (fun K hK => ?_) ?_
  ·
   skip
   simp -dsimp -implicitDefEqProofs (maxDischargeDepth := 6) [gs_W0, List.set_set]
   exact hK _ _ ⟨rfl, rfl⟩
  rintro a σ ⟨rfl, rfl⟩
  replace H := Option.some.inj H; subst H
  refine AWP_kp [4] [(4, .int .i64 0)] rfl ?_
  refine AWP_ret ?_
  refine ⟨[.int .i64 0], by simp [gs_W0], N0 + 21, by omega, ?_, ?_⟩
  ·
   simp [encL_nil]
  ·
   first | rfl | simp [List.set_set]
 ·
  replace H := ifF C1 H
  refine AWP_skip ?_
  show K1 _ _
  refine keepE (l := [0, 1]) (x := [(0, .ptr w0 r0_ 0), (1, .int .i64 p1)]) rfl fun a' ha => ?_
  refine hK1 _ _ ?_; rw [ha]
  refine Rc.mk ?_
  refine AWP_sr tok [] [0, 1, 5] (fun a σ => a = [(0, .ptr w0 r0_ 0), (1, .int .i64 p1), (5, .int .i64 (isub .i64 (iadd .i64 p0.p 1) 1))] ∧ σ = hp E0 [(w0, some ⟨138, 2, W0.set r0_ [.fsl (encL rI_u8 p0.b), .int .i64 (iadd .i64 p0.p 1)]⟩)] (N0 + 26)) (fun K hK => ?_) ?_
  ·
   skip
   simp -dsimp -implicitDefEqProofs (maxDischargeDepth := 6) [gs_W0, List.set_set]
   exact hK _ _ ⟨rfl, rfl⟩
  rintro a σ ⟨rfl, rfl⟩
  refine AWP_sq [0, 1, 5] fun K2 hK2 => ?_
  refine AWP_sr tok [] [0, 1, 5, 36] (fun a σ => a = [(0, .ptr w0 r0_ 0), (1, .int .i64 p1), (5, .int .i64 (isub .i64 (iadd .i64 p0.p 1) 1)), (36, .bool (ilt (isub .i64 (iadd .i64 p0.p 1) 1) (ilen p0.b)))] ∧ σ = hp E0 [(w0, some ⟨138, 2, W0.set r0_ [.fsl (encL rI_u8 p0.b), .int .i64 (iadd .i64 p0.p 1)]⟩)] (N0 + 33)) (fun K hK => ?_) ?_
  ·
   skip
   simp -dsimp -implicitDefEqProofs (maxDischargeDepth := 6) [gs_W0, List.set_set]
   exact hK _ _ ⟨rfl, rfl⟩
  rintro a σ ⟨rfl, rfl⟩
  refine AWP_cond (ilt (isub .i64 (iadd .i64 p0.p 1) 1) (ilen p0.b)) rfl (fun C2 => ?_) (fun C2 => ?_)
  ·
   replace H := ifT C2 H
   obtain ⟨v2, hv2, H⟩ := bindE H
   obtain ⟨v3, hv3, H⟩ := bindE H
   refine AWP_sr tok [] [4] (fun a σ => a = [(4, .int .i64 v3)] ∧ σ = hp E0 [(w0, some ⟨138, 2, W0.set r0_ [.fsl (encL rI_u8 p0.b), .int .i64 (iadd .i64 p0.p 1)]⟩)] (N0 + 44)) (fun K hK => ?_) ?_
   ·
    skip
    simp -dsimp -implicitDefEqProofs (maxDischargeDepth := 6) [gs_W0, List.set_set, ix43 hv2, hv3]
    exact hK _ _ ⟨rfl, rfl⟩
   rintro a σ ⟨rfl, rfl⟩
   replace H := Option.some.inj H; subst H
   refine AWP_kp [4] [(4, .int .i64 v3)] rfl ?_
   refine AWP_ret ?_
   refine ⟨[.int .i64 v3], by simp [gs_W0], N0 + 44, by omega, ?_, ?_⟩
   ·
    simp [encL_nil]
   ·
    first | rfl | simp [List.set_set]
  ·
   replace H := ifF C2 H
   refine AWP_skip ?_
   show K2 _ _
   refine keepE (l := [0, 1, 5]) (x := [(0, .ptr w0 r0_ 0), (1, .int .i64 p1), (5, .int .i64 (isub .i64 (iadd .i64 p0.p 1) 1))]) rfl fun a' ha => ?_
   refine hK2 _ _ ?_; rw [ha]
   refine Rc.mk ?_
   obtain ⟨v4, hv4, H⟩ := bindE H
   obtain ⟨v5, hv5, H⟩ := bindE H
   obtain ⟨v6, hv6, H⟩ := bindE H
   obtain ⟨v7, hv7, H⟩ := bindE H
   obtain ⟨v8, hv8, H⟩ := bindE H
   refine AWP_sd tok tokM [] [3, 8, 9, 10, 18, 25, 26, 27, 28, 29, 30, 31, 40, 41, 42, 43] [0, 1, 2, 4, 5, 6, 7, 15, 16, 17, 19, 20, 21, 22, 23, 24, 33, 34, 36, 37, 38, 39, 3, 8, 9, 10, 11, 12, 13, 14, 18, 25, 26, 27, 28, 29, 30, 31, 32, 35, 40, 41, 42, 43, 44, 45] [1, 6] (fun a σ => a = [(1, .int .i64 p1), (6, .int .i64 (iadd .i64 (iadd .i64 (iadd .i64 (imul .i64 (iconv .i64 v5) 131) (imul .i64 (iconv .i64 v7) 1117)) (imul .i64 (isub .i64 (iadd .i64 p0.p 1) 1) 29)) (imul .i64 v8 53)))] ∧ σ = hp E0 [(w0, some ⟨138, 2, W0.set r0_ [.fsl (encL rI_u8 p0.b), .int .i64 (iadd .i64 p0.p 1)]⟩)] (N0 + 79)) (by decide) (fun K hK => ?_) ?_
   ·
    simp only [pickL, nthO_succ, nthO_zero]
    simp -dsimp -implicitDefEqProofs (maxDischargeDepth := 6) [gs_W0, List.set_set, hv4, ix43 hv5, hv6, ix43 hv7, hv8]
    exact hK _ _ ⟨rfl, rfl⟩
   rintro a σ ⟨rfl, rfl⟩
   obtain ⟨v9, hv9, H⟩ := bindE H
   refine AWP_sr tok [] [1, 6] (fun a σ => a = [(1, .int .i64 p1), (6, .int .i64 (ixor .i64 (iadd .i64 (iadd .i64 (iadd .i64 (imul .i64 (iconv .i64 v5) 131) (imul .i64 (iconv .i64 v7) 1117)) (imul .i64 (isub .i64 (iadd .i64 p0.p 1) 1) 29)) (imul .i64 v8 53)) v9))] ∧ σ = hp E0 [(w0, some ⟨138, 2, W0.set r0_ [.fsl (encL rI_u8 p0.b), .int .i64 (iadd .i64 p0.p 1)]⟩)] (N0 + 84)) (fun K hK => ?_) ?_
   ·
    skip
    simp -dsimp -implicitDefEqProofs (maxDischargeDepth := 6) [gs_W0, List.set_set, hv9]
    exact hK _ _ ⟨rfl, rfl⟩
   rintro a σ ⟨rfl, rfl⟩
   obtain ⟨v10, hv10, H⟩ := bindE H
   refine AWP_sr tok [] [4] (fun a σ => a = [(4, .int .i64 v10)] ∧ σ = hp E0 [(w0, some ⟨138, 2, W0.set r0_ [.fsl (encL rI_u8 p0.b), .int .i64 (iadd .i64 p0.p 1)]⟩)] (N0 + 88)) (fun K hK => ?_) ?_
   ·
    skip
    simp -dsimp -implicitDefEqProofs (maxDischargeDepth := 6) [gs_W0, List.set_set, hv10]
    exact hK _ _ ⟨rfl, rfl⟩
   rintro a σ ⟨rfl, rfl⟩
   replace H := Option.some.inj H; subst H
   refine AWP_kp [4] [(4, .int .i64 v10)] rfl ?_
   refine AWP_ret ?_
   refine ⟨[.int .i64 v10], by simp [gs_W0], N0 + 88, by omega, ?_, ?_⟩
   ·
    simp [encL_nil]
   ·
    first | rfl | simp [List.set_set]
theorem c144 {p0 : gL6Rd} {r : Int × gL6Rd} (H : s_l93Reg p0 = some r) {σ : AHeap} {w0 : Nat} {W0 : List (List AV)} {r0_ : Nat} (q0 : σ.objs w0 = some ⟨138, 2, W0⟩) (g0 : W0[r0_]? = some [.fsl (encL rI_u8 p0.b), .int .i64 p0.p]) : ACalls Tryd.prog G 144 [.ptr w0 r0_ 0] σ (fun v σ' => ∃ M : Nat, σ.next ≤ M ∧ v = .int .i64 r.1 ∧ σ' = hp σ.objs [(w0, some ⟨138, 2, W0.set r0_ [.fsl (encL rI_u8 r.2.b), .int .i64 r.2.p]⟩)] M) := by
 refine ACalls_fr (L := [(w0, some ⟨138, 2, W0⟩)]) (Q1 := fun v σ' => ∃ M : Nat, σ.next ≤ M ∧ v = .int .i64 r.1 ∧ σ' = hp E0 [(w0, some ⟨138, 2, W0.set r0_ [.fsl (encL rI_u8 r.2.b), .int .i64 r.2.p]⟩)] M) (by simp [q0]) (fun hlt => ?_) ?_ ⟨_, Tryd.func144, rfl, rfl⟩
 rotate_left
 ·
  rintro v σ1 ⟨M, h0, rfl, rfl⟩
  exact ⟨_, M, rfl, by simp, by simp; try omega, M, h0, rfl, rfl⟩
 generalize σ.next = N0 at hlt ⊢
 have lw0 : w0 < N0 := hlt _ (.head _) rfl
 have gs_W0 : ∀ x, (W0.set r0_ x)[r0_]? = some x := gsetW g0
 rw [show W0 = W0.set r0_ [.fsl (encL rI_u8 p0.b), .int .i64 p0.p] from (set_same g0).symm]
 refine ACalls_fn tok Tryd.func144 (by kernel_rfl) rfl Tryd.ntmps144 Tryd.results144 rfl ?_
 simp only [argsA, Nat.reduceAdd, hp_next]
 unfold s_l93Reg at H
 refine AWP_sr tok [] [0] (fun a σ => a = [(0, .ptr w0 r0_ 0)] ∧ σ = hp E0 [(w0, some ⟨138, 2, W0.set r0_ [.fsl (encL rI_u8 p0.b), .int .i64 p0.p]⟩)] (N0 + 1)) (fun K hK => ?_) ?_
 ·
  skip
  simp -dsimp -implicitDefEqProofs (maxDischargeDepth := 6) [gs_W0, List.set_set]
  exact hK _ _ ⟨rfl, rfl⟩
 rintro a σ ⟨rfl, rfl⟩
 obtain ⟨r1, hr1, H⟩ := bindE H
 refine AWP_sr tok [] [2] (fun a σ => ∃ M1 : Nat, N0 + 4 ≤ M1 ∧ a = [(2, .int .i64 r1.1)] ∧ σ = hp E0 [(w0, some ⟨138, 2, W0.set r0_ [.fsl (encL rI_u8 r1.2.b), .int .i64 r1.2.p]⟩)] M1) (fun K hK => ?_) ?_
 ·
  skip
  simp -dsimp -implicitDefEqProofs (maxDischargeDepth := 6) [gs_W0, List.set_set]
  refine (c71 (W0 := W0.set r0_ [.fsl (encL rI_u8 p0.b), .int .i64 p0.p]) (r0_ := r0_) (H := hr1) (by simp [gs_W0, List.set_set]) (by simp [gs_W0, List.set_set])).mono ?_; rintro _ _ ⟨M1, fM1_0, rfl, rfl⟩; simp only [hp_next] at fM1_0
  try simp -dsimp -implicitDefEqProofs (maxDischargeDepth := 6) [gs_W0, List.set_set, hp_over_some, hp_over_none]
  exact hK _ _ ⟨M1, (by omega), rfl, rfl⟩
 rintro a σ ⟨M1, fM1_0, rfl, rfl⟩
 replace H := Option.some.inj H; subst H
 refine AWP_kp [2] [(2, .int .i64 r1.1)] rfl ?_
 refine AWP_ret ?_
 refine ⟨[.int .i64 r1.1], by simp [gs_W0], M1, by omega, ?_, ?_⟩
 ·
  simp [encL_nil]
 ·
  first | rfl | simp [List.set_set]
theorem c72 {p0 : gL6Rd} {r : Int × gL6Rd} (H : s_l91Word p0 = some r) {σ : AHeap} {w0 : Nat} {W0 : List (List AV)} {r0_ : Nat} (q0 : σ.objs w0 = some ⟨138, 2, W0⟩) (g0 : W0[r0_]? = some [.fsl (encL rI_u8 p0.b), .int .i64 p0.p]) : ACalls Tryd.prog G 72 [.ptr w0 r0_ 0] σ (fun v σ' => ∃ M : Nat, σ.next ≤ M ∧ v = .int .i64 r.1 ∧ σ' = hp σ.objs [(w0, some ⟨138, 2, W0.set r0_ [.fsl (encL rI_u8 r.2.b), .int .i64 r.2.p]⟩)] M) := by
 refine ACalls_fr (L := [(w0, some ⟨138, 2, W0⟩)]) (Q1 := fun v σ' => ∃ M : Nat, σ.next ≤ M ∧ v = .int .i64 r.1 ∧ σ' = hp E0 [(w0, some ⟨138, 2, W0.set r0_ [.fsl (encL rI_u8 r.2.b), .int .i64 r.2.p]⟩)] M) (by simp [q0]) (fun hlt => ?_) ?_ ⟨_, Tryd.func72, rfl, rfl⟩
 rotate_left
 ·
  rintro v σ1 ⟨M, h0, rfl, rfl⟩
  exact ⟨_, M, rfl, by simp, by simp; try omega, M, h0, rfl, rfl⟩
 generalize σ.next = N0 at hlt ⊢
 have lw0 : w0 < N0 := hlt _ (.head _) rfl
 have gs_W0 : ∀ x, (W0.set r0_ x)[r0_]? = some x := gsetW g0
 rw [show W0 = W0.set r0_ [.fsl (encL rI_u8 p0.b), .int .i64 p0.p] from (set_same g0).symm]
 refine ACalls_fn tok Tryd.func72 (by kernel_rfl) rfl Tryd.ntmps72 Tryd.results72 rfl ?_
 simp only [argsA, Nat.reduceAdd, hp_next]
 unfold s_l91Word at H
 refine AWP_sr tok [] [0] (fun a σ => a = [(0, .ptr w0 r0_ 0)] ∧ σ = hp E0 [(w0, some ⟨138, 2, W0.set r0_ [.fsl (encL rI_u8 p0.b), .int .i64 p0.p]⟩)] (N0 + 1)) (fun K hK => ?_) ?_
 ·
  skip
  simp -dsimp -implicitDefEqProofs (maxDischargeDepth := 6) [gs_W0, List.set_set]
  exact hK _ _ ⟨rfl, rfl⟩
 rintro a σ ⟨rfl, rfl⟩
 refine AWP_sq [0] fun K1 hK1 => ?_
 obtain ⟨r1, hr1, H⟩ := bindE H
 refine AWP_sr tok [] [0, 4] (fun a σ => ∃ M1 : Nat, N0 + 3 ≤ M1 ∧ a = [(0, .ptr w0 r0_ 0), (4, .int .i64 r1.1)] ∧ σ = hp E0 [(w0, some ⟨138, 2, W0.set r0_ [.fsl (encL rI_u8 r1.2.b), .int .i64 r1.2.p]⟩)] M1) (fun K hK => ?_) ?_
 ·
  skip
  simp -dsimp -implicitDefEqProofs (maxDischargeDepth := 6) [gs_W0, List.set_set]
  refine (c71 (W0 := W0.set r0_ [.fsl (encL rI_u8 p0.b), .int .i64 p0.p]) (r0_ := r0_) (H := hr1) (by simp [gs_W0, List.set_set]) (by simp [gs_W0, List.set_set])).mono ?_; rintro _ _ ⟨M1, fM1_0, rfl, rfl⟩; simp only [hp_next] at fM1_0
  try simp -dsimp -implicitDefEqProofs (maxDischargeDepth := 6) [gs_W0, List.set_set, hp_over_some, hp_over_none]
  exact hK _ _ ⟨M1, (by omega), rfl, rfl⟩
 rintro a σ ⟨M1, fM1_0, rfl, rfl⟩
 refine AWP_block (AWP_thenB ?_)
 refine AWP_sr tok [] [0, 4, 5] (fun a σ => a = [(0, .ptr w0 r0_ 0), (4, .int .i64 r1.1), (5, .bool (ieq r1.1 0))] ∧ σ = hp E0 [(w0, some ⟨138, 2, W0.set r0_ [.fsl (encL rI_u8 r1.2.b), .int .i64 r1.2.p]⟩)] (M1 + 2)) (fun K hK => ?_) ?_
 ·
  skip
  simp -dsimp -implicitDefEqProofs (maxDischargeDepth := 6) [gs_W0, List.set_set]
  exact hK _ _ ⟨rfl, rfl⟩
 rintro a σ ⟨rfl, rfl⟩
 refine AWP_cond (ieq r1.1 0) rfl (fun C1 => ?_) (fun C1 => ?_)
 ·
  replace H := ifT C1 H
  obtain ⟨r2, hr2, H⟩ := bindE H
  obtain ⟨v3, hv3, H⟩ := bindE H
  have q0 : ∀ σ i, buildSliceA T 24 true i 8 [(0, .int .i64 (-2147483648)), (1, .int .i64 2147483647), (2, .int .i64 (-1)), (3, .int .i64 0), (4, .int .i64 1), (5, .int .i64 (-2147483647)), (6, .int .i64 65536), (7, .int .i64 (-65536))] σ = some (.fsl (encL rI ([-2147483648, 2147483647, -1, 0, 1, -2147483647, 65536, -65536] : List Int)), σ) := fun _ _ => rfl
  refine AWP_sr tok [0] [2] (fun a σ => ∃ M2 : Nat, M1 + 8 ≤ M2 ∧ a = [(2, .int .i64 v3)] ∧ σ = hp E0 [(w0, some ⟨138, 2, W0.set r0_ [.fsl (encL rI_u8 r2.2.b), .int .i64 r2.2.p]⟩)] M2) (fun K hK => ?_) ?_
  ·
   skip
   simp -dsimp -implicitDefEqProofs (maxDischargeDepth := 6) [gs_W0, List.set_set, q0, ix24 hv3]
   refine (c71 (W0 := W0.set r0_ [.fsl (encL rI_u8 r1.2.b), .int .i64 r1.2.p]) (r0_ := r0_) (H := hr2) (by simp [gs_W0, List.set_set, q0, ix24 hv3]) (by simp [gs_W0, List.set_set, q0, ix24 hv3])).mono ?_; rintro _ _ ⟨M2, fM2_0, rfl, rfl⟩; simp only [hp_next] at fM2_0
   try simp -dsimp -implicitDefEqProofs (maxDischargeDepth := 6) [gs_W0, List.set_set, q0, ix24 hv3, hp_over_some, hp_over_none]
   exact hK _ _ ⟨M2, (by omega), rfl, rfl⟩
  rintro a σ ⟨M2, fM2_0, rfl, rfl⟩
  replace H := Option.some.inj H; subst H
  refine AWP_kp [2] [(2, .int .i64 v3)] rfl ?_
  refine AWP_ret ?_
  refine ⟨[.int .i64 v3], by simp [gs_W0], M2, by omega, ?_, ?_⟩
  ·
   simp [encL_nil]
  ·
   first | rfl | simp [List.set_set]
 ·
  replace H := ifF C1 H
  refine AWP_sr tok [] [0, 4, 12] (fun a σ => a = [(0, .ptr w0 r0_ 0), (4, .int .i64 r1.1), (12, .bool (ieq r1.1 1))] ∧ σ = hp E0 [(w0, some ⟨138, 2, W0.set r0_ [.fsl (encL rI_u8 r1.2.b), .int .i64 r1.2.p]⟩)] (M1 + 4)) (fun K hK => ?_) ?_
  ·
   skip
   simp -dsimp -implicitDefEqProofs (maxDischargeDepth := 6) [gs_W0, List.set_set]
   exact hK _ _ ⟨rfl, rfl⟩
  rintro a σ ⟨rfl, rfl⟩
  refine AWP_cond (ieq r1.1 1) rfl (fun C2 => ?_) (fun C2 => ?_)
  ·
   replace H := ifT C2 H
   obtain ⟨r4, hr4, H⟩ := bindE H
   obtain ⟨r5, hr5, H⟩ := bindE H
   obtain ⟨r6, hr6, H⟩ := bindE H
   obtain ⟨r7, hr7, H⟩ := bindE H
   obtain ⟨r8, hr8, H⟩ := bindE H
   refine AWP_sr tok [] [2] (fun a σ => ∃ M3 : Nat, ∃ M4 : Nat, ∃ M5 : Nat, ∃ M6 : Nat, M1 + 20 ≤ M3 ∧ M3 ≤ M4 ∧ M4 ≤ M5 ∧ M5 ≤ M6 ∧ a = [(2, .int .i64 r8)] ∧ σ = hp E0 [(w0, some ⟨138, 2, W0.set r0_ [.fsl (encL rI_u8 r7.2.b), .int .i64 r7.2.p]⟩)] M6) (fun K hK => ?_) ?_
   ·
    skip
    simp -dsimp -implicitDefEqProofs (maxDischargeDepth := 6) [gs_W0, List.set_set]
    refine (c71 (W0 := W0.set r0_ [.fsl (encL rI_u8 r1.2.b), .int .i64 r1.2.p]) (r0_ := r0_) (H := hr4) (by simp [gs_W0, List.set_set]) (by simp [gs_W0, List.set_set])).mono ?_; rintro _ _ ⟨M3, fM3_0, rfl, rfl⟩; simp only [hp_next] at fM3_0
    try simp -dsimp -implicitDefEqProofs (maxDischargeDepth := 6) [gs_W0, List.set_set, hp_over_some, hp_over_none]
    refine (c71 (W0 := W0.set r0_ [.fsl (encL rI_u8 r4.2.b), .int .i64 r4.2.p]) (r0_ := r0_) (H := hr5) (by simp [gs_W0, List.set_set, hp_over_some, hp_over_none]) (by simp [gs_W0, List.set_set, hp_over_some, hp_over_none])).mono ?_; rintro _ _ ⟨M4, fM4_0, rfl, rfl⟩; simp only [hp_next] at fM4_0
    try simp -dsimp -implicitDefEqProofs (maxDischargeDepth := 6) [gs_W0, List.set_set, hp_over_some, hp_over_none, hp_over_some, hp_over_none]
    refine (c71 (W0 := W0.set r0_ [.fsl (encL rI_u8 r5.2.b), .int .i64 r5.2.p]) (r0_ := r0_) (H := hr6) (by simp [gs_W0, List.set_set, hp_over_some, hp_over_none, hp_over_some, hp_over_none]) (by simp [gs_W0, List.set_set, hp_over_some, hp_over_none, hp_over_some, hp_over_none])).mono ?_; rintro _ _ ⟨M5, fM5_0, rfl, rfl⟩; simp only [hp_next] at fM5_0
    try simp -dsimp -implicitDefEqProofs (maxDischargeDepth := 6) [gs_W0, List.set_set, hp_over_some, hp_over_none, hp_over_some, hp_over_none, hp_over_some, hp_over_none]
    refine (c71 (W0 := W0.set r0_ [.fsl (encL rI_u8 r6.2.b), .int .i64 r6.2.p]) (r0_ := r0_) (H := hr7) (by simp [gs_W0, List.set_set, hp_over_some, hp_over_none, hp_over_some, hp_over_none, hp_over_some, hp_over_none]) (by simp [gs_W0, List.set_set, hp_over_some, hp_over_none, hp_over_some, hp_over_none, hp_over_some, hp_over_none])).mono ?_; rintro _ _ ⟨M6, fM6_0, rfl, rfl⟩; simp only [hp_next] at fM6_0
    try simp -dsimp -implicitDefEqProofs (maxDischargeDepth := 6) [gs_W0, List.set_set, hp_over_some, hp_over_none, hp_over_some, hp_over_none, hp_over_some, hp_over_none, hp_over_some, hp_over_none]
    refine (c102 hr8).app ?_; try simp -dsimp -implicitDefEqProofs (maxDischargeDepth := 6) [gs_W0, List.set_set, hp_over_some, hp_over_none, hp_over_some, hp_over_none, hp_over_some, hp_over_none, hp_over_some, hp_over_none]
    exact hK _ _ ⟨M3, M4, M5, M6, (by omega), (by omega), (by omega), (by omega), rfl, rfl⟩
   rintro a σ ⟨M3, M4, M5, M6, fM3_0, fM4_0, fM5_0, fM6_0, rfl, rfl⟩
   replace H := Option.some.inj H; subst H
   refine AWP_kp [2] [(2, .int .i64 r8)] rfl ?_
   refine AWP_ret ?_
   refine ⟨[.int .i64 r8], by simp [gs_W0], M6, by omega, ?_, ?_⟩
   ·
    simp [encL_nil]
   ·
    first | rfl | simp [List.set_set]
  ·
   replace H := ifF C2 H
   refine AWP_sr tok [] [0, 29] (fun a σ => a = [(0, .ptr w0 r0_ 0), (29, .bool (ieq r1.1 2))] ∧ σ = hp E0 [(w0, some ⟨138, 2, W0.set r0_ [.fsl (encL rI_u8 r1.2.b), .int .i64 r1.2.p]⟩)] (M1 + 6)) (fun K hK => ?_) ?_
   ·
    skip
    simp -dsimp -implicitDefEqProofs (maxDischargeDepth := 6) [gs_W0, List.set_set]
    exact hK _ _ ⟨rfl, rfl⟩
   rintro a σ ⟨rfl, rfl⟩
   refine AWP_cond (ieq r1.1 2) rfl (fun C3 => ?_) (fun C3 => ?_)
   ·
    replace H := ifT C3 H
    obtain ⟨r9, hr9, H⟩ := bindE H
    refine AWP_sr tok [] [2] (fun a σ => ∃ M7 : Nat, M1 + 10 ≤ M7 ∧ a = [(2, .int .i64 (isub .i64 0 r9.1))] ∧ σ = hp E0 [(w0, some ⟨138, 2, W0.set r0_ [.fsl (encL rI_u8 r9.2.b), .int .i64 r9.2.p]⟩)] M7) (fun K hK => ?_) ?_
    ·
     skip
     simp -dsimp -implicitDefEqProofs (maxDischargeDepth := 6) [gs_W0, List.set_set]
     refine (c71 (W0 := W0.set r0_ [.fsl (encL rI_u8 r1.2.b), .int .i64 r1.2.p]) (r0_ := r0_) (H := hr9) (by simp [gs_W0, List.set_set]) (by simp [gs_W0, List.set_set])).mono ?_; rintro _ _ ⟨M7, fM7_0, rfl, rfl⟩; simp only [hp_next] at fM7_0
     try simp -dsimp -implicitDefEqProofs (maxDischargeDepth := 6) [gs_W0, List.set_set, hp_over_some, hp_over_none]
     exact hK _ _ ⟨M7, (by omega), rfl, rfl⟩
    rintro a σ ⟨M7, fM7_0, rfl, rfl⟩
    replace H := Option.some.inj H; subst H
    refine AWP_kp [2] [(2, .int .i64 (isub .i64 0 r9.1))] rfl ?_
    refine AWP_ret ?_
    refine ⟨[.int .i64 (isub .i64 0 r9.1)], by simp [gs_W0], M7, by omega, ?_, ?_⟩
    ·
     simp [encL_nil]
    ·
     first | rfl | simp [List.set_set]
   ·
    replace H := ifF C3 H
    refine AWP_skip ?_
    show K1 _ _
    refine keepE (l := [0]) (x := [(0, .ptr w0 r0_ 0)]) rfl fun a' ha => ?_
    refine hK1 _ _ ?_; rw [ha]
    refine Rc.mk ?_
    obtain ⟨r10, hr10, H⟩ := bindE H
    refine AWP_sr tok [] [2] (fun a σ => ∃ M8 : Nat, M1 + 9 ≤ M8 ∧ a = [(2, .int .i64 r10.1)] ∧ σ = hp E0 [(w0, some ⟨138, 2, W0.set r0_ [.fsl (encL rI_u8 r10.2.b), .int .i64 r10.2.p]⟩)] M8) (fun K hK => ?_) ?_
    ·
     skip
     simp -dsimp -implicitDefEqProofs (maxDischargeDepth := 6) [gs_W0, List.set_set]
     refine (c71 (W0 := W0.set r0_ [.fsl (encL rI_u8 r1.2.b), .int .i64 r1.2.p]) (r0_ := r0_) (H := hr10) (by simp [gs_W0, List.set_set]) (by simp [gs_W0, List.set_set])).mono ?_; rintro _ _ ⟨M8, fM8_0, rfl, rfl⟩; simp only [hp_next] at fM8_0
     try simp -dsimp -implicitDefEqProofs (maxDischargeDepth := 6) [gs_W0, List.set_set, hp_over_some, hp_over_none]
     exact hK _ _ ⟨M8, (by omega), rfl, rfl⟩
    rintro a σ ⟨M8, fM8_0, rfl, rfl⟩
    replace H := Option.some.inj H; subst H
    refine AWP_kp [2] [(2, .int .i64 r10.1)] rfl ?_
    refine AWP_ret ?_
    refine ⟨[.int .i64 r10.1], by simp [gs_W0], M8, by omega, ?_, ?_⟩
    ·
     simp [encL_nil]
    ·
     first | rfl | simp [List.set_set]
theorem c145 {p0 : gL6Rd} {r : Int × gL6Rd} (H : s_l91Op p0 = some r) {σ : AHeap} {w0 : Nat} {W0 : List (List AV)} {r0_ : Nat} (q0 : σ.objs w0 = some ⟨138, 2, W0⟩) (g0 : W0[r0_]? = some [.fsl (encL rI_u8 p0.b), .int .i64 p0.p]) : ACalls Tryd.prog G 145 [.ptr w0 r0_ 0] σ (fun v σ' => ∃ M : Nat, σ.next ≤ M ∧ v = .int .i64 r.1 ∧ σ' = hp σ.objs [(w0, some ⟨138, 2, W0.set r0_ [.fsl (encL rI_u8 r.2.b), .int .i64 r.2.p]⟩)] M) := by
 refine ACalls_fr (L := [(w0, some ⟨138, 2, W0⟩)]) (Q1 := fun v σ' => ∃ M : Nat, σ.next ≤ M ∧ v = .int .i64 r.1 ∧ σ' = hp E0 [(w0, some ⟨138, 2, W0.set r0_ [.fsl (encL rI_u8 r.2.b), .int .i64 r.2.p]⟩)] M) (by simp [q0]) (fun hlt => ?_) ?_ ⟨_, Tryd.func145, rfl, rfl⟩
 rotate_left
 ·
  rintro v σ1 ⟨M, h0, rfl, rfl⟩
  exact ⟨_, M, rfl, by simp, by simp; try omega, M, h0, rfl, rfl⟩
 generalize σ.next = N0 at hlt ⊢
 have lw0 : w0 < N0 := hlt _ (.head _) rfl
 have gs_W0 : ∀ x, (W0.set r0_ x)[r0_]? = some x := gsetW g0
 rw [show W0 = W0.set r0_ [.fsl (encL rI_u8 p0.b), .int .i64 p0.p] from (set_same g0).symm]
 refine ACalls_fn tok Tryd.func145 (by kernel_rfl) rfl Tryd.ntmps145 Tryd.results145 rfl ?_
 simp only [argsA, Nat.reduceAdd, hp_next]
 unfold s_l91Op at H
 refine AWP_sr tok [] [0] (fun a σ => a = [(0, .ptr w0 r0_ 0)] ∧ σ = hp E0 [(w0, some ⟨138, 2, W0.set r0_ [.fsl (encL rI_u8 p0.b), .int .i64 p0.p]⟩)] (N0 + 1)) (fun K hK => ?_) ?_
 ·
  skip
  simp -dsimp -implicitDefEqProofs (maxDischargeDepth := 6) [gs_W0, List.set_set]
  exact hK _ _ ⟨rfl, rfl⟩
 rintro a σ ⟨rfl, rfl⟩
 obtain ⟨r1, hr1, H⟩ := bindE H
 refine AWP_sr tok [] [2] (fun a σ => ∃ M1 : Nat, N0 + 5 ≤ M1 ∧ a = [(2, .int .i64 (iadd .i64 1 r1.1))] ∧ σ = hp E0 [(w0, some ⟨138, 2, W0.set r0_ [.fsl (encL rI_u8 r1.2.b), .int .i64 r1.2.p]⟩)] M1) (fun K hK => ?_) ?_
 ·
  skip
  simp -dsimp -implicitDefEqProofs (maxDischargeDepth := 6) [gs_W0, List.set_set]
  refine (c71 (W0 := W0.set r0_ [.fsl (encL rI_u8 p0.b), .int .i64 p0.p]) (r0_ := r0_) (H := hr1) (by simp [gs_W0, List.set_set]) (by simp [gs_W0, List.set_set])).mono ?_; rintro _ _ ⟨M1, fM1_0, rfl, rfl⟩; simp only [hp_next] at fM1_0
  try simp -dsimp -implicitDefEqProofs (maxDischargeDepth := 6) [gs_W0, List.set_set, hp_over_some, hp_over_none]
  exact hK _ _ ⟨M1, (by omega), rfl, rfl⟩
 rintro a σ ⟨M1, fM1_0, rfl, rfl⟩
 replace H := Option.some.inj H; subst H
 refine AWP_kp [2] [(2, .int .i64 (iadd .i64 1 r1.1))] rfl ?_
 refine AWP_ret ?_
 refine ⟨[.int .i64 (iadd .i64 1 r1.1)], by simp [gs_W0], M1, by omega, ?_, ?_⟩
 ·
  simp [encL_nil]
 ·
  first | rfl | simp [List.set_set]
theorem c125 {p0 : gL6Rd} {p1 : Int} {r : gQuad × gL6Rd} (H : s_l93Quad p0 p1 = some r) {σ : AHeap} {w0 : Nat} {W0 : List (List AV)} {r0_ : Nat} (q0 : σ.objs w0 = some ⟨138, 2, W0⟩) (g0 : W0[r0_]? = some [.fsl (encL rI_u8 p0.b), .int .i64 p0.p]) : ACalls Tryd.prog G 125 [.ptr w0 r0_ 0, .int .i64 p1] σ (fun v σ' => ∃ M : Nat, σ.next ≤ M ∧ v = .agg [.int .i64 r.1.Op, .int .i64 r.1.Dst, .int .i64 r.1.A, .int .i64 r.1.B, .int .i64 r.1.N] ∧ σ' = hp σ.objs [(w0, some ⟨138, 2, W0.set r0_ [.fsl (encL rI_u8 r.2.b), .int .i64 r.2.p]⟩)] M) := by
 refine ACalls_fr (L := [(w0, some ⟨138, 2, W0⟩)]) (Q1 := fun v σ' => ∃ M : Nat, σ.next ≤ M ∧ v = .agg [.int .i64 r.1.Op, .int .i64 r.1.Dst, .int .i64 r.1.A, .int .i64 r.1.B, .int .i64 r.1.N] ∧ σ' = hp E0 [(w0, some ⟨138, 2, W0.set r0_ [.fsl (encL rI_u8 r.2.b), .int .i64 r.2.p]⟩)] M) (by simp [q0]) (fun hlt => ?_) ?_ ⟨_, Tryd.func125, rfl, rfl⟩
 rotate_left
 ·
  rintro v σ1 ⟨M, h0, rfl, rfl⟩
  exact ⟨_, M, rfl, by simp, by simp; try omega, M, h0, rfl, rfl⟩
 generalize σ.next = N0 at hlt ⊢
 have lw0 : w0 < N0 := hlt _ (.head _) rfl
 have gs_W0 : ∀ x, (W0.set r0_ x)[r0_]? = some x := gsetW g0
 rw [show W0 = W0.set r0_ [.fsl (encL rI_u8 p0.b), .int .i64 p0.p] from (set_same g0).symm]
 refine ACalls_thaw 1 ?_
 refine ACalls_fn tok Tryd.func125 (by kernel_rfl) rfl Tryd.ntmps125 Tryd.results125 rfl ?_
 simp only [argsA, Nat.reduceAdd, hp_next]
 unfold s_l93Quad at H
 refine AWP_sr tok [] [0, 1, 4] (fun a σ => a = [(0, .ptr w0 r0_ 0), (1, .int .i64 p1), (4, .ptr N0 0 0)] ∧ σ = hp E0 [(w0, some ⟨138, 2, W0.set r0_ [.fsl (encL rI_u8 p0.b), .int .i64 p0.p]⟩), (N0, some ⟨40, 5, [[.int .i64 0, .int .i64 0, .int .i64 0, .int .i64 0, .int .i64 0]]⟩)] (N0 + 1)) (fun K hK => ?_) ?_
 ·
  skip
  have e0 : ¬ w0 = N0 := by omega
  have e1 : ¬ N0 = w0 := by omega
  simp -dsimp -implicitDefEqProofs (maxDischargeDepth := 6) [e0, e1, gs_W0, List.set_set]
  exact hK _ _ ⟨rfl, rfl⟩
 rintro a σ ⟨rfl, rfl⟩
 refine AWP_sq [0, 4] fun K1 hK1 => ?_
 obtain ⟨r1, hr1, H⟩ := bindE H
 refine AWP_sr tok [] [0, 1, 4, 13] (fun a σ => ∃ M1 : Nat, N0 + 3 ≤ M1 ∧ a = [(0, .ptr w0 r0_ 0), (1, .int .i64 p1), (4, .ptr N0 0 0), (13, .int .i64 r1.1)] ∧ σ = hp E0 [(w0, some ⟨138, 2, W0.set r0_ [.fsl (encL rI_u8 r1.2.b), .int .i64 r1.2.p]⟩), (N0, some ⟨40, 5, [[.int .i64 0, .int .i64 0, .int .i64 0, .int .i64 0, .int .i64 0]]⟩)] M1) (fun K hK => ?_) ?_
 ·
  skip
  have e0 : ¬ w0 = N0 := by omega
  have e1 : ¬ N0 = w0 := by omega
  simp -dsimp -implicitDefEqProofs (maxDischargeDepth := 6) [e0, e1, gs_W0, List.set_set]
  refine (c71 (W0 := W0.set r0_ [.fsl (encL rI_u8 p0.b), .int .i64 p0.p]) (r0_ := r0_) (H := hr1) (by simp [e0, e1, gs_W0, List.set_set]) (by simp [e0, e1, gs_W0, List.set_set])).mono ?_; rintro _ _ ⟨M1, fM1_0, rfl, rfl⟩; simp only [hp_next] at fM1_0
  try simp -dsimp -implicitDefEqProofs (maxDischargeDepth := 6) [e0, e1, gs_W0, List.set_set, hp_over_some, hp_over_none]
  exact hK _ _ ⟨M1, (by omega), rfl, rfl⟩
 rintro a σ ⟨M1, fM1_0, rfl, rfl⟩
 refine AWP_block (AWP_thenB ?_)
 obtain ⟨j1, hj1, H⟩ := bindE H
 refine AWP_seq (AWP_named fun K5 hK5 => ?_)
 have hJ1 : ∀ a σ, Rc G 90 N0 (fun a σ => ∃ M2 : Nat, N0 ≤ M2 ∧ N0 < M2 ∧ a = [(0, .ptr w0 r0_ 0), (1, .int .i64 p1), (4, .ptr N0 0 0), (13, .int .i64 r1.1), (14, .bool j1)] ∧ σ = hp E0 [(w0, some ⟨138, 2, W0.set r0_ [.fsl (encL rI_u8 r1.2.b), .int .i64 r1.2.p]⟩), (N0, some ⟨40, 5, [[.int .i64 0, .int .i64 0, .int .i64 0, .int .i64 0, .int .i64 0]]⟩)] M2) (a.keep [0, 1, 4, 13, 14]) σ → K5 a σ := by
  rintro a σ ⟨b, τ, hr, M2, fM2_0, fM2_1, rfl, rfl⟩
  refine hK5 _ _ (AWP_keep [0, 1, 4, 13, 14] (AWP_ref hr ?_))
  refine AWP_cond j1 rfl (fun C1 => ?_) (fun C1 => ?_)
  ·
   replace H := ifT C1 H
   obtain ⟨r3, hr3, H⟩ := bindE H
   obtain ⟨r4, hr4, H⟩ := bindE H
   obtain ⟨r5, hr5, H⟩ := bindE H
   obtain ⟨v6, hv6, H⟩ := bindE H
   have q0 : ∀ σ i, buildSliceA T 24 true i 4 [(0, .int .i64 0), (1, .int .i64 1), (2, .int .i64 2), (3, .int .i64 r4.1)] σ = some (.fsl (encL rI ([0, 1, 2, r4.1] : List Int)), σ) := fun _ _ => rfl
   refine AWP_sr tok [4] [4] (fun a σ => ∃ M3 : Nat, ∃ M4 : Nat, ∃ M5 : Nat, M2 + 11 ≤ M3 ∧ M3 ≤ M4 ∧ M4 ≤ M5 ∧ a = [(4, .ptr N0 0 0)] ∧ σ = hp E0 [(w0, some ⟨138, 2, W0.set r0_ [.fsl (encL rI_u8 r5.2.b), .int .i64 r5.2.p]⟩), (N0, some ⟨40, 5, [[.int .i64 1, .int .i64 r3.1, .int .i64 0, .int .i64 0, .int .i64 v6]]⟩)] M5) (fun K hK => ?_) ?_
   ·
    skip
    have e0 : ¬ w0 = N0 := by omega
    have e1 : ¬ N0 = w0 := by omega
    simp -dsimp -implicitDefEqProofs (maxDischargeDepth := 6) [e0, e1, gs_W0, List.set_set, q0, ix24 hv6]
    refine (c144 (W0 := W0.set r0_ [.fsl (encL rI_u8 r1.2.b), .int .i64 r1.2.p]) (r0_ := r0_) (H := hr3) (by simp [e0, e1, gs_W0, List.set_set, q0, ix24 hv6]) (by simp [e0, e1, gs_W0, List.set_set, q0, ix24 hv6])).mono ?_; rintro _ _ ⟨M3, fM3_0, rfl, rfl⟩; simp only [hp_next] at fM3_0
    try simp -dsimp -implicitDefEqProofs (maxDischargeDepth := 6) [e0, e1, gs_W0, List.set_set, q0, ix24 hv6, hp_over_some, hp_over_none]
    refine (c72 (W0 := W0.set r0_ [.fsl (encL rI_u8 r3.2.b), .int .i64 r3.2.p]) (r0_ := r0_) (H := hr4) (by simp [e0, e1, gs_W0, List.set_set, q0, ix24 hv6, hp_over_some, hp_over_none]) (by simp [e0, e1, gs_W0, List.set_set, q0, ix24 hv6, hp_over_some, hp_over_none])).mono ?_; rintro _ _ ⟨M4, fM4_0, rfl, rfl⟩; simp only [hp_next] at fM4_0
    try simp -dsimp -implicitDefEqProofs (maxDischargeDepth := 6) [e0, e1, gs_W0, List.set_set, q0, ix24 hv6, hp_over_some, hp_over_none, hp_over_some, hp_over_none]
    refine (c71 (W0 := W0.set r0_ [.fsl (encL rI_u8 r4.2.b), .int .i64 r4.2.p]) (r0_ := r0_) (H := hr5) (by simp [e0, e1, gs_W0, List.set_set, q0, ix24 hv6, hp_over_some, hp_over_none, hp_over_some, hp_over_none]) (by simp [e0, e1, gs_W0, List.set_set, q0, ix24 hv6, hp_over_some, hp_over_none, hp_over_some, hp_over_none])).mono ?_; rintro _ _ ⟨M5, fM5_0, rfl, rfl⟩; simp only [hp_next] at fM5_0
    try simp -dsimp -implicitDefEqProofs (maxDischargeDepth := 6) [e0, e1, gs_W0, List.set_set, q0, ix24 hv6, hp_over_some, hp_over_none, hp_over_some, hp_over_none, hp_over_some, hp_over_none]
    exact hK _ _ ⟨M3, M4, M5, (by omega), (by omega), (by omega), rfl, rfl⟩
   rintro a σ ⟨M3, M4, M5, fM3_0, fM4_0, fM5_0, rfl, rfl⟩
   replace H := Option.some.inj H; subst H
   refine AWP_kp [4] [(4, .ptr N0 0 0)] rfl ?_
   have z0 : ¬ w0 = N0 := by omega
   have z1 : ¬ N0 = w0 := by omega
   refine AWP_ret ?_
   refine ⟨[.agg [.int .i64 1, .int .i64 r3.1, .int .i64 0, .int .i64 0, .int .i64 v6]], by simp [z0, z1, gs_W0], (fun o => [N0].contains o), M5, by omega, ?_, ?_⟩
   ·
    simp [encL_nil, z0, z1, gs_W0]
   ·
    rw [cutD (L' := [(w0, some ⟨138, 2, W0.set r0_ [.fsl (encL rI_u8 r5.2.b), .int .i64 r5.2.p]⟩)]) (by simp [z0, z1, gs_W0])]
    first | done | rfl | simp [List.set_set]
  ·
   replace H := ifF C1 H
   obtain ⟨j2, hj2, H⟩ := bindE H
   refine AWP_seq (AWP_named fun K4 hK4 => ?_)
   have hJ2 : ∀ a σ, Rc G 90 N0 (fun a σ => ∃ M6 : Nat, N0 ≤ M6 ∧ N0 < M6 ∧ a = [(0, .ptr w0 r0_ 0), (1, .int .i64 p1), (4, .ptr N0 0 0), (13, .int .i64 r1.1), (27, .bool j2)] ∧ σ = hp E0 [(w0, some ⟨138, 2, W0.set r0_ [.fsl (encL rI_u8 r1.2.b), .int .i64 r1.2.p]⟩), (N0, some ⟨40, 5, [[.int .i64 0, .int .i64 0, .int .i64 0, .int .i64 0, .int .i64 0]]⟩)] M6) (a.keep [0, 1, 4, 13, 27]) σ → K4 a σ := by
    rintro a σ ⟨b, τ, hr, M6, fM6_0, fM6_1, rfl, rfl⟩
    refine hK4 _ _ (AWP_keep [0, 1, 4, 13, 27] (AWP_ref hr ?_))
    refine AWP_cond j2 rfl (fun C2 => ?_) (fun C2 => ?_)
    ·
     replace H := ifT C2 H
     obtain ⟨r8, hr8, H⟩ := bindE H
     refine AWP_sr tok [] [0, 4, 5] (fun a σ => ∃ M7 : Nat, M6 + 3 ≤ M7 ∧ a = [(0, .ptr w0 r0_ 0), (4, .ptr N0 0 0), (5, .int .i64 r8.1)] ∧ σ = hp E0 [(w0, some ⟨138, 2, W0.set r0_ [.fsl (encL rI_u8 r8.2.b), .int .i64 r8.2.p]⟩), (N0, some ⟨40, 5, [[.int .i64 0, .int .i64 0, .int .i64 0, .int .i64 0, .int .i64 0]]⟩)] M7) (fun K hK => ?_) ?_
     ·
      skip
      have e0 : ¬ w0 = N0 := by omega
      have e1 : ¬ N0 = w0 := by omega
      simp -dsimp -implicitDefEqProofs (maxDischargeDepth := 6) [e0, e1, gs_W0, List.set_set]
      refine (c144 (W0 := W0.set r0_ [.fsl (encL rI_u8 r1.2.b), .int .i64 r1.2.p]) (r0_ := r0_) (H := hr8) (by simp [e0, e1, gs_W0, List.set_set]) (by simp [e0, e1, gs_W0, List.set_set])).mono ?_; rintro _ _ ⟨M7, fM7_0, rfl, rfl⟩; simp only [hp_next] at fM7_0
      try simp -dsimp -implicitDefEqProofs (maxDischargeDepth := 6) [e0, e1, gs_W0, List.set_set, hp_over_some, hp_over_none]
      exact hK _ _ ⟨M7, (by omega), rfl, rfl⟩
     rintro a σ ⟨M7, fM7_0, rfl, rfl⟩
     obtain ⟨r9, hr9, H⟩ := bindE H
     refine AWP_sr tok [] [4] (fun a σ => ∃ M8 : Nat, M7 + 5 ≤ M8 ∧ a = [(4, .ptr N0 0 0)] ∧ σ = hp E0 [(w0, some ⟨138, 2, W0.set r0_ [.fsl (encL rI_u8 r9.2.b), .int .i64 r9.2.p]⟩), (N0, some ⟨40, 5, [[.int .i64 2, .int .i64 r8.1, .int .i64 r9.1, .int .i64 0, .int .i64 0]]⟩)] M8) (fun K hK => ?_) ?_
     ·
      skip
      have e0 : ¬ w0 = N0 := by omega
      have e1 : ¬ N0 = w0 := by omega
      simp -dsimp -implicitDefEqProofs (maxDischargeDepth := 6) [e0, e1, gs_W0, List.set_set]
      refine (c144 (W0 := W0.set r0_ [.fsl (encL rI_u8 r8.2.b), .int .i64 r8.2.p]) (r0_ := r0_) (H := hr9) (by simp [e0, e1, gs_W0, List.set_set]) (by simp [e0, e1, gs_W0, List.set_set])).mono ?_; rintro _ _ ⟨M8, fM8_0, rfl, rfl⟩; simp only [hp_next] at fM8_0
      try simp -dsimp -implicitDefEqProofs (maxDischargeDepth := 6) [e0, e1, gs_W0, List.set_set, hp_over_some, hp_over_none]
      exact hK _ _ ⟨M8, (by omega), rfl, rfl⟩
     rintro a σ ⟨M8, fM8_0, rfl, rfl⟩
     replace H := Option.some.inj H; subst H
     refine AWP_kp [4] [(4, .ptr N0 0 0)] rfl ?_
     have z2 : ¬ w0 = N0 := by omega
     have z3 : ¬ N0 = w0 := by omega
     refine AWP_ret ?_
     refine ⟨[.agg [.int .i64 2, .int .i64 r8.1, .int .i64 r9.1, .int .i64 0, .int .i64 0]], by simp [z2, z3, gs_W0], (fun o => [N0].contains o), M8, by omega, ?_, ?_⟩
     ·
      simp [encL_nil, z2, z3, gs_W0]
     ·
      rw [cutD (L' := [(w0, some ⟨138, 2, W0.set r0_ [.fsl (encL rI_u8 r9.2.b), .int .i64 r9.2.p]⟩)]) (by simp [z2, z3, gs_W0])]
      first | done | rfl | simp [List.set_set]
    ·
     replace H := ifF C2 H
     obtain ⟨j3, hj3, H⟩ := bindE H
     refine AWP_seq (AWP_named fun K3 hK3 => ?_)
     have hJ3 : ∀ a σ, Rc G 90 N0 (fun a σ => ∃ M9 : Nat, N0 ≤ M9 ∧ N0 < M9 ∧ a = [(0, .ptr w0 r0_ 0), (1, .int .i64 p1), (4, .ptr N0 0 0), (13, .int .i64 r1.1), (36, .bool j3)] ∧ σ = hp E0 [(w0, some ⟨138, 2, W0.set r0_ [.fsl (encL rI_u8 r1.2.b), .int .i64 r1.2.p]⟩), (N0, some ⟨40, 5, [[.int .i64 0, .int .i64 0, .int .i64 0, .int .i64 0, .int .i64 0]]⟩)] M9) (a.keep [0, 1, 4, 13, 36]) σ → K3 a σ := by
      rintro a σ ⟨b, τ, hr, M9, fM9_0, fM9_1, rfl, rfl⟩
      refine hK3 _ _ (AWP_keep [0, 1, 4, 13, 36] (AWP_ref hr ?_))
      refine AWP_cond j3 rfl (fun C3 => ?_) (fun C3 => ?_)
      ·
       replace H := ifT C3 H
       obtain ⟨r11, hr11, H⟩ := bindE H
       refine AWP_sr tok [] [0, 4, 6] (fun a σ => ∃ M10 : Nat, M9 + 3 ≤ M10 ∧ a = [(0, .ptr w0 r0_ 0), (4, .ptr N0 0 0), (6, .int .i64 r11.1)] ∧ σ = hp E0 [(w0, some ⟨138, 2, W0.set r0_ [.fsl (encL rI_u8 r11.2.b), .int .i64 r11.2.p]⟩), (N0, some ⟨40, 5, [[.int .i64 0, .int .i64 0, .int .i64 0, .int .i64 0, .int .i64 0]]⟩)] M10) (fun K hK => ?_) ?_
       ·
        skip
        have e0 : ¬ w0 = N0 := by omega
        have e1 : ¬ N0 = w0 := by omega
        simp -dsimp -implicitDefEqProofs (maxDischargeDepth := 6) [e0, e1, gs_W0, List.set_set]
        refine (c144 (W0 := W0.set r0_ [.fsl (encL rI_u8 r1.2.b), .int .i64 r1.2.p]) (r0_ := r0_) (H := hr11) (by simp [e0, e1, gs_W0, List.set_set]) (by simp [e0, e1, gs_W0, List.set_set])).mono ?_; rintro _ _ ⟨M10, fM10_0, rfl, rfl⟩; simp only [hp_next] at fM10_0
        try simp -dsimp -implicitDefEqProofs (maxDischargeDepth := 6) [e0, e1, gs_W0, List.set_set, hp_over_some, hp_over_none]
        exact hK _ _ ⟨M10, (by omega), rfl, rfl⟩
       rintro a σ ⟨M10, fM10_0, rfl, rfl⟩
       obtain ⟨r12, hr12, H⟩ := bindE H
       refine AWP_sr tok [] [0, 4, 6, 7] (fun a σ => ∃ M11 : Nat, M10 + 3 ≤ M11 ∧ a = [(0, .ptr w0 r0_ 0), (4, .ptr N0 0 0), (6, .int .i64 r11.1), (7, .int .i64 r12.1)] ∧ σ = hp E0 [(w0, some ⟨138, 2, W0.set r0_ [.fsl (encL rI_u8 r12.2.b), .int .i64 r12.2.p]⟩), (N0, some ⟨40, 5, [[.int .i64 0, .int .i64 0, .int .i64 0, .int .i64 0, .int .i64 0]]⟩)] M11) (fun K hK => ?_) ?_
       ·
        skip
        have e0 : ¬ w0 = N0 := by omega
        have e1 : ¬ N0 = w0 := by omega
        simp -dsimp -implicitDefEqProofs (maxDischargeDepth := 6) [e0, e1, gs_W0, List.set_set]
        refine (c144 (W0 := W0.set r0_ [.fsl (encL rI_u8 r11.2.b), .int .i64 r11.2.p]) (r0_ := r0_) (H := hr12) (by simp [e0, e1, gs_W0, List.set_set]) (by simp [e0, e1, gs_W0, List.set_set])).mono ?_; rintro _ _ ⟨M11, fM11_0, rfl, rfl⟩; simp only [hp_next] at fM11_0
        try simp -dsimp -implicitDefEqProofs (maxDischargeDepth := 6) [e0, e1, gs_W0, List.set_set, hp_over_some, hp_over_none]
        exact hK _ _ ⟨M11, (by omega), rfl, rfl⟩
       rintro a σ ⟨M11, fM11_0, rfl, rfl⟩
       obtain ⟨r13, hr13, H⟩ := bindE H
       refine AWP_sr tok [] [0, 4, 6, 7, 8] (fun a σ => ∃ M12 : Nat, M11 + 3 ≤ M12 ∧ a = [(0, .ptr w0 r0_ 0), (4, .ptr N0 0 0), (6, .int .i64 r11.1), (7, .int .i64 r12.1), (8, .int .i64 r13.1)] ∧ σ = hp E0 [(w0, some ⟨138, 2, W0.set r0_ [.fsl (encL rI_u8 r13.2.b), .int .i64 r13.2.p]⟩), (N0, some ⟨40, 5, [[.int .i64 0, .int .i64 0, .int .i64 0, .int .i64 0, .int .i64 0]]⟩)] M12) (fun K hK => ?_) ?_
       ·
        skip
        have e0 : ¬ w0 = N0 := by omega
        have e1 : ¬ N0 = w0 := by omega
        simp -dsimp -implicitDefEqProofs (maxDischargeDepth := 6) [e0, e1, gs_W0, List.set_set]
        refine (c144 (W0 := W0.set r0_ [.fsl (encL rI_u8 r12.2.b), .int .i64 r12.2.p]) (r0_ := r0_) (H := hr13) (by simp [e0, e1, gs_W0, List.set_set]) (by simp [e0, e1, gs_W0, List.set_set])).mono ?_; rintro _ _ ⟨M12, fM12_0, rfl, rfl⟩; simp only [hp_next] at fM12_0
        try simp -dsimp -implicitDefEqProofs (maxDischargeDepth := 6) [e0, e1, gs_W0, List.set_set, hp_over_some, hp_over_none]
        exact hK _ _ ⟨M12, (by omega), rfl, rfl⟩
       rintro a σ ⟨M12, fM12_0, rfl, rfl⟩
       obtain ⟨r14, hr14, H⟩ := bindE H
       refine AWP_sr tok [] [4] (fun a σ => ∃ M13 : Nat, M12 + 7 ≤ M13 ∧ a = [(4, .ptr N0 0 0)] ∧ σ = hp E0 [(w0, some ⟨138, 2, W0.set r0_ [.fsl (encL rI_u8 r14.2.b), .int .i64 r14.2.p]⟩), (N0, some ⟨40, 5, [[.int .i64 3, .int .i64 r11.1, .int .i64 r12.1, .int .i64 r13.1, .int .i64 r14.1]]⟩)] M13) (fun K hK => ?_) ?_
       ·
        skip
        have e0 : ¬ w0 = N0 := by omega
        have e1 : ¬ N0 = w0 := by omega
        simp -dsimp -implicitDefEqProofs (maxDischargeDepth := 6) [e0, e1, gs_W0, List.set_set]
        refine (c145 (W0 := W0.set r0_ [.fsl (encL rI_u8 r13.2.b), .int .i64 r13.2.p]) (r0_ := r0_) (H := hr14) (by simp [e0, e1, gs_W0, List.set_set]) (by simp [e0, e1, gs_W0, List.set_set])).mono ?_; rintro _ _ ⟨M13, fM13_0, rfl, rfl⟩; simp only [hp_next] at fM13_0
        try simp -dsimp -implicitDefEqProofs (maxDischargeDepth := 6) [e0, e1, gs_W0, List.set_set, hp_over_some, hp_over_none]
        exact hK _ _ ⟨M13, (by omega), rfl, rfl⟩
       rintro a σ ⟨M13, fM13_0, rfl, rfl⟩
       replace H := Option.some.inj H; subst H
       refine AWP_kp [4] [(4, .ptr N0 0 0)] rfl ?_
       have z4 : ¬ w0 = N0 := by omega
       have z5 : ¬ N0 = w0 := by omega
       refine AWP_ret ?_
       refine ⟨[.agg [.int .i64 3, .int .i64 r11.1, .int .i64 r12.1, .int .i64 r13.1, .int .i64 r14.1]], by simp [z4, z5, gs_W0], (fun o => [N0].contains o), M13, by omega, ?_, ?_⟩
       ·
        simp [encL_nil, z4, z5, gs_W0]
       ·
        rw [cutD (L' := [(w0, some ⟨138, 2, W0.set r0_ [.fsl (encL rI_u8 r14.2.b), .int .i64 r14.2.p]⟩)]) (by simp [z4, z5, gs_W0])]
        first | done | rfl | simp [List.set_set]
      ·
       replace H := ifF C3 H
       refine AWP_sr tok [] [0, 1, 4, 13, 52] (fun a σ => a = [(0, .ptr w0 r0_ 0), (1, .int .i64 p1), (4, .ptr N0 0 0), (13, .int .i64 r1.1), (52, .bool (ieq r1.1 7))] ∧ σ = hp E0 [(w0, some ⟨138, 2, W0.set r0_ [.fsl (encL rI_u8 r1.2.b), .int .i64 r1.2.p]⟩), (N0, some ⟨40, 5, [[.int .i64 0, .int .i64 0, .int .i64 0, .int .i64 0, .int .i64 0]]⟩)] (M9 + 2)) (fun K hK => ?_) ?_
       ·
        skip
        have e0 : ¬ w0 = N0 := by omega
        have e1 : ¬ N0 = w0 := by omega
        simp -dsimp -implicitDefEqProofs (maxDischargeDepth := 6) [e0, e1, gs_W0, List.set_set]
        exact hK _ _ ⟨rfl, rfl⟩
       rintro a σ ⟨rfl, rfl⟩
       refine AWP_cond (ieq r1.1 7) rfl (fun C4 => ?_) (fun C4 => ?_)
       ·
        replace H := ifT C4 H
        obtain ⟨r15, hr15, H⟩ := bindE H
        refine AWP_sr tok [] [4] (fun a σ => ∃ M14 : Nat, M9 + 7 ≤ M14 ∧ a = [(4, .ptr N0 0 0)] ∧ σ = hp E0 [(w0, some ⟨138, 2, W0.set r0_ [.fsl (encL rI_u8 r15.2.b), .int .i64 r15.2.p]⟩), (N0, some ⟨40, 5, [[.int .i64 4, .int .i64 0, .int .i64 0, .int .i64 0, .int .i64 r15.1]]⟩)] M14) (fun K hK => ?_) ?_
        ·
         skip
         have e0 : ¬ w0 = N0 := by omega
         have e1 : ¬ N0 = w0 := by omega
         simp -dsimp -implicitDefEqProofs (maxDischargeDepth := 6) [e0, e1, gs_W0, List.set_set]
         refine (c71 (W0 := W0.set r0_ [.fsl (encL rI_u8 r1.2.b), .int .i64 r1.2.p]) (r0_ := r0_) (H := hr15) (by simp [e0, e1, gs_W0, List.set_set]) (by simp [e0, e1, gs_W0, List.set_set])).mono ?_; rintro _ _ ⟨M14, fM14_0, rfl, rfl⟩; simp only [hp_next] at fM14_0
         try simp -dsimp -implicitDefEqProofs (maxDischargeDepth := 6) [e0, e1, gs_W0, List.set_set, hp_over_some, hp_over_none]
         exact hK _ _ ⟨M14, (by omega), rfl, rfl⟩
        rintro a σ ⟨M14, fM14_0, rfl, rfl⟩
        replace H := Option.some.inj H; subst H
        refine AWP_kp [4] [(4, .ptr N0 0 0)] rfl ?_
        have z6 : ¬ w0 = N0 := by omega
        have z7 : ¬ N0 = w0 := by omega
        refine AWP_ret ?_
        refine ⟨[.agg [.int .i64 4, .int .i64 0, .int .i64 0, .int .i64 0, .int .i64 r15.1]], by simp [z6, z7, gs_W0], (fun o => [N0].contains o), M14, by omega, ?_, ?_⟩
        ·
         simp [encL_nil, z6, z7, gs_W0]
        ·
         rw [cutD (L' := [(w0, some ⟨138, 2, W0.set r0_ [.fsl (encL rI_u8 r15.2.b), .int .i64 r15.2.p]⟩)]) (by simp [z6, z7, gs_W0])]
         first | done | rfl | simp [List.set_set]
       ·
        replace H := ifF C4 H
        refine AWP_sr tok [] [0, 1, 4, 13, 58] (fun a σ => a = [(0, .ptr w0 r0_ 0), (1, .int .i64 p1), (4, .ptr N0 0 0), (13, .int .i64 r1.1), (58, .bool (ieq r1.1 8))] ∧ σ = hp E0 [(w0, some ⟨138, 2, W0.set r0_ [.fsl (encL rI_u8 r1.2.b), .int .i64 r1.2.p]⟩), (N0, some ⟨40, 5, [[.int .i64 0, .int .i64 0, .int .i64 0, .int .i64 0, .int .i64 0]]⟩)] (M9 + 4)) (fun K hK => ?_) ?_
        ·
         skip
         have e0 : ¬ w0 = N0 := by omega
         have e1 : ¬ N0 = w0 := by omega
         simp -dsimp -implicitDefEqProofs (maxDischargeDepth := 6) [e0, e1, gs_W0, List.set_set]
         exact hK _ _ ⟨rfl, rfl⟩
        rintro a σ ⟨rfl, rfl⟩
        refine AWP_cond (ieq r1.1 8) rfl (fun C5 => ?_) (fun C5 => ?_)
        ·
         replace H := ifT C5 H
         obtain ⟨r16, hr16, H⟩ := bindE H
         refine AWP_sr tok [] [0, 1, 4, 9] (fun a σ => ∃ M15 : Nat, M9 + 7 ≤ M15 ∧ a = [(0, .ptr w0 r0_ 0), (1, .int .i64 p1), (4, .ptr N0 0 0), (9, .int .i64 r16.1)] ∧ σ = hp E0 [(w0, some ⟨138, 2, W0.set r0_ [.fsl (encL rI_u8 r16.2.b), .int .i64 r16.2.p]⟩), (N0, some ⟨40, 5, [[.int .i64 0, .int .i64 0, .int .i64 0, .int .i64 0, .int .i64 0]]⟩)] M15) (fun K hK => ?_) ?_
         ·
          skip
          have e0 : ¬ w0 = N0 := by omega
          have e1 : ¬ N0 = w0 := by omega
          simp -dsimp -implicitDefEqProofs (maxDischargeDepth := 6) [e0, e1, gs_W0, List.set_set]
          refine (c144 (W0 := W0.set r0_ [.fsl (encL rI_u8 r1.2.b), .int .i64 r1.2.p]) (r0_ := r0_) (H := hr16) (by simp [e0, e1, gs_W0, List.set_set]) (by simp [e0, e1, gs_W0, List.set_set])).mono ?_; rintro _ _ ⟨M15, fM15_0, rfl, rfl⟩; simp only [hp_next] at fM15_0
          try simp -dsimp -implicitDefEqProofs (maxDischargeDepth := 6) [e0, e1, gs_W0, List.set_set, hp_over_some, hp_over_none]
          exact hK _ _ ⟨M15, (by omega), rfl, rfl⟩
         rintro a σ ⟨M15, fM15_0, rfl, rfl⟩
         obtain ⟨r17, hr17, H⟩ := bindE H
         refine AWP_sr tok [] [4] (fun a σ => ∃ M16 : Nat, M15 + 6 ≤ M16 ∧ a = [(4, .ptr N0 0 0)] ∧ σ = hp E0 [(w0, some ⟨138, 2, W0.set r0_ [.fsl (encL rI_u8 r17.2.b), .int .i64 r17.2.p]⟩), (N0, some ⟨40, 5, [[.int .i64 5, .int .i64 0, .int .i64 r16.1, .int .i64 0, .int .i64 r17.1]]⟩)] M16) (fun K hK => ?_) ?_
         ·
          skip
          have e0 : ¬ w0 = N0 := by omega
          have e1 : ¬ N0 = w0 := by omega
          simp -dsimp -implicitDefEqProofs (maxDischargeDepth := 6) [e0, e1, gs_W0, List.set_set]
          refine (c71 (W0 := W0.set r0_ [.fsl (encL rI_u8 r16.2.b), .int .i64 r16.2.p]) (r0_ := r0_) (H := hr17) (by simp [e0, e1, gs_W0, List.set_set]) (by simp [e0, e1, gs_W0, List.set_set])).mono ?_; rintro _ _ ⟨M16, fM16_0, rfl, rfl⟩; simp only [hp_next] at fM16_0
          try simp -dsimp -implicitDefEqProofs (maxDischargeDepth := 6) [e0, e1, gs_W0, List.set_set, hp_over_some, hp_over_none]
          exact hK _ _ ⟨M16, (by omega), rfl, rfl⟩
         rintro a σ ⟨M16, fM16_0, rfl, rfl⟩
         replace H := Option.some.inj H; subst H
         refine AWP_kp [4] [(4, .ptr N0 0 0)] rfl ?_
         have z8 : ¬ w0 = N0 := by omega
         have z9 : ¬ N0 = w0 := by omega
         refine AWP_ret ?_
         refine ⟨[.agg [.int .i64 5, .int .i64 0, .int .i64 r16.1, .int .i64 0, .int .i64 r17.1]], by simp [z8, z9, gs_W0], (fun o => [N0].contains o), M16, by omega, ?_, ?_⟩
         ·
          simp [encL_nil, z8, z9, gs_W0]
         ·
          rw [cutD (L' := [(w0, some ⟨138, 2, W0.set r0_ [.fsl (encL rI_u8 r17.2.b), .int .i64 r17.2.p]⟩)]) (by simp [z8, z9, gs_W0])]
          first | done | rfl | simp [List.set_set]
        ·
         replace H := ifF C5 H
         refine AWP_sr tok [] [0, 4, 13, 67] (fun a σ => a = [(0, .ptr w0 r0_ 0), (4, .ptr N0 0 0), (13, .int .i64 r1.1), (67, .bool (ieq r1.1 9))] ∧ σ = hp E0 [(w0, some ⟨138, 2, W0.set r0_ [.fsl (encL rI_u8 r1.2.b), .int .i64 r1.2.p]⟩), (N0, some ⟨40, 5, [[.int .i64 0, .int .i64 0, .int .i64 0, .int .i64 0, .int .i64 0]]⟩)] (M9 + 6)) (fun K hK => ?_) ?_
         ·
          skip
          have e0 : ¬ w0 = N0 := by omega
          have e1 : ¬ N0 = w0 := by omega
          simp -dsimp -implicitDefEqProofs (maxDischargeDepth := 6) [e0, e1, gs_W0, List.set_set]
          exact hK _ _ ⟨rfl, rfl⟩
         rintro a σ ⟨rfl, rfl⟩
         refine AWP_cond (ieq r1.1 9) rfl (fun C6 => ?_) (fun C6 => ?_)
         ·
          replace H := ifT C6 H
          obtain ⟨r18, hr18, H⟩ := bindE H
          refine AWP_sr tok [] [0, 4, 10] (fun a σ => ∃ M17 : Nat, M9 + 9 ≤ M17 ∧ a = [(0, .ptr w0 r0_ 0), (4, .ptr N0 0 0), (10, .int .i64 r18.1)] ∧ σ = hp E0 [(w0, some ⟨138, 2, W0.set r0_ [.fsl (encL rI_u8 r18.2.b), .int .i64 r18.2.p]⟩), (N0, some ⟨40, 5, [[.int .i64 0, .int .i64 0, .int .i64 0, .int .i64 0, .int .i64 0]]⟩)] M17) (fun K hK => ?_) ?_
          ·
           skip
           have e0 : ¬ w0 = N0 := by omega
           have e1 : ¬ N0 = w0 := by omega
           simp -dsimp -implicitDefEqProofs (maxDischargeDepth := 6) [e0, e1, gs_W0, List.set_set]
           refine (c144 (W0 := W0.set r0_ [.fsl (encL rI_u8 r1.2.b), .int .i64 r1.2.p]) (r0_ := r0_) (H := hr18) (by simp [e0, e1, gs_W0, List.set_set]) (by simp [e0, e1, gs_W0, List.set_set])).mono ?_; rintro _ _ ⟨M17, fM17_0, rfl, rfl⟩; simp only [hp_next] at fM17_0
           try simp -dsimp -implicitDefEqProofs (maxDischargeDepth := 6) [e0, e1, gs_W0, List.set_set, hp_over_some, hp_over_none]
           exact hK _ _ ⟨M17, (by omega), rfl, rfl⟩
          rintro a σ ⟨M17, fM17_0, rfl, rfl⟩
          obtain ⟨r19, hr19, H⟩ := bindE H
          refine AWP_sr tok [] [4] (fun a σ => ∃ M18 : Nat, M17 + 5 ≤ M18 ∧ a = [(4, .ptr N0 0 0)] ∧ σ = hp E0 [(w0, some ⟨138, 2, W0.set r0_ [.fsl (encL rI_u8 r19.2.b), .int .i64 r19.2.p]⟩), (N0, some ⟨40, 5, [[.int .i64 6, .int .i64 0, .int .i64 r18.1, .int .i64 0, .int .i64 r19.1]]⟩)] M18) (fun K hK => ?_) ?_
          ·
           skip
           have e0 : ¬ w0 = N0 := by omega
           have e1 : ¬ N0 = w0 := by omega
           simp -dsimp -implicitDefEqProofs (maxDischargeDepth := 6) [e0, e1, gs_W0, List.set_set]
           refine (c71 (W0 := W0.set r0_ [.fsl (encL rI_u8 r18.2.b), .int .i64 r18.2.p]) (r0_ := r0_) (H := hr19) (by simp [e0, e1, gs_W0, List.set_set]) (by simp [e0, e1, gs_W0, List.set_set])).mono ?_; rintro _ _ ⟨M18, fM18_0, rfl, rfl⟩; simp only [hp_next] at fM18_0
           try simp -dsimp -implicitDefEqProofs (maxDischargeDepth := 6) [e0, e1, gs_W0, List.set_set, hp_over_some, hp_over_none]
           exact hK _ _ ⟨M18, (by omega), rfl, rfl⟩
          rintro a σ ⟨M18, fM18_0, rfl, rfl⟩
          replace H := Option.some.inj H; subst H
          refine AWP_kp [4] [(4, .ptr N0 0 0)] rfl ?_
          have z10 : ¬ w0 = N0 := by omega
          have z11 : ¬ N0 = w0 := by omega
          refine AWP_ret ?_
          refine ⟨[.agg [.int .i64 6, .int .i64 0, .int .i64 r18.1, .int .i64 0, .int .i64 r19.1]], by simp [z10, z11, gs_W0], (fun o => [N0].contains o), M18, by omega, ?_, ?_⟩
          ·
           simp [encL_nil, z10, z11, gs_W0]
          ·
           rw [cutD (L' := [(w0, some ⟨138, 2, W0.set r0_ [.fsl (encL rI_u8 r19.2.b), .int .i64 r19.2.p]⟩)]) (by simp [z10, z11, gs_W0])]
           first | done | rfl | simp [List.set_set]
         ·
          replace H := ifF C6 H
          refine AWP_sr tok [] [0, 4, 75] (fun a σ => a = [(0, .ptr w0 r0_ 0), (4, .ptr N0 0 0), (75, .bool (ieq r1.1 10))] ∧ σ = hp E0 [(w0, some ⟨138, 2, W0.set r0_ [.fsl (encL rI_u8 r1.2.b), .int .i64 r1.2.p]⟩), (N0, some ⟨40, 5, [[.int .i64 0, .int .i64 0, .int .i64 0, .int .i64 0, .int .i64 0]]⟩)] (M9 + 8)) (fun K hK => ?_) ?_
          ·
           skip
           have e0 : ¬ w0 = N0 := by omega
           have e1 : ¬ N0 = w0 := by omega
           simp -dsimp -implicitDefEqProofs (maxDischargeDepth := 6) [e0, e1, gs_W0, List.set_set]
           exact hK _ _ ⟨rfl, rfl⟩
          rintro a σ ⟨rfl, rfl⟩
          refine AWP_cond (ieq r1.1 10) rfl (fun C7 => ?_) (fun C7 => ?_)
          ·
           replace H := ifT C7 H
           obtain ⟨r20, hr20, H⟩ := bindE H
           refine AWP_sr tok [] [0, 4, 11] (fun a σ => ∃ M19 : Nat, M9 + 11 ≤ M19 ∧ a = [(0, .ptr w0 r0_ 0), (4, .ptr N0 0 0), (11, .int .i64 r20.1)] ∧ σ = hp E0 [(w0, some ⟨138, 2, W0.set r0_ [.fsl (encL rI_u8 r20.2.b), .int .i64 r20.2.p]⟩), (N0, some ⟨40, 5, [[.int .i64 0, .int .i64 0, .int .i64 0, .int .i64 0, .int .i64 0]]⟩)] M19) (fun K hK => ?_) ?_
           ·
            skip
            have e0 : ¬ w0 = N0 := by omega
            have e1 : ¬ N0 = w0 := by omega
            simp -dsimp -implicitDefEqProofs (maxDischargeDepth := 6) [e0, e1, gs_W0, List.set_set]
            refine (c144 (W0 := W0.set r0_ [.fsl (encL rI_u8 r1.2.b), .int .i64 r1.2.p]) (r0_ := r0_) (H := hr20) (by simp [e0, e1, gs_W0, List.set_set]) (by simp [e0, e1, gs_W0, List.set_set])).mono ?_; rintro _ _ ⟨M19, fM19_0, rfl, rfl⟩; simp only [hp_next] at fM19_0
            try simp -dsimp -implicitDefEqProofs (maxDischargeDepth := 6) [e0, e1, gs_W0, List.set_set, hp_over_some, hp_over_none]
            exact hK _ _ ⟨M19, (by omega), rfl, rfl⟩
           rintro a σ ⟨M19, fM19_0, rfl, rfl⟩
           obtain ⟨r21, hr21, H⟩ := bindE H
           refine AWP_sr tok [] [4] (fun a σ => ∃ M20 : Nat, M19 + 5 ≤ M20 ∧ a = [(4, .ptr N0 0 0)] ∧ σ = hp E0 [(w0, some ⟨138, 2, W0.set r0_ [.fsl (encL rI_u8 r21.2.b), .int .i64 r21.2.p]⟩), (N0, some ⟨40, 5, [[.int .i64 7, .int .i64 r20.1, .int .i64 0, .int .i64 0, .int .i64 r21.1]]⟩)] M20) (fun K hK => ?_) ?_
           ·
            skip
            have e0 : ¬ w0 = N0 := by omega
            have e1 : ¬ N0 = w0 := by omega
            simp -dsimp -implicitDefEqProofs (maxDischargeDepth := 6) [e0, e1, gs_W0, List.set_set]
            refine (c71 (W0 := W0.set r0_ [.fsl (encL rI_u8 r20.2.b), .int .i64 r20.2.p]) (r0_ := r0_) (H := hr21) (by simp [e0, e1, gs_W0, List.set_set]) (by simp [e0, e1, gs_W0, List.set_set])).mono ?_; rintro _ _ ⟨M20, fM20_0, rfl, rfl⟩; simp only [hp_next] at fM20_0
            try simp -dsimp -implicitDefEqProofs (maxDischargeDepth := 6) [e0, e1, gs_W0, List.set_set, hp_over_some, hp_over_none]
            exact hK _ _ ⟨M20, (by omega), rfl, rfl⟩
           rintro a σ ⟨M20, fM20_0, rfl, rfl⟩
           replace H := Option.some.inj H; subst H
           refine AWP_kp [4] [(4, .ptr N0 0 0)] rfl ?_
           have z12 : ¬ w0 = N0 := by omega
           have z13 : ¬ N0 = w0 := by omega
           refine AWP_ret ?_
           refine ⟨[.agg [.int .i64 7, .int .i64 r20.1, .int .i64 0, .int .i64 0, .int .i64 r21.1]], by simp [z12, z13, gs_W0], (fun o => [N0].contains o), M20, by omega, ?_, ?_⟩
           ·
            simp [encL_nil, z12, z13, gs_W0]
           ·
            rw [cutD (L' := [(w0, some ⟨138, 2, W0.set r0_ [.fsl (encL rI_u8 r21.2.b), .int .i64 r21.2.p]⟩)]) (by simp [z12, z13, gs_W0])]
            first | done | rfl | simp [List.set_set]
          ·
           replace H := ifF C7 H
           refine AWP_skip ?_
           show K1 _ _
           refine keepE (l := [0, 4]) (x := [(0, .ptr w0 r0_ 0), (4, .ptr N0 0 0)]) rfl fun a' ha => ?_
           refine hK1 _ _ ?_; rw [ha]
           refine Rc.mk ?_
           refine AWP_sq [0, 4] fun K2 hK2 => ?_
           obtain ⟨r22, hr22, H⟩ := bindE H
           refine AWP_sr tok [] [0, 4, 85] (fun a σ => ∃ M21 : Nat, M9 + 11 ≤ M21 ∧ a = [(0, .ptr w0 r0_ 0), (4, .ptr N0 0 0), (85, .bool (ieq r22.1 0))] ∧ σ = hp E0 [(w0, some ⟨138, 2, W0.set r0_ [.fsl (encL rI_u8 r22.2.b), .int .i64 r22.2.p]⟩), (N0, some ⟨40, 5, [[.int .i64 0, .int .i64 0, .int .i64 0, .int .i64 0, .int .i64 0]]⟩)] M21) (fun K hK => ?_) ?_
           ·
            skip
            have e0 : ¬ w0 = N0 := by omega
            have e1 : ¬ N0 = w0 := by omega
            simp -dsimp -implicitDefEqProofs (maxDischargeDepth := 6) [e0, e1, gs_W0, List.set_set]
            refine (c71 (W0 := W0.set r0_ [.fsl (encL rI_u8 r1.2.b), .int .i64 r1.2.p]) (r0_ := r0_) (H := hr22) (by simp [e0, e1, gs_W0, List.set_set]) (by simp [e0, e1, gs_W0, List.set_set])).mono ?_; rintro _ _ ⟨M21, fM21_0, rfl, rfl⟩; simp only [hp_next] at fM21_0
            try simp -dsimp -implicitDefEqProofs (maxDischargeDepth := 6) [e0, e1, gs_W0, List.set_set, hp_over_some, hp_over_none]
            exact hK _ _ ⟨M21, (by omega), rfl, rfl⟩
           rintro a σ ⟨M21, fM21_0, rfl, rfl⟩
           refine AWP_cond (ieq r22.1 0) rfl (fun C8 => ?_) (fun C8 => ?_)
           ·
            replace H := ifT C8 H
            refine AWP_sr tok [] [4] (fun a σ => a = [(4, .ptr N0 0 0)] ∧ σ = hp E0 [(w0, some ⟨138, 2, W0.set r0_ [.fsl (encL rI_u8 r22.2.b), .int .i64 r22.2.p]⟩), (N0, some ⟨40, 5, [[.int .i64 8, .int .i64 0, .int .i64 0, .int .i64 0, .int .i64 0]]⟩)] (M21 + 2)) (fun K hK => ?_) ?_
            ·
             skip
             have e0 : ¬ w0 = N0 := by omega
             have e1 : ¬ N0 = w0 := by omega
             simp -dsimp -implicitDefEqProofs (maxDischargeDepth := 6) [e0, e1, gs_W0, List.set_set]
             exact hK _ _ ⟨rfl, rfl⟩
            rintro a σ ⟨rfl, rfl⟩
            replace H := Option.some.inj H; subst H
            refine AWP_kp [4] [(4, .ptr N0 0 0)] rfl ?_
            have z14 : ¬ w0 = N0 := by omega
            have z15 : ¬ N0 = w0 := by omega
            refine AWP_ret ?_
            refine ⟨[.agg [.int .i64 8, .int .i64 0, .int .i64 0, .int .i64 0, .int .i64 0]], by simp [z14, z15, gs_W0], (fun o => [N0].contains o), M21 + 2, by omega, ?_, ?_⟩
            ·
             simp [encL_nil, z14, z15, gs_W0]
            ·
             rw [cutD (L' := [(w0, some ⟨138, 2, W0.set r0_ [.fsl (encL rI_u8 r22.2.b), .int .i64 r22.2.p]⟩)]) (by simp [z14, z15, gs_W0])]
             first | done | rfl | simp [List.set_set]
           ·
            replace H := ifF C8 H
            refine AWP_skip ?_
            show K2 _ _
            refine keepE (l := [0, 4]) (x := [(0, .ptr w0 r0_ 0), (4, .ptr N0 0 0)]) rfl fun a' ha => ?_
            refine hK2 _ _ ?_; rw [ha]
            refine Rc.mk ?_
            obtain ⟨r23, hr23, H⟩ := bindE H
            refine AWP_sr tok [] [4] (fun a σ => ∃ M22 : Nat, M21 + 4 ≤ M22 ∧ a = [(4, .ptr N0 0 0)] ∧ σ = hp E0 [(w0, some ⟨138, 2, W0.set r0_ [.fsl (encL rI_u8 r23.2.b), .int .i64 r23.2.p]⟩), (N0, some ⟨40, 5, [[.int .i64 9, .int .i64 0, .int .i64 r23.1, .int .i64 0, .int .i64 0]]⟩)] M22) (fun K hK => ?_) ?_
            ·
             skip
             have e0 : ¬ w0 = N0 := by omega
             have e1 : ¬ N0 = w0 := by omega
             simp -dsimp -implicitDefEqProofs (maxDischargeDepth := 6) [e0, e1, gs_W0, List.set_set]
             refine (c144 (W0 := W0.set r0_ [.fsl (encL rI_u8 r22.2.b), .int .i64 r22.2.p]) (r0_ := r0_) (H := hr23) (by simp [e0, e1, gs_W0, List.set_set]) (by simp [e0, e1, gs_W0, List.set_set])).mono ?_; rintro _ _ ⟨M22, fM22_0, rfl, rfl⟩; simp only [hp_next] at fM22_0
             try simp -dsimp -implicitDefEqProofs (maxDischargeDepth := 6) [e0, e1, gs_W0, List.set_set, hp_over_some, hp_over_none]
             exact hK _ _ ⟨M22, (by omega), rfl, rfl⟩
            rintro a σ ⟨M22, fM22_0, rfl, rfl⟩
            replace H := Option.some.inj H; subst H
            refine AWP_kp [4] [(4, .ptr N0 0 0)] rfl ?_
            have z16 : ¬ w0 = N0 := by omega
            have z17 : ¬ N0 = w0 := by omega
            refine AWP_ret ?_
            refine ⟨[.agg [.int .i64 9, .int .i64 0, .int .i64 r23.1, .int .i64 0, .int .i64 0]], by simp [z16, z17, gs_W0], (fun o => [N0].contains o), M22, by omega, ?_, ?_⟩
            ·
             simp [encL_nil, z16, z17, gs_W0]
            ·
             rw [cutD (L' := [(w0, some ⟨138, 2, W0.set r0_ [.fsl (encL rI_u8 r23.2.b), .int .i64 r23.2.p]⟩)]) (by simp [z16, z17, gs_W0])]
             first | done | rfl | simp [List.set_set]
     replace H := hj3
     refine AWP_sr tok [] [0, 1, 4, 13, 36] (fun a σ => a = [(0, .ptr w0 r0_ 0), (1, .int .i64 p1), (4, .ptr N0 0 0), (13, .int .i64 r1.1), (36, .bool (ieq r1.1 4))] ∧ σ = hp E0 [(w0, some ⟨138, 2, W0.set r0_ [.fsl (encL rI_u8 r1.2.b), .int .i64 r1.2.p]⟩), (N0, some ⟨40, 5, [[.int .i64 0, .int .i64 0, .int .i64 0, .int .i64 0, .int .i64 0]]⟩)] (M6 + 2)) (fun K hK => ?_) ?_
     ·
      skip
      have e0 : ¬ w0 = N0 := by omega
      have e1 : ¬ N0 = w0 := by omega
      simp -dsimp -implicitDefEqProofs (maxDischargeDepth := 6) [e0, e1, gs_W0, List.set_set]
      exact hK _ _ ⟨rfl, rfl⟩
     rintro a σ ⟨rfl, rfl⟩
     refine AWP_cond (ieq r1.1 4) rfl (fun C9 => ?_) (fun C9 => ?_)
     ·
      replace H := ifT C9 H
      refine AWP_skip ?_
      show K3 _ _
      refine keepE (l := [0, 1, 4, 13, 36]) (x := [(0, .ptr w0 r0_ 0), (1, .int .i64 p1), (4, .ptr N0 0 0), (13, .int .i64 r1.1), (36, .bool (ieq r1.1 4))]) rfl fun a' ha => ?_
      replace H := Option.some.inj H; subst H
      refine hJ3 _ _ ?_; rw [ha]
      exact Rc.fin (AHeap.Sub.refl _) ⟨M6 + 2, (by omega), (by omega), rfl, rfl⟩
     ·
      replace H := ifF C9 H
      refine AWP_sr tok [] [0, 1, 4, 13, 36] (fun a σ => a = [(0, .ptr w0 r0_ 0), (1, .int .i64 p1), (4, .ptr N0 0 0), (13, .int .i64 r1.1), (36, .bool (ieq r1.1 5))] ∧ σ = hp E0 [(w0, some ⟨138, 2, W0.set r0_ [.fsl (encL rI_u8 r1.2.b), .int .i64 r1.2.p]⟩), (N0, some ⟨40, 5, [[.int .i64 0, .int .i64 0, .int .i64 0, .int .i64 0, .int .i64 0]]⟩)] (M6 + 4)) (fun K hK => ?_) ?_
      ·
       skip
       have e0 : ¬ w0 = N0 := by omega
       have e1 : ¬ N0 = w0 := by omega
       simp -dsimp -implicitDefEqProofs (maxDischargeDepth := 6) [e0, e1, gs_W0, List.set_set]
       exact hK _ _ ⟨rfl, rfl⟩
      rintro a σ ⟨rfl, rfl⟩
      refine AWP_cond (ieq r1.1 5) rfl (fun C10 => ?_) (fun C10 => ?_)
      ·
       replace H := ifT C10 H
       refine AWP_skip ?_
       show K3 _ _
       refine keepE (l := [0, 1, 4, 13, 36]) (x := [(0, .ptr w0 r0_ 0), (1, .int .i64 p1), (4, .ptr N0 0 0), (13, .int .i64 r1.1), (36, .bool (ieq r1.1 5))]) rfl fun a' ha => ?_
       replace H := Option.some.inj H; subst H
       refine hJ3 _ _ ?_; rw [ha]
       exact Rc.fin (AHeap.Sub.refl _) ⟨M6 + 4, (by omega), (by omega), rfl, rfl⟩
      ·
       replace H := ifF C10 H
       refine AWP_rt tok [] [0, 1, 4, 13, 36] (fun a σ => a = [(0, .ptr w0 r0_ 0), (1, .int .i64 p1), (4, .ptr N0 0 0), (13, .int .i64 r1.1), (36, .bool (ieq r1.1 6))] ∧ σ = hp E0 [(w0, some ⟨138, 2, W0.set r0_ [.fsl (encL rI_u8 r1.2.b), .int .i64 r1.2.p]⟩), (N0, some ⟨40, 5, [[.int .i64 0, .int .i64 0, .int .i64 0, .int .i64 0, .int .i64 0]]⟩)] (M6 + 6)) (fun K hK => ?_) ?_
       ·
        skip
        have e0 : ¬ w0 = N0 := by omega
        have e1 : ¬ N0 = w0 := by omega
        simp -dsimp -implicitDefEqProofs (maxDischargeDepth := 6) [e0, e1, gs_W0, List.set_set]
        exact hK _ _ ⟨rfl, rfl⟩
       rintro a σ ⟨ha, rfl⟩
       replace H := Option.some.inj H; subst H
       refine hJ3 _ _ ?_; rw [ha]
       exact Rc.fin (AHeap.Sub.refl _) ⟨M6 + 6, (by omega), (by omega), rfl, rfl⟩
   replace H := hj2
   refine AWP_sr tok [] [0, 1, 4, 13, 27] (fun a σ => a = [(0, .ptr w0 r0_ 0), (1, .int .i64 p1), (4, .ptr N0 0 0), (13, .int .i64 r1.1), (27, .bool (ieq r1.1 2))] ∧ σ = hp E0 [(w0, some ⟨138, 2, W0.set r0_ [.fsl (encL rI_u8 r1.2.b), .int .i64 r1.2.p]⟩), (N0, some ⟨40, 5, [[.int .i64 0, .int .i64 0, .int .i64 0, .int .i64 0, .int .i64 0]]⟩)] (M2 + 2)) (fun K hK => ?_) ?_
   ·
    skip
    have e0 : ¬ w0 = N0 := by omega
    have e1 : ¬ N0 = w0 := by omega
    simp -dsimp -implicitDefEqProofs (maxDischargeDepth := 6) [e0, e1, gs_W0, List.set_set]
    exact hK _ _ ⟨rfl, rfl⟩
   rintro a σ ⟨rfl, rfl⟩
   refine AWP_cond (ieq r1.1 2) rfl (fun C11 => ?_) (fun C11 => ?_)
   ·
    replace H := ifT C11 H
    refine AWP_skip ?_
    show K4 _ _
    refine keepE (l := [0, 1, 4, 13, 27]) (x := [(0, .ptr w0 r0_ 0), (1, .int .i64 p1), (4, .ptr N0 0 0), (13, .int .i64 r1.1), (27, .bool (ieq r1.1 2))]) rfl fun a' ha => ?_
    replace H := Option.some.inj H; subst H
    refine hJ2 _ _ ?_; rw [ha]
    exact Rc.fin (AHeap.Sub.refl _) ⟨M2 + 2, (by omega), (by omega), rfl, rfl⟩
   ·
    replace H := ifF C11 H
    refine AWP_rt tok [] [0, 1, 4, 13, 27] (fun a σ => a = [(0, .ptr w0 r0_ 0), (1, .int .i64 p1), (4, .ptr N0 0 0), (13, .int .i64 r1.1), (27, .bool (ieq r1.1 3))] ∧ σ = hp E0 [(w0, some ⟨138, 2, W0.set r0_ [.fsl (encL rI_u8 r1.2.b), .int .i64 r1.2.p]⟩), (N0, some ⟨40, 5, [[.int .i64 0, .int .i64 0, .int .i64 0, .int .i64 0, .int .i64 0]]⟩)] (M2 + 4)) (fun K hK => ?_) ?_
    ·
     skip
     have e0 : ¬ w0 = N0 := by omega
     have e1 : ¬ N0 = w0 := by omega
     simp -dsimp -implicitDefEqProofs (maxDischargeDepth := 6) [e0, e1, gs_W0, List.set_set]
     exact hK _ _ ⟨rfl, rfl⟩
    rintro a σ ⟨ha, rfl⟩
    replace H := Option.some.inj H; subst H
    refine hJ2 _ _ ?_; rw [ha]
    exact Rc.fin (AHeap.Sub.refl _) ⟨M2 + 4, (by omega), (by omega), rfl, rfl⟩
 replace H := hj1
 refine AWP_sr tok [] [0, 1, 4, 13, 14] (fun a σ => a = [(0, .ptr w0 r0_ 0), (1, .int .i64 p1), (4, .ptr N0 0 0), (13, .int .i64 r1.1), (14, .bool (ieq r1.1 0))] ∧ σ = hp E0 [(w0, some ⟨138, 2, W0.set r0_ [.fsl (encL rI_u8 r1.2.b), .int .i64 r1.2.p]⟩), (N0, some ⟨40, 5, [[.int .i64 0, .int .i64 0, .int .i64 0, .int .i64 0, .int .i64 0]]⟩)] (M1 + 2)) (fun K hK => ?_) ?_
 ·
  skip
  have e0 : ¬ w0 = N0 := by omega
  have e1 : ¬ N0 = w0 := by omega
  simp -dsimp -implicitDefEqProofs (maxDischargeDepth := 6) [e0, e1, gs_W0, List.set_set]
  exact hK _ _ ⟨rfl, rfl⟩
 rintro a σ ⟨rfl, rfl⟩
 refine AWP_cond (ieq r1.1 0) rfl (fun C12 => ?_) (fun C12 => ?_)
 ·
  replace H := ifT C12 H
  refine AWP_skip ?_
  show K5 _ _
  refine keepE (l := [0, 1, 4, 13, 14]) (x := [(0, .ptr w0 r0_ 0), (1, .int .i64 p1), (4, .ptr N0 0 0), (13, .int .i64 r1.1), (14, .bool (ieq r1.1 0))]) rfl fun a' ha => ?_
  replace H := Option.some.inj H; subst H
  refine hJ1 _ _ ?_; rw [ha]
  exact Rc.fin (AHeap.Sub.refl _) ⟨M1 + 2, (by omega), (by omega), rfl, rfl⟩
 ·
  replace H := ifF C12 H
  refine AWP_rt tok [] [0, 1, 4, 13, 14] (fun a σ => a = [(0, .ptr w0 r0_ 0), (1, .int .i64 p1), (4, .ptr N0 0 0), (13, .int .i64 r1.1), (14, .bool (ieq r1.1 1))] ∧ σ = hp E0 [(w0, some ⟨138, 2, W0.set r0_ [.fsl (encL rI_u8 r1.2.b), .int .i64 r1.2.p]⟩), (N0, some ⟨40, 5, [[.int .i64 0, .int .i64 0, .int .i64 0, .int .i64 0, .int .i64 0]]⟩)] (M1 + 4)) (fun K hK => ?_) ?_
  ·
   skip
   have e0 : ¬ w0 = N0 := by omega
   have e1 : ¬ N0 = w0 := by omega
   simp -dsimp -implicitDefEqProofs (maxDischargeDepth := 6) [e0, e1, gs_W0, List.set_set]
   exact hK _ _ ⟨rfl, rfl⟩
  rintro a σ ⟨ha, rfl⟩
  replace H := Option.some.inj H; subst H
  refine hJ1 _ _ ?_; rw [ha]
  exact Rc.fin (AHeap.Sub.refl _) ⟨M1 + 4, (by omega), (by omega), rfl, rfl⟩
end Go.Proofs.YtoklfbdcghgmlaaDoor
