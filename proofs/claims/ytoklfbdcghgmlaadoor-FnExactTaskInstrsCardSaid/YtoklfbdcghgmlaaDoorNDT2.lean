/- The contracts of functions of the program, part 2: each computes what its mirror computes. No conditions. -/
import Derived.Test.YtoklfbdcghgmlaaDoorNDT1
set_option linter.unusedSimpArgs false
set_option linter.unusedVariables false
set_option maxRecDepth 20000
set_option maxHeartbeats 4000000
namespace Go.Proofs.YtoklfbdcghgmlaaDoor
open Go Go.Abs Go.RowKit

theorem c81 {p0 : (List gQuad)} {r : Bool} (H : s_CodeValid p0 = some r) : APure Tryd.prog G 81 [.fsl (encL rQuad p0)] (.bool r) := by
 refine APure_fn (fun N0 => ?_) (by simp)
 refine ACalls_fn tok Tryd.func81 (by kernel_rfl) rfl Tryd.ntmps81 Tryd.results81 rfl ?_
 simp only [argsA, Nat.reduceAdd, hp_next]
 unfold s_CodeValid at H
 refine AWP_sr tok [] [0] (fun a σ => a = [(0, .fsl (encL rQuad p0))] ∧ σ = hp E0 [] (N0 + 1)) (fun K hK => ?_) ?_
 ·
  skip
  simp -dsimp -implicitDefEqProofs (maxDischargeDepth := 6)
  exact hK _ _ ⟨rfl, rfl⟩
 rintro a σ ⟨rfl, rfl⟩
 refine AWP_sr tok [] [0, 3] (fun a σ => a = [(0, .fsl (encL rQuad p0)), (3, .int .i64 (ilen p0))] ∧ σ = hp E0 [] (N0 + 4)) (fun K hK => ?_) ?_
 ·
  skip
  simp -dsimp -implicitDefEqProofs (maxDischargeDepth := 6)
  exact hK _ _ ⟨rfl, rfl⟩
 rintro a σ ⟨rfl, rfl⟩
 refine AWP_sq [0, 3] fun K1 hK1 => ?_
 obtain ⟨r1, hr1, H⟩ := bindE H
 refine AWP_sr tok [] [0, 3, 9] (fun a σ => a = [(0, .fsl (encL rQuad p0)), (3, .int .i64 (ilen p0)), (9, .bool (bnot r1))] ∧ σ = hp E0 [] (N0 + 7)) (fun K hK => ?_) ?_
 ·
  skip
  simp -dsimp -implicitDefEqProofs (maxDischargeDepth := 6)
  refine (c65 hr1).app ?_; try simp -dsimp -implicitDefEqProofs (maxDischargeDepth := 6)
  exact hK _ _ ⟨rfl, rfl⟩
 rintro a σ ⟨rfl, rfl⟩
 refine AWP_cond (bnot r1) rfl (fun C1 => ?_) (fun C1 => ?_)
 ·
  replace H := ifT C1 H
  refine AWP_sr tok [] [2] (fun a σ => a = [(2, .bool false)] ∧ σ = hp E0 [] (N0 + 8)) (fun K hK => ?_) ?_
  ·
   skip
   simp -dsimp -implicitDefEqProofs (maxDischargeDepth := 6)
   exact hK _ _ ⟨rfl, rfl⟩
  rintro a σ ⟨rfl, rfl⟩
  replace H := Option.some.inj H; subst H
  refine AWP_kp [2] [(2, .bool false)] rfl ?_
  refine AWP_ret ?_
  exact ⟨[.bool false], by simp, 4, by simp [encL_nil]⟩
 ·
  replace H := ifF C1 H
  refine AWP_skip ?_
  show K1 _ _
  refine keepE (l := [0, 3]) (x := [(0, .fsl (encL rQuad p0)), (3, .int .i64 (ilen p0))]) rfl fun a' ha => ?_
  refine hK1 _ _ ?_; rw [ha]
  refine Rc.mk ?_
  refine AWP_sq [0, 3] fun K2 hK2 => ?_
  refine AWP_sr tok [] [0, 3, 4] (fun a σ => a = [(0, .fsl (encL rQuad p0)), (3, .int .i64 (ilen p0)), (4, .int .i64 0)] ∧ σ = hp E0 [] (N0 + 8)) (fun K hK => ?_) ?_
  ·
   skip
   simp -dsimp -implicitDefEqProofs (maxDischargeDepth := 6)
   exact hK _ _ ⟨rfl, rfl⟩
  rintro a σ ⟨rfl, rfl⟩
  refine AWP_block (AWP_thenB ?_)
  obtain ⟨e1, hse1, H⟩ := bindE H
  refine AWP_lp [0, 3, 4] (fun s a σ => ∃ M1 : Nat, N0 ≤ M1 ∧ a = [(0, .fsl (encL rQuad p0)), (3, .int .i64 (ilen p0)), (4, .int .i64 s)] ∧ σ = hp E0 [] M1) (fun e x a σ => match e with | .inl s => x = .exit 0 ∧ Rc G 38 N0 (fun a σ => ∃ M2 : Nat, N0 ≤ M2 ∧ a = [(0, .fsl (encL rQuad p0)), (3, .int .i64 (ilen p0))] ∧ σ = hp E0 [] M2) (AAct.keep a [0, 3]) σ | .inr s => x = .ret ∧ ∃ vs, resA T σ a [.tmp 2] = some vs ∧ ∃ d, thawA (fun _ => true) σ d (tupA vs) = .bool s) hse1 ?_ ?_ ?_
  ·
   refine Rc.kp [0, 3, 4] [(0, .fsl (encL rQuad p0)), (3, .int .i64 (ilen p0)), (4, .int .i64 0)] rfl ?_
   exact Rc.fin (AHeap.Sub.refl _) ⟨N0 + 8, (by omega), rfl, rfl⟩
  ·
   clear H hse1
   rintro s2 fl a σ H ⟨M1, fM1_0, rfl, rfl⟩ K3 O3 hK3 hO3
   unfold s_CodeValid_L1 at H; dsimp only at H
   refine AWP_sq [0, 3, 4] fun K4 hK4 => ?_
   refine AWP_sr tok [] [0, 3, 4, 12] (fun a σ => a = [(0, .fsl (encL rQuad p0)), (3, .int .i64 (ilen p0)), (4, .int .i64 s2), (12, .bool (ilt s2 (ilen p0)))] ∧ σ = hp E0 [] (M1 + 3)) (fun K hK => ?_) ?_
   ·
    skip
    simp -dsimp -implicitDefEqProofs (maxDischargeDepth := 6)
    exact hK _ _ ⟨rfl, rfl⟩
   rintro a σ ⟨rfl, rfl⟩
   refine AWP_cond (ilt s2 (ilen p0)) rfl (fun C2 => ?_) (fun C2 => ?_)
   ·
    replace H := ifT C2 H
    refine AWP_skip ?_
    show K4 _ _
    refine keepE (l := [0, 3, 4]) (x := [(0, .fsl (encL rQuad p0)), (3, .int .i64 (ilen p0)), (4, .int .i64 s2)]) rfl fun a' ha => ?_
    refine hK4 _ _ ?_; rw [ha]
    refine Rc.mk ?_
    refine AWP_sq [0, 3, 4] fun K5 hK5 => ?_
    refine AWP_block (AWP_thenB ?_)
    obtain ⟨v3, hv3, H⟩ := bindE H
    obtain ⟨r4, hr4, H⟩ := bindE H
    refine AWP_sr tok [] [0, 3, 4, 21] (fun a σ => a = [(0, .fsl (encL rQuad p0)), (3, .int .i64 (ilen p0)), (4, .int .i64 s2), (21, .bool (bnot r4))] ∧ σ = hp E0 [] (M1 + 10)) (fun K hK => ?_) ?_
    ·
     skip
     simp -dsimp -implicitDefEqProofs (maxDischargeDepth := 6) [ix59 hv3]
     refine (c64 hr4).app ?_; try simp -dsimp -implicitDefEqProofs (maxDischargeDepth := 6) [ix59 hv3]
     exact hK _ _ ⟨rfl, rfl⟩
    rintro a σ ⟨rfl, rfl⟩
    refine AWP_cond (bnot r4) rfl (fun C3 => ?_) (fun C3 => ?_)
    ·
     replace H := ifT C3 H
     refine AWP_sr tok [] [2] (fun a σ => a = [(2, .bool false)] ∧ σ = hp E0 [] (M1 + 11)) (fun K hK => ?_) ?_
     ·
      skip
      simp -dsimp -implicitDefEqProofs (maxDischargeDepth := 6)
      exact hK _ _ ⟨rfl, rfl⟩
     rintro a σ ⟨rfl, rfl⟩
     replace H := Option.some.inj H; subst H
     refine AWP_kp [2] [(2, .bool false)] rfl ?_
     refine AWP_ret (hO3 _ _ _ _ rfl ⟨rfl, ?_⟩)
     exact ⟨[.bool false], by simp, 4, by simp [encL_nil]⟩
    ·
     replace H := ifF C3 H
     refine AWP_skip ?_
     show K5 _ _
     refine keepE (l := [0, 3, 4]) (x := [(0, .fsl (encL rQuad p0)), (3, .int .i64 (ilen p0)), (4, .int .i64 s2)]) rfl fun a' ha => ?_
     refine hK5 _ _ ?_; rw [ha]
     refine Rc.mk ?_
     refine AWP_rt tok [] [0, 3, 4] (fun a σ => a = [(0, .fsl (encL rQuad p0)), (3, .int .i64 (ilen p0)), (4, .int .i64 (iadd .i64 s2 1))] ∧ σ = hp E0 [] (M1 + 13)) (fun K hK => ?_) ?_
     ·
      skip
      simp -dsimp -implicitDefEqProofs (maxDischargeDepth := 6)
      exact hK _ _ ⟨rfl, rfl⟩
     rintro a σ ⟨ha, rfl⟩
     replace H := Option.some.inj H; subst H
     refine hK3 _ _ _ rfl ?_; rw [ha]
     exact Rc.fin (AHeap.Sub.refl _) ⟨M1 + 13, (by omega), rfl, rfl⟩
   ·
    replace H := ifF C2 H
    replace H := Option.some.inj H; subst H
    refine AWP_exit (hO3 _ _ _ _ rfl ⟨rfl, ?_⟩)
    refine Rc.rw (l := [0, 3]) (X := [(0, .fsl (encL rQuad p0)), (3, .int .i64 (ilen p0))]) rfl ?_
    exact Rc.fin (AHeap.Sub.refl _) ⟨M1 + 3, (by omega), rfl, rfl⟩
  ·
   intro x a σ hx
   rcases e1 with ⟨⟩ | r0
   ·
    obtain ⟨rfl, b, τ, hr, M2, fM2_0, rfl, rfl⟩ := hx
    dsimp only at H
    show K2 _ _
    refine hK2 _ _ (Rc_ref hr ?_)
    refine Rc.mk ?_
    obtain ⟨v5, hv5, H⟩ := bindE H
    obtain ⟨g6, hg6, H⟩ := bindE H
    refine AWP_sr tok [] [2] (fun a σ => a = [(2, .bool g6)] ∧ σ = hp E0 [] (M2 + 17)) (fun K hK => ?_) ?_
    ·
     skip
     simp -dsimp -implicitDefEqProofs (maxDischargeDepth := 6) [ix59 hv5]
     cases hbg6 : ieq v5.Op 10
     ·
      replace hg6 := ifF hbg6 hg6
      replace hg6 := Option.some.inj hg6; subst hg6
      try simp -dsimp -implicitDefEqProofs (maxDischargeDepth := 6) [ix59 hv5, hbg6, ix59 hv5]
      exact hK _ _ ⟨rfl, rfl⟩
     ·
      replace hg6 := ifT hbg6 hg6
      replace hg6 := Option.some.inj hg6; subst hg6
      try simp -dsimp -implicitDefEqProofs (maxDischargeDepth := 6) [ix59 hv5, hbg6]
      exact hK _ _ ⟨rfl, rfl⟩
    rintro a σ ⟨rfl, rfl⟩
    replace H := Option.some.inj H; subst H
    refine AWP_kp [2] [(2, .bool g6)] rfl ?_
    refine AWP_ret ?_
    exact ⟨[.bool g6], by simp, 4, by simp [encL_nil]⟩
   ·
    obtain ⟨rfl, hx2⟩ := hx
    dsimp only at H
    replace H := Option.some.inj H; subst H; exact hx2
theorem c82 {p0 : (List gQuad)} {p1 : Int} {r : (List Int)} (H : s_l43Places p0 p1 = some r) : APure Tryd.prog G 82 [.fsl (encL rQuad p0), .int .i64 p1] (.fsl (encL rI r)) := by
 refine APure_fn (fun N0 => ?_) (by simp)
 refine ACalls_fn tok Tryd.func82 (by kernel_rfl) rfl Tryd.ntmps82 Tryd.results82 rfl ?_
 simp only [argsA, Nat.reduceAdd, hp_next]
 unfold s_l43Places at H
 refine AWP_sr tok [] [0, 1] (fun a σ => a = [(0, .fsl (encL rQuad p0)), (1, .int .i64 p1)] ∧ σ = hp E0 [] (N0 + 1)) (fun K hK => ?_) ?_
 ·
  skip
  simp -dsimp -implicitDefEqProofs (maxDischargeDepth := 6)
  exact hK _ _ ⟨rfl, rfl⟩
 rintro a σ ⟨rfl, rfl⟩
 have q0 : ∀ σ i, buildSliceA T 24 true i 0 [] σ = some (.esl, σ) := fun _ _ => rfl
 refine AWP_sr tok [0] [0, 1, 5] (fun a σ => a = [(0, .fsl (encL rQuad p0)), (1, .int .i64 p1), (5, .esl)] ∧ σ = hp E0 [] (N0 + 3)) (fun K hK => ?_) ?_
 ·
  skip
  simp -dsimp -implicitDefEqProofs (maxDischargeDepth := 6) [q0]
  exact hK _ _ ⟨rfl, rfl⟩
 rintro a σ ⟨rfl, rfl⟩
 refine AWP_sr tok [] [0, 1, 5, 6] (fun a σ => a = [(0, .fsl (encL rQuad p0)), (1, .int .i64 p1), (5, .esl), (6, .int .i64 0)] ∧ σ = hp E0 [] (N0 + 4)) (fun K hK => ?_) ?_
 ·
  skip
  simp -dsimp -implicitDefEqProofs (maxDischargeDepth := 6)
  exact hK _ _ ⟨rfl, rfl⟩
 rintro a σ ⟨rfl, rfl⟩
 refine AWP_sq [5] fun K1 hK1 => ?_
 refine AWP_sr tok [] [0, 1, 5, 6, 7] (fun a σ => a = [(0, .fsl (encL rQuad p0)), (1, .int .i64 p1), (5, .esl), (6, .int .i64 0), (7, .int .i64 0)] ∧ σ = hp E0 [] (N0 + 5)) (fun K hK => ?_) ?_
 ·
  skip
  simp -dsimp -implicitDefEqProofs (maxDischargeDepth := 6)
  exact hK _ _ ⟨rfl, rfl⟩
 rintro a σ ⟨rfl, rfl⟩
 refine AWP_block (AWP_thenB ?_)
 obtain ⟨e1, hse1, H⟩ := bindE H
 refine AWP_lp [0, 1, 5, 6, 7] (fun s a σ => ∃ M1 o1 : Nat, N0 ≤ M1 ∧ N0 ≤ o1 ∧ o1 < M1 ∧ a = [(0, .fsl (encL rQuad p0)), (1, .int .i64 p1), (5, .sl o1 0 s.2.2.length), (6, .int .i64 s.1), (7, .int .i64 s.2.1)] ∧ σ = hp E0 [(o1, some ⟨3, 1, encL rI s.2.2⟩)] M1) (fun s x a σ => x = .exit 0 ∧ Rc G 29 N0 (fun a σ => ∃ M2 o2 : Nat, N0 ≤ M2 ∧ N0 ≤ o2 ∧ o2 < M2 ∧ a = [(5, .sl o2 0 s.length)] ∧ σ = hp E0 [(o2, some ⟨3, 1, encL rI s⟩)] M2) (AAct.keep a [5]) σ) hse1 ?_ ?_ ?_
 ·
  refine Rc.kp [0, 1, 5, 6, 7] [(0, .fsl (encL rQuad p0)), (1, .int .i64 p1), (5, .esl), (6, .int .i64 0), (7, .int .i64 0)] rfl ?_
  refine gNilS Rc_ref 5 3 1 [(N0 + 5, some ⟨3, 1, encL rI ([] : List Int)⟩)] [(0, .fsl (encL rQuad p0)), (1, .int .i64 p1), (5, .sl (N0 + 5) 0 ([] : List Int).length), (6, .int .i64 0), (7, .int .i64 0)] (by simp (disch := omega)) (by simp (disch := omega) [encL_nil]) [0, 1, 5, 6, 7] rfl ?_
  exact Rc.fin (AHeap.Sub.refl _) ⟨N0 + 6, (N0 + 5), (by omega), (by omega), (by omega), rfl, rfl⟩
 ·
  clear H hse1
  rintro ⟨s1, s2, s3⟩ fl a σ H ⟨M1, o1, fM1_0, fM1_1, fM1_2, rfl, rfl⟩ K2 O2 hK2 hO2
  unfold s_l43Places_L1 at H; dsimp only at H
  refine AWP_sq [0, 1, 5, 6, 7] fun K3 hK3 => ?_
  refine AWP_sr tok [] [0, 1, 5, 6, 7, 12] (fun a σ => a = [(0, .fsl (encL rQuad p0)), (1, .int .i64 p1), (5, .sl o1 0 s3.length), (6, .int .i64 s1), (7, .int .i64 s2), (12, .bool (ilt s2 (ilen p0)))] ∧ σ = hp E0 [(o1, some ⟨3, 1, encL rI s3⟩)] (M1 + 4)) (fun K hK => ?_) ?_
  ·
   skip
   simp -dsimp -implicitDefEqProofs (maxDischargeDepth := 6)
   exact hK _ _ ⟨rfl, rfl⟩
  rintro a σ ⟨rfl, rfl⟩
  refine AWP_cond (ilt s2 (ilen p0)) rfl (fun C1 => ?_) (fun C1 => ?_)
  ·
   replace H := ifT C1 H
   refine AWP_skip ?_
   show K3 _ _
   refine keepE (l := [0, 1, 5, 6, 7]) (x := [(0, .fsl (encL rQuad p0)), (1, .int .i64 p1), (5, .sl o1 0 s3.length), (6, .int .i64 s1), (7, .int .i64 s2)]) rfl fun a' ha => ?_
   refine hK3 _ _ ?_; rw [ha]
   refine Rc.mk ?_
   refine AWP_sq [0, 1, 5, 6, 7] fun K4 hK4 => ?_
   refine AWP_block (AWP_thenB ?_)
   obtain ⟨l5, hl5, H⟩ := bindE H
   have q1 : ∀ σ i, buildSliceA T 24 true i 1 [(0, .int .i64 s1)] σ = some (.fsl (encL rI ([s1] : List Int)), σ) := fun _ _ => rfl
   refine AWP_sr tok [2] [0, 1, 5, 6, 7] (fun a σ => a = [(0, .fsl (encL rQuad p0)), (1, .int .i64 p1), (5, .sl (M1 + 7) 0 l5.length), (6, .int .i64 s1), (7, .int .i64 s2)] ∧ σ = hp E0 [(M1 + 7, some ⟨3, 1, encL rI l5⟩)] (M1 + 9)) (fun K hK => ?_) ?_
   ·
    skip
    have e0 := nq (a := o1) (b := M1 + 7) (by omega)
    simp -dsimp -implicitDefEqProofs (maxDischargeDepth := 6) [e0, q1, app24 hl5]
    exact hK _ _ ⟨rfl, rfl⟩
   rintro a σ ⟨rfl, rfl⟩
   obtain ⟨v6, hv6, H⟩ := bindE H
   obtain ⟨r7, hr7, H⟩ := bindE H
   refine AWP_rt tok [] [0, 1, 5, 6, 7] (fun a σ => a = [(0, .fsl (encL rQuad p0)), (1, .int .i64 p1), (5, .sl (M1 + 7) 0 l5.length), (6, .int .i64 (iadd .i64 s1 (ilen r7))), (7, .int .i64 s2)] ∧ σ = hp E0 [(M1 + 7, some ⟨3, 1, encL rI l5⟩)] (M1 + 19)) (fun K hK => ?_) ?_
   ·
    skip
    simp -dsimp -implicitDefEqProofs (maxDischargeDepth := 6) [ix59 hv6]
    refine (c66 hr7).app ?_; try simp -dsimp -implicitDefEqProofs (maxDischargeDepth := 6) [ix59 hv6]
    exact hK _ _ ⟨rfl, rfl⟩
   rintro a σ ⟨ha, rfl⟩
   refine hK4 _ _ ?_; rw [ha]
   refine Rc.mk ?_
   refine AWP_rt tok [] [0, 1, 5, 6, 7] (fun a σ => a = [(0, .fsl (encL rQuad p0)), (1, .int .i64 p1), (5, .sl (M1 + 7) 0 l5.length), (6, .int .i64 (iadd .i64 s1 (ilen r7))), (7, .int .i64 (iadd .i64 s2 1))] ∧ σ = hp E0 [(M1 + 7, some ⟨3, 1, encL rI l5⟩)] (M1 + 22)) (fun K hK => ?_) ?_
   ·
    skip
    simp -dsimp -implicitDefEqProofs (maxDischargeDepth := 6)
    exact hK _ _ ⟨rfl, rfl⟩
   rintro a σ ⟨ha, rfl⟩
   replace H := Option.some.inj H; subst H
   refine hK2 _ _ _ rfl ?_; rw [ha]
   exact Rc.fin (AHeap.Sub.refl _) ⟨M1 + 22, (M1 + 7), (by omega), (by omega), (by omega), rfl, rfl⟩
  ·
   replace H := ifF C1 H
   replace H := Option.some.inj H; subst H
   refine AWP_exit (hO2 _ _ _ _ rfl ⟨rfl, ?_⟩)
   refine Rc.rw (l := [5]) (X := [(5, .sl o1 0 s3.length)]) rfl ?_
   exact Rc.fin (AHeap.Sub.refl _) ⟨M1 + 4, o1, (by omega), (by omega), (by omega), rfl, rfl⟩
 ·
  intro x a σ hx
  obtain ⟨y4, rfl⟩ : ∃ x, x = e1 := ⟨_, rfl⟩
  obtain ⟨rfl, b, τ, hr, M2, o2, fM2_0, fM2_1, fM2_2, rfl, rfl⟩ := hx
  dsimp only at H
  show K1 _ _
  refine hK1 _ _ (Rc_ref hr ?_)
  refine Rc.mk ?_
  refine AWP_sr tok [] [4] (fun a σ => a = [(4, .sl o2 0 y4.length)] ∧ σ = hp E0 [(o2, some ⟨3, 1, encL rI y4⟩)] (M2 + 2)) (fun K hK => ?_) ?_
  ·
   skip
   simp -dsimp -implicitDefEqProofs (maxDischargeDepth := 6)
   exact hK _ _ ⟨rfl, rfl⟩
  rintro a σ ⟨rfl, rfl⟩
  replace H := Option.some.inj H; subst H
  refine AWP_kp [4] [(4, .sl o2 0 y4.length)] rfl ?_
  refine AWP_ret ?_
  exact ⟨[.sl o2 0 y4.length], by simp, 4, by simp [encL_nil]⟩
theorem c83 {p0 : (List gQuad)} {r : Bool} (H : i_CodeValid p0 = some r) : APure Tryd.prog G 83 [.fsl (encL rQuad p0)] (.bool r) := by
 refine APure_fn (fun N0 => ?_) (by simp)
 refine ACalls_fn tok Tryd.func83 (by kernel_rfl) rfl Tryd.ntmps83 Tryd.results83 rfl ?_
 simp only [argsA, Nat.reduceAdd, hp_next]
 unfold i_CodeValid at H
 refine AWP_sr tok [] [0] (fun a σ => a = [(0, .fsl (encL rQuad p0))] ∧ σ = hp E0 [] (N0 + 1)) (fun K hK => ?_) ?_
 ·
  skip
  simp -dsimp -implicitDefEqProofs (maxDischargeDepth := 6)
  exact hK _ _ ⟨rfl, rfl⟩
 rintro a σ ⟨rfl, rfl⟩
 refine AWP_sq [0] fun K1 hK1 => ?_
 obtain ⟨g1, hg1, H⟩ := bindE H
 refine AWP_sr tok [] [0, 13] (fun a σ => a = [(0, .fsl (encL rQuad p0)), (13, .bool g1)] ∧ σ = hp E0 [] (N0 + 9)) (fun K hK => ?_) ?_
 ·
  skip
  simp -dsimp -implicitDefEqProofs (maxDischargeDepth := 6)
  cases hbg1 : ilt (ilen p0) 1
  ·
   replace hg1 := ifF hbg1 hg1
   replace hg1 := Option.some.inj hg1; subst hg1
   try simp -dsimp -implicitDefEqProofs (maxDischargeDepth := 6) [hbg1]
   exact hK _ _ ⟨rfl, rfl⟩
  ·
   replace hg1 := ifT hbg1 hg1
   replace hg1 := Option.some.inj hg1; subst hg1
   try simp -dsimp -implicitDefEqProofs (maxDischargeDepth := 6) [hbg1]
   exact hK _ _ ⟨rfl, rfl⟩
 rintro a σ ⟨rfl, rfl⟩
 refine AWP_cond g1 rfl (fun C1 => ?_) (fun C1 => ?_)
 ·
  replace H := ifT C1 H
  refine AWP_sr tok [] [2] (fun a σ => a = [(2, .bool false)] ∧ σ = hp E0 [] (N0 + 10)) (fun K hK => ?_) ?_
  ·
   skip
   simp -dsimp -implicitDefEqProofs (maxDischargeDepth := 6)
   exact hK _ _ ⟨rfl, rfl⟩
  rintro a σ ⟨rfl, rfl⟩
  replace H := Option.some.inj H; subst H
  refine AWP_kp [2] [(2, .bool false)] rfl ?_
  refine AWP_ret ?_
  exact ⟨[.bool false], by simp, 4, by simp [encL_nil]⟩
 ·
  replace H := ifF C1 H
  refine AWP_skip ?_
  show K1 _ _
  refine keepE (l := [0]) (x := [(0, .fsl (encL rQuad p0))]) rfl fun a' ha => ?_
  refine hK1 _ _ ?_; rw [ha]
  refine Rc.mk ?_
  refine AWP_sq [0] fun K2 hK2 => ?_
  refine AWP_sr tok [] [0, 14, 15, 16] (fun a σ => a = [(0, .fsl (encL rQuad p0)), (14, .fsl (encL rQuad p0)), (15, .int .i64 (ilen p0)), (16, .int .i64 0)] ∧ σ = hp E0 [] (N0 + 12)) (fun K hK => ?_) ?_
  ·
   skip
   simp -dsimp -implicitDefEqProofs (maxDischargeDepth := 6)
   exact hK _ _ ⟨rfl, rfl⟩
  rintro a σ ⟨rfl, rfl⟩
  refine AWP_block (AWP_thenB ?_)
  obtain ⟨e1, hse1, H⟩ := bindE H
  refine AWP_lp [0, 14, 15, 16] (fun s a σ => ∃ M1 : Nat, N0 ≤ M1 ∧ a = [(0, .fsl (encL rQuad p0)), (14, .fsl (encL rQuad p0)), (15, .int .i64 (ilen p0)), (16, .int .i64 s)] ∧ σ = hp E0 [] M1) (fun e x a σ => match e with | .inl s => x = .exit 0 ∧ Rc G 39 N0 (fun a σ => ∃ M2 : Nat, N0 ≤ M2 ∧ a = [(0, .fsl (encL rQuad p0))] ∧ σ = hp E0 [] M2) (AAct.keep a [0]) σ | .inr s => x = .ret ∧ ∃ vs, resA T σ a [.tmp 2] = some vs ∧ ∃ d, thawA (fun _ => true) σ d (tupA vs) = .bool s) hse1 ?_ ?_ ?_
  ·
   refine Rc.kp [0, 14, 15, 16] [(0, .fsl (encL rQuad p0)), (14, .fsl (encL rQuad p0)), (15, .int .i64 (ilen p0)), (16, .int .i64 0)] rfl ?_
   exact Rc.fin (AHeap.Sub.refl _) ⟨N0 + 12, (by omega), rfl, rfl⟩
  ·
   clear H hse1
   rintro s2 fl a σ H ⟨M1, fM1_0, rfl, rfl⟩ K3 O3 hK3 hO3
   unfold i_CodeValid_L1 at H; dsimp only at H
   refine AWP_sr tok [] [0, 14, 15, 16, 17] (fun a σ => a = [(0, .fsl (encL rQuad p0)), (14, .fsl (encL rQuad p0)), (15, .int .i64 (ilen p0)), (16, .int .i64 s2), (17, .bool (ilt s2 (ilen p0)))] ∧ σ = hp E0 [] (M1 + 1)) (fun K hK => ?_) ?_
   ·
    skip
    simp -dsimp -implicitDefEqProofs (maxDischargeDepth := 6)
    exact hK _ _ ⟨rfl, rfl⟩
   rintro a σ ⟨rfl, rfl⟩
   refine AWP_sq [0, 14, 15, 16] fun K4 hK4 => ?_
   refine AWP_cond (ilt s2 (ilen p0)) rfl (fun C2 => ?_) (fun C2 => ?_)
   ·
    replace H := ifT C2 H
    refine AWP_skip ?_
    show K4 _ _
    refine keepE (l := [0, 14, 15, 16]) (x := [(0, .fsl (encL rQuad p0)), (14, .fsl (encL rQuad p0)), (15, .int .i64 (ilen p0)), (16, .int .i64 s2)]) rfl fun a' ha => ?_
    refine hK4 _ _ ?_; rw [ha]
    refine Rc.mk ?_
    refine AWP_sq [0, 14, 15, 16] fun K5 hK5 => ?_
    refine AWP_block (AWP_thenB ?_)
    obtain ⟨v3, hv3, H⟩ := bindE H
    refine AWP_sr tok [] [0, 4, 14, 15, 16] (fun a σ => a = [(0, .fsl (encL rQuad p0)), (4, .ptr (M1 + 3) 0 0), (14, .fsl (encL rQuad p0)), (15, .int .i64 (ilen p0)), (16, .int .i64 s2)] ∧ σ = hp E0 [(M1 + 3, some ⟨40, 5, [[.int .i64 v3.Op, .int .i64 v3.Dst, .int .i64 v3.A, .int .i64 v3.B, .int .i64 v3.N]]⟩)] (M1 + 5)) (fun K hK => ?_) ?_
    ·
     skip
     simp -dsimp -implicitDefEqProofs (maxDischargeDepth := 6) [ix59 hv3]
     exact hK _ _ ⟨rfl, rfl⟩
    rintro a σ ⟨rfl, rfl⟩
    obtain ⟨r4, hr4, H⟩ := bindE H
    refine AWP_sr tok [] [0, 14, 15, 16, 24] (fun a σ => a = [(0, .fsl (encL rQuad p0)), (14, .fsl (encL rQuad p0)), (15, .int .i64 (ilen p0)), (16, .int .i64 s2), (24, .bool (bnot r4))] ∧ σ = hp E0 [(M1 + 3, some ⟨40, 5, [[.int .i64 v3.Op, .int .i64 v3.Dst, .int .i64 v3.A, .int .i64 v3.B, .int .i64 v3.N]]⟩)] (M1 + 10)) (fun K hK => ?_) ?_
    ·
     skip
     simp -dsimp -implicitDefEqProofs (maxDischargeDepth := 6)
     refine (c67 hr4).app ?_; try simp -dsimp -implicitDefEqProofs (maxDischargeDepth := 6)
     exact hK _ _ ⟨rfl, rfl⟩
    rintro a σ ⟨rfl, rfl⟩
    refine AWP_cond (bnot r4) rfl (fun C3 => ?_) (fun C3 => ?_)
    ·
     replace H := ifT C3 H
     refine AWP_sr tok [] [2] (fun a σ => a = [(2, .bool false)] ∧ σ = hp E0 [(M1 + 3, some ⟨40, 5, [[.int .i64 v3.Op, .int .i64 v3.Dst, .int .i64 v3.A, .int .i64 v3.B, .int .i64 v3.N]]⟩)] (M1 + 11)) (fun K hK => ?_) ?_
     ·
      skip
      simp -dsimp -implicitDefEqProofs (maxDischargeDepth := 6)
      exact hK _ _ ⟨rfl, rfl⟩
     rintro a σ ⟨rfl, rfl⟩
     replace H := Option.some.inj H; subst H
     refine AWP_kp [2] [(2, .bool false)] rfl ?_
     refine AWP_ret (hO3 _ _ _ _ rfl ⟨rfl, ?_⟩)
     exact ⟨[.bool false], by simp, 4, by simp [encL_nil]⟩
    ·
     replace H := ifF C3 H
     refine AWP_skip ?_
     show K5 _ _
     refine keepE (l := [0, 14, 15, 16]) (x := [(0, .fsl (encL rQuad p0)), (14, .fsl (encL rQuad p0)), (15, .int .i64 (ilen p0)), (16, .int .i64 s2)]) rfl fun a' ha => ?_
     refine hK5 _ _ ?_; rw [ha]
     refine Rc.mk ?_
     refine AWP_rt tok [] [0, 14, 15, 16] (fun a σ => a = [(0, .fsl (encL rQuad p0)), (14, .fsl (encL rQuad p0)), (15, .int .i64 (ilen p0)), (16, .int .i64 (iadd .i64 s2 1))] ∧ σ = hp E0 [(M1 + 3, some ⟨40, 5, [[.int .i64 v3.Op, .int .i64 v3.Dst, .int .i64 v3.A, .int .i64 v3.B, .int .i64 v3.N]]⟩)] (M1 + 12)) (fun K hK => ?_) ?_
     ·
      skip
      simp -dsimp -implicitDefEqProofs (maxDischargeDepth := 6)
      exact hK _ _ ⟨rfl, rfl⟩
     rintro a σ ⟨ha, rfl⟩
     replace H := Option.some.inj H; subst H
     refine hK3 _ _ _ rfl ?_; rw [ha]
     exact Rc.fin (AHeap.Sub.trans (AHeap.Sub.refl _) (hp_drop rfl (by simp; try omega))) ⟨M1 + 12, (by omega), rfl, rfl⟩
   ·
    replace H := ifF C2 H
    replace H := Option.some.inj H; subst H
    refine AWP_exit (hO3 _ _ _ _ rfl ⟨rfl, ?_⟩)
    refine Rc.rw (l := [0]) (X := [(0, .fsl (encL rQuad p0))]) rfl ?_
    exact Rc.fin (AHeap.Sub.refl _) ⟨M1 + 1, (by omega), rfl, rfl⟩
  ·
   intro x a σ hx
   rcases e1 with ⟨⟩ | r0
   ·
    obtain ⟨rfl, b, τ, hr, M2, fM2_0, rfl, rfl⟩ := hx
    dsimp only at H
    show K2 _ _
    refine hK2 _ _ (Rc_ref hr ?_)
    refine Rc.mk ?_
    obtain ⟨v5, hv5, H⟩ := bindE H
    refine AWP_sr tok [] [5] (fun a σ => a = [(5, .int .i64 v5.Op)] ∧ σ = hp E0 [] (M2 + 8)) (fun K hK => ?_) ?_
    ·
     skip
     simp -dsimp -implicitDefEqProofs (maxDischargeDepth := 6) [ix59 hv5]
     exact hK _ _ ⟨rfl, rfl⟩
    rintro a σ ⟨rfl, rfl⟩
    obtain ⟨g6, hg6, H⟩ := bindE H
    refine AWP_sr tok [] [2] (fun a σ => a = [(2, .bool g6)] ∧ σ = hp E0 [] (M2 + 15)) (fun K hK => ?_) ?_
    ·
     skip
     simp -dsimp -implicitDefEqProofs (maxDischargeDepth := 6)
     cases hbg6 : ieq v5.Op 10
     ·
      replace hg6 := ifF hbg6 hg6
      replace hg6 := Option.some.inj hg6; subst hg6
      try simp -dsimp -implicitDefEqProofs (maxDischargeDepth := 6) [hbg6]
      exact hK _ _ ⟨rfl, rfl⟩
     ·
      replace hg6 := ifT hbg6 hg6
      replace hg6 := Option.some.inj hg6; subst hg6
      try simp -dsimp -implicitDefEqProofs (maxDischargeDepth := 6) [hbg6]
      exact hK _ _ ⟨rfl, rfl⟩
    rintro a σ ⟨rfl, rfl⟩
    replace H := Option.some.inj H; subst H
    refine AWP_kp [2] [(2, .bool g6)] rfl ?_
    refine AWP_ret ?_
    exact ⟨[.bool g6], by simp, 4, by simp [encL_nil]⟩
   ·
    obtain ⟨rfl, hx2⟩ := hx
    dsimp only at H
    replace H := Option.some.inj H; subst H; exact hx2
theorem c84 {p0 : gQuad} {p1 : gQuad} {r : Bool} (H : l_eqQuad p0 p1 = some r) : APure Tryd.prog G 84 [.agg [.int .i64 p0.Op, .int .i64 p0.Dst, .int .i64 p0.A, .int .i64 p0.B, .int .i64 p0.N], .agg [.int .i64 p1.Op, .int .i64 p1.Dst, .int .i64 p1.A, .int .i64 p1.B, .int .i64 p1.N]] (.bool r) := by
 refine APure_fn (fun N0 => ?_) (by simp)
 refine ACalls_fn tok Tryd.func84 (by kernel_rfl) rfl Tryd.ntmps84 Tryd.results84 rfl ?_
 simp only [argsA, Nat.reduceAdd, hp_next]
 unfold l_eqQuad at H
 refine AWP_sr tok [0, 1] [2, 3] (fun a σ => a = [(2, .fptr [.int .i64 p0.Op, .int .i64 p0.Dst, .int .i64 p0.A, .int .i64 p0.B, .int .i64 p0.N] 0), (3, .fptr [.int .i64 p1.Op, .int .i64 p1.Dst, .int .i64 p1.A, .int .i64 p1.B, .int .i64 p1.N] 0)] ∧ σ = hp E0 [] (N0 + 3)) (fun K hK => ?_) ?_
 ·
  skip
  simp -dsimp -implicitDefEqProofs (maxDischargeDepth := 6)
  exact hK _ _ ⟨rfl, rfl⟩
 rintro a σ ⟨rfl, rfl⟩
 refine AWP_sq [2, 3] fun K1 hK1 => ?_
 refine AWP_sr tok [] [2, 3, 9] (fun a σ => a = [(2, .fptr [.int .i64 p0.Op, .int .i64 p0.Dst, .int .i64 p0.A, .int .i64 p0.B, .int .i64 p0.N] 0), (3, .fptr [.int .i64 p1.Op, .int .i64 p1.Dst, .int .i64 p1.A, .int .i64 p1.B, .int .i64 p1.N] 0), (9, .bool (ine p0.Op p1.Op))] ∧ σ = hp E0 [] (N0 + 8)) (fun K hK => ?_) ?_
 ·
  skip
  simp -dsimp -implicitDefEqProofs (maxDischargeDepth := 6)
  exact hK _ _ ⟨rfl, rfl⟩
 rintro a σ ⟨rfl, rfl⟩
 refine AWP_cond (ine p0.Op p1.Op) rfl (fun C1 => ?_) (fun C1 => ?_)
 ·
  replace H := ifT C1 H
  refine AWP_sr tok [] [4] (fun a σ => a = [(4, .bool false)] ∧ σ = hp E0 [] (N0 + 9)) (fun K hK => ?_) ?_
  ·
   skip
   simp -dsimp -implicitDefEqProofs (maxDischargeDepth := 6)
   exact hK _ _ ⟨rfl, rfl⟩
  rintro a σ ⟨rfl, rfl⟩
  replace H := Option.some.inj H; subst H
  refine AWP_kp [4] [(4, .bool false)] rfl ?_
  refine AWP_ret ?_
  exact ⟨[.bool false], by simp, 4, by simp [encL_nil]⟩
 ·
  replace H := ifF C1 H
  refine AWP_skip ?_
  show K1 _ _
  refine keepE (l := [2, 3]) (x := [(2, .fptr [.int .i64 p0.Op, .int .i64 p0.Dst, .int .i64 p0.A, .int .i64 p0.B, .int .i64 p0.N] 0), (3, .fptr [.int .i64 p1.Op, .int .i64 p1.Dst, .int .i64 p1.A, .int .i64 p1.B, .int .i64 p1.N] 0)]) rfl fun a' ha => ?_
  refine hK1 _ _ ?_; rw [ha]
  refine Rc.mk ?_
  refine AWP_sq [2, 3] fun K2 hK2 => ?_
  refine AWP_sr tok [] [2, 3, 14] (fun a σ => a = [(2, .fptr [.int .i64 p0.Op, .int .i64 p0.Dst, .int .i64 p0.A, .int .i64 p0.B, .int .i64 p0.N] 0), (3, .fptr [.int .i64 p1.Op, .int .i64 p1.Dst, .int .i64 p1.A, .int .i64 p1.B, .int .i64 p1.N] 0), (14, .bool (ine p0.Dst p1.Dst))] ∧ σ = hp E0 [] (N0 + 13)) (fun K hK => ?_) ?_
  ·
   skip
   simp -dsimp -implicitDefEqProofs (maxDischargeDepth := 6)
   exact hK _ _ ⟨rfl, rfl⟩
  rintro a σ ⟨rfl, rfl⟩
  refine AWP_cond (ine p0.Dst p1.Dst) rfl (fun C2 => ?_) (fun C2 => ?_)
  ·
   replace H := ifT C2 H
   refine AWP_sr tok [] [4] (fun a σ => a = [(4, .bool false)] ∧ σ = hp E0 [] (N0 + 14)) (fun K hK => ?_) ?_
   ·
    skip
    simp -dsimp -implicitDefEqProofs (maxDischargeDepth := 6)
    exact hK _ _ ⟨rfl, rfl⟩
   rintro a σ ⟨rfl, rfl⟩
   replace H := Option.some.inj H; subst H
   refine AWP_kp [4] [(4, .bool false)] rfl ?_
   refine AWP_ret ?_
   exact ⟨[.bool false], by simp, 4, by simp [encL_nil]⟩
  ·
   replace H := ifF C2 H
   refine AWP_skip ?_
   show K2 _ _
   refine keepE (l := [2, 3]) (x := [(2, .fptr [.int .i64 p0.Op, .int .i64 p0.Dst, .int .i64 p0.A, .int .i64 p0.B, .int .i64 p0.N] 0), (3, .fptr [.int .i64 p1.Op, .int .i64 p1.Dst, .int .i64 p1.A, .int .i64 p1.B, .int .i64 p1.N] 0)]) rfl fun a' ha => ?_
   refine hK2 _ _ ?_; rw [ha]
   refine Rc.mk ?_
   refine AWP_sq [2, 3] fun K3 hK3 => ?_
   refine AWP_sr tok [] [2, 3, 19] (fun a σ => a = [(2, .fptr [.int .i64 p0.Op, .int .i64 p0.Dst, .int .i64 p0.A, .int .i64 p0.B, .int .i64 p0.N] 0), (3, .fptr [.int .i64 p1.Op, .int .i64 p1.Dst, .int .i64 p1.A, .int .i64 p1.B, .int .i64 p1.N] 0), (19, .bool (ine p0.A p1.A))] ∧ σ = hp E0 [] (N0 + 18)) (fun K hK => ?_) ?_
   ·
    skip
    simp -dsimp -implicitDefEqProofs (maxDischargeDepth := 6)
    exact hK _ _ ⟨rfl, rfl⟩
   rintro a σ ⟨rfl, rfl⟩
   refine AWP_cond (ine p0.A p1.A) rfl (fun C3 => ?_) (fun C3 => ?_)
   ·
    replace H := ifT C3 H
    refine AWP_sr tok [] [4] (fun a σ => a = [(4, .bool false)] ∧ σ = hp E0 [] (N0 + 19)) (fun K hK => ?_) ?_
    ·
     skip
     simp -dsimp -implicitDefEqProofs (maxDischargeDepth := 6)
     exact hK _ _ ⟨rfl, rfl⟩
    rintro a σ ⟨rfl, rfl⟩
    replace H := Option.some.inj H; subst H
    refine AWP_kp [4] [(4, .bool false)] rfl ?_
    refine AWP_ret ?_
    exact ⟨[.bool false], by simp, 4, by simp [encL_nil]⟩
   ·
    replace H := ifF C3 H
    refine AWP_skip ?_
    show K3 _ _
    refine keepE (l := [2, 3]) (x := [(2, .fptr [.int .i64 p0.Op, .int .i64 p0.Dst, .int .i64 p0.A, .int .i64 p0.B, .int .i64 p0.N] 0), (3, .fptr [.int .i64 p1.Op, .int .i64 p1.Dst, .int .i64 p1.A, .int .i64 p1.B, .int .i64 p1.N] 0)]) rfl fun a' ha => ?_
    refine hK3 _ _ ?_; rw [ha]
    refine Rc.mk ?_
    refine AWP_sq [2, 3] fun K4 hK4 => ?_
    refine AWP_sr tok [] [2, 3, 24] (fun a σ => a = [(2, .fptr [.int .i64 p0.Op, .int .i64 p0.Dst, .int .i64 p0.A, .int .i64 p0.B, .int .i64 p0.N] 0), (3, .fptr [.int .i64 p1.Op, .int .i64 p1.Dst, .int .i64 p1.A, .int .i64 p1.B, .int .i64 p1.N] 0), (24, .bool (ine p0.B p1.B))] ∧ σ = hp E0 [] (N0 + 23)) (fun K hK => ?_) ?_
    ·
     skip
     simp -dsimp -implicitDefEqProofs (maxDischargeDepth := 6)
     exact hK _ _ ⟨rfl, rfl⟩
    rintro a σ ⟨rfl, rfl⟩
    refine AWP_cond (ine p0.B p1.B) rfl (fun C4 => ?_) (fun C4 => ?_)
    ·
     replace H := ifT C4 H
     refine AWP_sr tok [] [4] (fun a σ => a = [(4, .bool false)] ∧ σ = hp E0 [] (N0 + 24)) (fun K hK => ?_) ?_
     ·
      skip
      simp -dsimp -implicitDefEqProofs (maxDischargeDepth := 6)
      exact hK _ _ ⟨rfl, rfl⟩
     rintro a σ ⟨rfl, rfl⟩
     replace H := Option.some.inj H; subst H
     refine AWP_kp [4] [(4, .bool false)] rfl ?_
     refine AWP_ret ?_
     exact ⟨[.bool false], by simp, 4, by simp [encL_nil]⟩
    ·
     replace H := ifF C4 H
     refine AWP_skip ?_
     show K4 _ _
     refine keepE (l := [2, 3]) (x := [(2, .fptr [.int .i64 p0.Op, .int .i64 p0.Dst, .int .i64 p0.A, .int .i64 p0.B, .int .i64 p0.N] 0), (3, .fptr [.int .i64 p1.Op, .int .i64 p1.Dst, .int .i64 p1.A, .int .i64 p1.B, .int .i64 p1.N] 0)]) rfl fun a' ha => ?_
     refine hK4 _ _ ?_; rw [ha]
     refine Rc.mk ?_
     refine AWP_sq [] fun K5 hK5 => ?_
     refine AWP_sr tok [] [29] (fun a σ => a = [(29, .bool (ine p0.N p1.N))] ∧ σ = hp E0 [] (N0 + 28)) (fun K hK => ?_) ?_
     ·
      skip
      simp -dsimp -implicitDefEqProofs (maxDischargeDepth := 6)
      exact hK _ _ ⟨rfl, rfl⟩
     rintro a σ ⟨rfl, rfl⟩
     refine AWP_cond (ine p0.N p1.N) rfl (fun C5 => ?_) (fun C5 => ?_)
     ·
      replace H := ifT C5 H
      refine AWP_sr tok [] [4] (fun a σ => a = [(4, .bool false)] ∧ σ = hp E0 [] (N0 + 29)) (fun K hK => ?_) ?_
      ·
       skip
       simp -dsimp -implicitDefEqProofs (maxDischargeDepth := 6)
       exact hK _ _ ⟨rfl, rfl⟩
      rintro a σ ⟨rfl, rfl⟩
      replace H := Option.some.inj H; subst H
      refine AWP_kp [4] [(4, .bool false)] rfl ?_
      refine AWP_ret ?_
      exact ⟨[.bool false], by simp, 4, by simp [encL_nil]⟩
     ·
      replace H := ifF C5 H
      refine AWP_skip ?_
      show K5 _ _
      refine keepE (l := []) (x := []) rfl fun a' ha => ?_
      refine hK5 _ _ ?_; rw [ha]
      refine Rc.mk ?_
      refine AWP_sr tok [] [4] (fun a σ => a = [(4, .bool true)] ∧ σ = hp E0 [] (N0 + 29)) (fun K hK => ?_) ?_
      ·
       skip
       simp -dsimp -implicitDefEqProofs (maxDischargeDepth := 6)
       exact hK _ _ ⟨rfl, rfl⟩
      rintro a σ ⟨rfl, rfl⟩
      replace H := Option.some.inj H; subst H
      refine AWP_kp [4] [(4, .bool true)] rfl ?_
      refine AWP_ret ?_
      exact ⟨[.bool true], by simp, 4, by simp [encL_nil]⟩
theorem c40 {p0 : (List gQuad)} {p1 : (List gQuad)} {r : Bool} (H : l_eqQuadS p0 p1 = some r) : APure Tryd.prog G 40 [.fsl (encL rQuad p0), .fsl (encL rQuad p1)] (.bool r) := by
 refine APure_fn (fun N0 => ?_) (by simp)
 refine ACalls_fn tok Tryd.func40 (by kernel_rfl) rfl Tryd.ntmps40 Tryd.results40 rfl ?_
 simp only [argsA, Nat.reduceAdd, hp_next]
 unfold l_eqQuadS at H
 refine AWP_sr tok [] [0, 1] (fun a σ => a = [(0, .fsl (encL rQuad p0)), (1, .fsl (encL rQuad p1))] ∧ σ = hp E0 [] (N0 + 1)) (fun K hK => ?_) ?_
 ·
  skip
  simp -dsimp -implicitDefEqProofs (maxDischargeDepth := 6)
  exact hK _ _ ⟨rfl, rfl⟩
 rintro a σ ⟨rfl, rfl⟩
 refine AWP_sq [0, 1] fun K1 hK1 => ?_
 refine AWP_sr tok [] [0, 1, 10] (fun a σ => a = [(0, .fsl (encL rQuad p0)), (1, .fsl (encL rQuad p1)), (10, .bool (ine (ilen p0) (ilen p1)))] ∧ σ = hp E0 [] (N0 + 6)) (fun K hK => ?_) ?_
 ·
  skip
  simp -dsimp -implicitDefEqProofs (maxDischargeDepth := 6)
  exact hK _ _ ⟨rfl, rfl⟩
 rintro a σ ⟨rfl, rfl⟩
 refine AWP_cond (ine (ilen p0) (ilen p1)) rfl (fun C1 => ?_) (fun C1 => ?_)
 ·
  replace H := ifT C1 H
  refine AWP_sr tok [] [4] (fun a σ => a = [(4, .bool false)] ∧ σ = hp E0 [] (N0 + 7)) (fun K hK => ?_) ?_
  ·
   skip
   simp -dsimp -implicitDefEqProofs (maxDischargeDepth := 6)
   exact hK _ _ ⟨rfl, rfl⟩
  rintro a σ ⟨rfl, rfl⟩
  replace H := Option.some.inj H; subst H
  refine AWP_kp [4] [(4, .bool false)] rfl ?_
  refine AWP_ret ?_
  exact ⟨[.bool false], by simp, 4, by simp [encL_nil]⟩
 ·
  replace H := ifF C1 H
  refine AWP_skip ?_
  show K1 _ _
  refine keepE (l := [0, 1]) (x := [(0, .fsl (encL rQuad p0)), (1, .fsl (encL rQuad p1))]) rfl fun a' ha => ?_
  refine hK1 _ _ ?_; rw [ha]
  refine Rc.mk ?_
  refine AWP_sq [] fun K2 hK2 => ?_
  refine AWP_sr tok [] [0, 1, 5] (fun a σ => a = [(0, .fsl (encL rQuad p0)), (1, .fsl (encL rQuad p1)), (5, .int .i64 0)] ∧ σ = hp E0 [] (N0 + 7)) (fun K hK => ?_) ?_
  ·
   skip
   simp -dsimp -implicitDefEqProofs (maxDischargeDepth := 6)
   exact hK _ _ ⟨rfl, rfl⟩
  rintro a σ ⟨rfl, rfl⟩
  refine AWP_block (AWP_thenB ?_)
  obtain ⟨e1, hse1, H⟩ := bindE H
  refine AWP_lp [0, 1, 5] (fun s a σ => ∃ M1 : Nat, N0 ≤ M1 ∧ a = [(0, .fsl (encL rQuad p0)), (1, .fsl (encL rQuad p1)), (5, .int .i64 s)] ∧ σ = hp E0 [] M1) (fun e x a σ => match e with | .inl s => x = .exit 0 ∧ Rc G 27 N0 (fun a σ => ∃ M2 : Nat, N0 ≤ M2 ∧ a = [] ∧ σ = hp E0 [] M2) (AAct.keep a []) σ | .inr s => x = .ret ∧ ∃ vs, resA T σ a [.tmp 4] = some vs ∧ ∃ d, thawA (fun _ => true) σ d (tupA vs) = .bool s) hse1 ?_ ?_ ?_
  ·
   refine Rc.kp [0, 1, 5] [(0, .fsl (encL rQuad p0)), (1, .fsl (encL rQuad p1)), (5, .int .i64 0)] rfl ?_
   exact Rc.fin (AHeap.Sub.refl _) ⟨N0 + 7, (by omega), rfl, rfl⟩
  ·
   clear H hse1
   rintro s1 fl a σ H ⟨M1, fM1_0, rfl, rfl⟩ K3 O3 hK3 hO3
   unfold l_eqQuadS_L1 at H; dsimp only at H
   refine AWP_sq [0, 1, 5] fun K4 hK4 => ?_
   refine AWP_sr tok [] [0, 1, 5, 14] (fun a σ => a = [(0, .fsl (encL rQuad p0)), (1, .fsl (encL rQuad p1)), (5, .int .i64 s1), (14, .bool (ilt s1 (ilen p0)))] ∧ σ = hp E0 [] (M1 + 4)) (fun K hK => ?_) ?_
   ·
    skip
    simp -dsimp -implicitDefEqProofs (maxDischargeDepth := 6)
    exact hK _ _ ⟨rfl, rfl⟩
   rintro a σ ⟨rfl, rfl⟩
   refine AWP_cond (ilt s1 (ilen p0)) rfl (fun C2 => ?_) (fun C2 => ?_)
   ·
    replace H := ifT C2 H
    refine AWP_skip ?_
    show K4 _ _
    refine keepE (l := [0, 1, 5]) (x := [(0, .fsl (encL rQuad p0)), (1, .fsl (encL rQuad p1)), (5, .int .i64 s1)]) rfl fun a' ha => ?_
    refine hK4 _ _ ?_; rw [ha]
    refine Rc.mk ?_
    refine AWP_sq [0, 1, 5] fun K5 hK5 => ?_
    refine AWP_block (AWP_thenB ?_)
    obtain ⟨v2, hv2, H⟩ := bindE H
    obtain ⟨v3, hv3, H⟩ := bindE H
    obtain ⟨r4, hr4, H⟩ := bindE H
    refine AWP_sd tok tokM [] [] [0, 1, 2, 3, 4, 5, 6, 7, 8, 9] [0, 1, 5, 26] (fun a σ => a = [(0, .fsl (encL rQuad p0)), (1, .fsl (encL rQuad p1)), (5, .int .i64 s1), (26, .bool (bnot r4))] ∧ σ = hp E0 [] (M1 + 14)) (by decide) (fun K hK => ?_) ?_
    ·
     simp only [pickL, nthO_succ, nthO_zero]
     simp -dsimp -implicitDefEqProofs (maxDischargeDepth := 6) [ix59 hv2, ix59 hv3]
     refine Pc.mk (c84 hr4) ?_; try simp -dsimp -implicitDefEqProofs (maxDischargeDepth := 6) [ix59 hv2, ix59 hv3]
     exact hK _ _ ⟨rfl, rfl⟩
    rintro a σ ⟨rfl, rfl⟩
    refine AWP_cond (bnot r4) rfl (fun C3 => ?_) (fun C3 => ?_)
    ·
     replace H := ifT C3 H
     refine AWP_sr tok [] [4] (fun a σ => a = [(4, .bool false)] ∧ σ = hp E0 [] (M1 + 15)) (fun K hK => ?_) ?_
     ·
      skip
      simp -dsimp -implicitDefEqProofs (maxDischargeDepth := 6)
      exact hK _ _ ⟨rfl, rfl⟩
     rintro a σ ⟨rfl, rfl⟩
     replace H := Option.some.inj H; subst H
     refine AWP_kp [4] [(4, .bool false)] rfl ?_
     refine AWP_ret (hO3 _ _ _ _ rfl ⟨rfl, ?_⟩)
     exact ⟨[.bool false], by simp, 4, by simp [encL_nil]⟩
    ·
     replace H := ifF C3 H
     refine AWP_skip ?_
     show K5 _ _
     refine keepE (l := [0, 1, 5]) (x := [(0, .fsl (encL rQuad p0)), (1, .fsl (encL rQuad p1)), (5, .int .i64 s1)]) rfl fun a' ha => ?_
     refine hK5 _ _ ?_; rw [ha]
     refine Rc.mk ?_
     refine AWP_rt tok [] [0, 1, 5] (fun a σ => a = [(0, .fsl (encL rQuad p0)), (1, .fsl (encL rQuad p1)), (5, .int .i64 (iadd .i64 s1 1))] ∧ σ = hp E0 [] (M1 + 17)) (fun K hK => ?_) ?_
     ·
      skip
      simp -dsimp -implicitDefEqProofs (maxDischargeDepth := 6)
      exact hK _ _ ⟨rfl, rfl⟩
     rintro a σ ⟨ha, rfl⟩
     replace H := Option.some.inj H; subst H
     refine hK3 _ _ _ rfl ?_; rw [ha]
     exact Rc.fin (AHeap.Sub.refl _) ⟨M1 + 17, (by omega), rfl, rfl⟩
   ·
    replace H := ifF C2 H
    replace H := Option.some.inj H; subst H
    refine AWP_exit (hO3 _ _ _ _ rfl ⟨rfl, ?_⟩)
    refine Rc.rw (l := []) (X := []) rfl ?_
    exact Rc.fin (AHeap.Sub.refl _) ⟨M1 + 4, (by omega), rfl, rfl⟩
  ·
   intro x a σ hx
   rcases e1 with ⟨⟩ | r0
   ·
    obtain ⟨rfl, b, τ, hr, M2, fM2_0, rfl, rfl⟩ := hx
    dsimp only at H
    show K2 _ _
    refine hK2 _ _ (Rc_ref hr ?_)
    refine Rc.mk ?_
    refine AWP_sr tok [] [4] (fun a σ => a = [(4, .bool true)] ∧ σ = hp E0 [] (M2 + 1)) (fun K hK => ?_) ?_
    ·
     skip
     simp -dsimp -implicitDefEqProofs (maxDischargeDepth := 6)
     exact hK _ _ ⟨rfl, rfl⟩
    rintro a σ ⟨rfl, rfl⟩
    replace H := Option.some.inj H; subst H
    refine AWP_kp [4] [(4, .bool true)] rfl ?_
    refine AWP_ret ?_
    exact ⟨[.bool true], by simp, 4, by simp [encL_nil]⟩
   ·
    obtain ⟨rfl, hx2⟩ := hx
    dsimp only at H
    replace H := Option.some.inj H; subst H; exact hx2
theorem c41 {p0 : (List gQuad)} {p1 : Int} {r : Int × (List gQuad)} (H : l_markQuadS p0 p1 = some r) {σ : AHeap} {w0 : Nat} (q0 : σ.objs w0 = some ⟨40, 5, encL rQuad p0⟩) : ACalls Tryd.prog G 41 [.sl w0 0 p0.length, .int .i64 p1] σ (fun v σ' => ∃ M : Nat, σ.next ≤ M ∧ r.2.length = p0.length ∧ v = .int .i64 r.1 ∧ σ' = hp σ.objs [(w0, some ⟨40, 5, encL rQuad r.2⟩)] M) := by
 refine ACalls_fr (L := [(w0, some ⟨40, 5, encL rQuad p0⟩)]) (Q1 := fun v σ' => ∃ M : Nat, σ.next ≤ M ∧ r.2.length = p0.length ∧ v = .int .i64 r.1 ∧ σ' = hp E0 [(w0, some ⟨40, 5, encL rQuad r.2⟩)] M) (by simp [q0]) (fun hlt => ?_) ?_ ⟨_, Tryd.func41, rfl, rfl⟩
 rotate_left
 ·
  rintro v σ1 ⟨M, h0, h1, rfl, rfl⟩
  exact ⟨_, M, rfl, by simp, by simp; try omega, M, h0, h1, rfl, rfl⟩
 generalize σ.next = N0 at hlt ⊢
 have lw0 : w0 < N0 := hlt _ (.head _) rfl
 refine ACalls_fn tok Tryd.func41 (by kernel_rfl) rfl Tryd.ntmps41 Tryd.results41 rfl ?_
 simp only [argsA, Nat.reduceAdd, hp_next]
 unfold l_markQuadS at H
 refine AWP_sr tok [] [0, 1] (fun a σ => a = [(0, .sl w0 0 p0.length), (1, .int .i64 p1)] ∧ σ = hp E0 [(w0, some ⟨40, 5, encL rQuad p0⟩)] (N0 + 1)) (fun K hK => ?_) ?_
 ·
  skip
  simp -dsimp -implicitDefEqProofs (maxDischargeDepth := 6)
  exact hK _ _ ⟨rfl, rfl⟩
 rintro a σ ⟨rfl, rfl⟩
 refine AWP_sq [1] fun K1 hK1 => ?_
 refine AWP_sr tok [] [0, 1, 5] (fun a σ => a = [(0, .sl w0 0 p0.length), (1, .int .i64 p1), (5, .int .i64 0)] ∧ σ = hp E0 [(w0, some ⟨40, 5, encL rQuad p0⟩)] (N0 + 2)) (fun K hK => ?_) ?_
 ·
  skip
  simp -dsimp -implicitDefEqProofs (maxDischargeDepth := 6)
  exact hK _ _ ⟨rfl, rfl⟩
 rintro a σ ⟨rfl, rfl⟩
 refine AWP_block (AWP_thenB ?_)
 obtain ⟨e1, hse1, H⟩ := bindE H
 refine AWP_lp [0, 1, 5] (fun s a σ => ∃ M1 : Nat, N0 ≤ M1 ∧ s.2.2.length = p0.length ∧ a = [(0, .sl w0 0 s.2.2.length), (1, .int .i64 s.1), (5, .int .i64 s.2.1)] ∧ σ = hp E0 [(w0, some ⟨40, 5, encL rQuad s.2.2⟩)] M1) (fun s x a σ => x = .exit 0 ∧ Rc G 48 N0 (fun a σ => ∃ M2 : Nat, N0 ≤ M2 ∧ s.2.length = p0.length ∧ a = [(1, .int .i64 s.1)] ∧ σ = hp E0 [(w0, some ⟨40, 5, encL rQuad s.2⟩)] M2) (AAct.keep a [1]) σ) hse1 ?_ ?_ ?_
 ·
  refine Rc.kp [0, 1, 5] [(0, .sl w0 0 p0.length), (1, .int .i64 p1), (5, .int .i64 0)] rfl ?_
  exact Rc.fin (AHeap.Sub.refl _) ⟨N0 + 2, (by omega), (by first | rfl | exact rfl | omega), rfl, rfl⟩
 ·
  clear H hse1
  rintro ⟨s1, s2, s3⟩ fl a σ H ⟨M1, fM1_0, fM1_1, rfl, rfl⟩ K2 O2 hK2 hO2
  unfold l_markQuadS_L1 at H; dsimp only at H
  refine AWP_sq [0, 1, 5] fun K3 hK3 => ?_
  refine AWP_sr tok [] [0, 1, 5, 9] (fun a σ => a = [(0, .sl w0 0 s3.length), (1, .int .i64 s1), (5, .int .i64 s2), (9, .bool (ilt s2 (ilen s3)))] ∧ σ = hp E0 [(w0, some ⟨40, 5, encL rQuad s3⟩)] (M1 + 4)) (fun K hK => ?_) ?_
  ·
   skip
   simp -dsimp -implicitDefEqProofs (maxDischargeDepth := 6)
   exact hK _ _ ⟨rfl, rfl⟩
  rintro a σ ⟨rfl, rfl⟩
  refine AWP_cond (ilt s2 (ilen s3)) rfl (fun C1 => ?_) (fun C1 => ?_)
  ·
   replace H := ifT C1 H
   refine AWP_skip ?_
   show K3 _ _
   refine keepE (l := [0, 1, 5]) (x := [(0, .sl w0 0 s3.length), (1, .int .i64 s1), (5, .int .i64 s2)]) rfl fun a' ha => ?_
   refine hK3 _ _ ?_; rw [ha]
   refine Rc.mk ?_
   refine AWP_sq [0, 1, 5] fun K4 hK4 => ?_
   refine AWP_block (AWP_thenB ?_)
   obtain ⟨v6, hv6, H⟩ := bindE H
   obtain ⟨l7, hl7, H⟩ := bindE H
   refine AWP_sr tok [] [0, 1, 5] (fun a σ => a = [(0, .sl w0 0 s3.length), (1, .int .i64 s1), (5, .int .i64 s2)] ∧ σ = hp E0 [(w0, some ⟨40, 5, encL rQuad l7⟩)] (M1 + 10)) (fun K hK => ?_) ?_
   ·
    skip
    simp -dsimp -implicitDefEqProofs (maxDischargeDepth := 6) [ixo59 hv6, (idx_lt3 hv6).2.2, (setx_iff.1 hl7).2.symm]
    exact hK _ _ ⟨rfl, rfl⟩
   rintro a σ ⟨rfl, rfl⟩
   try rw [← setx_len hl7]
   refine AWP_sr tok [] [0, 1, 5] (fun a σ => a = [(0, .sl w0 0 l7.length), (1, .int .i64 (iadd .i64 s1 1)), (5, .int .i64 s2)] ∧ σ = hp E0 [(w0, some ⟨40, 5, encL rQuad l7⟩)] (M1 + 13)) (fun K hK => ?_) ?_
   ·
    skip
    simp -dsimp -implicitDefEqProofs (maxDischargeDepth := 6)
    exact hK _ _ ⟨rfl, rfl⟩
   rintro a σ ⟨rfl, rfl⟩
   obtain ⟨v8, hv8, H⟩ := bindE H
   obtain ⟨l9, hl9, H⟩ := bindE H
   refine AWP_sr tok [] [0, 1, 5] (fun a σ => a = [(0, .sl w0 0 l7.length), (1, .int .i64 (iadd .i64 s1 1)), (5, .int .i64 s2)] ∧ σ = hp E0 [(w0, some ⟨40, 5, encL rQuad l9⟩)] (M1 + 19)) (fun K hK => ?_) ?_
   ·
    skip
    simp -dsimp -implicitDefEqProofs (maxDischargeDepth := 6) [ixo59 hv8, (idx_lt3 hv8).2.2, (setx_iff.1 hl9).2.symm]
    exact hK _ _ ⟨rfl, rfl⟩
   rintro a σ ⟨rfl, rfl⟩
   try rw [← setx_len hl9]
   refine AWP_sr tok [] [0, 1, 5] (fun a σ => a = [(0, .sl w0 0 l9.length), (1, .int .i64 (iadd .i64 (iadd .i64 s1 1) 1)), (5, .int .i64 s2)] ∧ σ = hp E0 [(w0, some ⟨40, 5, encL rQuad l9⟩)] (M1 + 22)) (fun K hK => ?_) ?_
   ·
    skip
    simp -dsimp -implicitDefEqProofs (maxDischargeDepth := 6)
    exact hK _ _ ⟨rfl, rfl⟩
   rintro a σ ⟨rfl, rfl⟩
   obtain ⟨v10, hv10, H⟩ := bindE H
   obtain ⟨l11, hl11, H⟩ := bindE H
   refine AWP_sr tok [] [0, 1, 5] (fun a σ => a = [(0, .sl w0 0 l9.length), (1, .int .i64 (iadd .i64 (iadd .i64 s1 1) 1)), (5, .int .i64 s2)] ∧ σ = hp E0 [(w0, some ⟨40, 5, encL rQuad l11⟩)] (M1 + 28)) (fun K hK => ?_) ?_
   ·
    skip
    simp -dsimp -implicitDefEqProofs (maxDischargeDepth := 6) [ixo59 hv10, (idx_lt3 hv10).2.2, (setx_iff.1 hl11).2.symm]
    exact hK _ _ ⟨rfl, rfl⟩
   rintro a σ ⟨rfl, rfl⟩
   try rw [← setx_len hl11]
   refine AWP_sr tok [] [0, 1, 5] (fun a σ => a = [(0, .sl w0 0 l11.length), (1, .int .i64 (iadd .i64 (iadd .i64 (iadd .i64 s1 1) 1) 1)), (5, .int .i64 s2)] ∧ σ = hp E0 [(w0, some ⟨40, 5, encL rQuad l11⟩)] (M1 + 31)) (fun K hK => ?_) ?_
   ·
    skip
    simp -dsimp -implicitDefEqProofs (maxDischargeDepth := 6)
    exact hK _ _ ⟨rfl, rfl⟩
   rintro a σ ⟨rfl, rfl⟩
   obtain ⟨v12, hv12, H⟩ := bindE H
   obtain ⟨l13, hl13, H⟩ := bindE H
   refine AWP_sr tok [] [0, 1, 5] (fun a σ => a = [(0, .sl w0 0 l11.length), (1, .int .i64 (iadd .i64 (iadd .i64 (iadd .i64 s1 1) 1) 1)), (5, .int .i64 s2)] ∧ σ = hp E0 [(w0, some ⟨40, 5, encL rQuad l13⟩)] (M1 + 37)) (fun K hK => ?_) ?_
   ·
    skip
    simp -dsimp -implicitDefEqProofs (maxDischargeDepth := 6) [ixo59 hv12, (idx_lt3 hv12).2.2, (setx_iff.1 hl13).2.symm]
    exact hK _ _ ⟨rfl, rfl⟩
   rintro a σ ⟨rfl, rfl⟩
   try rw [← setx_len hl13]
   refine AWP_sr tok [] [0, 1, 5] (fun a σ => a = [(0, .sl w0 0 l13.length), (1, .int .i64 (iadd .i64 (iadd .i64 (iadd .i64 (iadd .i64 s1 1) 1) 1) 1)), (5, .int .i64 s2)] ∧ σ = hp E0 [(w0, some ⟨40, 5, encL rQuad l13⟩)] (M1 + 40)) (fun K hK => ?_) ?_
   ·
    skip
    simp -dsimp -implicitDefEqProofs (maxDischargeDepth := 6)
    exact hK _ _ ⟨rfl, rfl⟩
   rintro a σ ⟨rfl, rfl⟩
   obtain ⟨v14, hv14, H⟩ := bindE H
   obtain ⟨l15, hl15, H⟩ := bindE H
   refine AWP_sr tok [] [0, 1, 5] (fun a σ => a = [(0, .sl w0 0 l13.length), (1, .int .i64 (iadd .i64 (iadd .i64 (iadd .i64 (iadd .i64 s1 1) 1) 1) 1)), (5, .int .i64 s2)] ∧ σ = hp E0 [(w0, some ⟨40, 5, encL rQuad l15⟩)] (M1 + 46)) (fun K hK => ?_) ?_
   ·
    skip
    simp -dsimp -implicitDefEqProofs (maxDischargeDepth := 6) [ixo59 hv14, (idx_lt3 hv14).2.2, (setx_iff.1 hl15).2.symm]
    exact hK _ _ ⟨rfl, rfl⟩
   rintro a σ ⟨rfl, rfl⟩
   try rw [← setx_len hl15]
   refine AWP_rt tok [] [0, 1, 5] (fun a σ => a = [(0, .sl w0 0 l15.length), (1, .int .i64 (iadd .i64 (iadd .i64 (iadd .i64 (iadd .i64 (iadd .i64 s1 1) 1) 1) 1) 1)), (5, .int .i64 s2)] ∧ σ = hp E0 [(w0, some ⟨40, 5, encL rQuad l15⟩)] (M1 + 49)) (fun K hK => ?_) ?_
   ·
    skip
    simp -dsimp -implicitDefEqProofs (maxDischargeDepth := 6)
    exact hK _ _ ⟨rfl, rfl⟩
   rintro a σ ⟨ha, rfl⟩
   refine hK4 _ _ ?_; rw [ha]
   refine Rc.mk ?_
   refine AWP_rt tok [] [0, 1, 5] (fun a σ => a = [(0, .sl w0 0 l15.length), (1, .int .i64 (iadd .i64 (iadd .i64 (iadd .i64 (iadd .i64 (iadd .i64 s1 1) 1) 1) 1) 1)), (5, .int .i64 (iadd .i64 s2 1))] ∧ σ = hp E0 [(w0, some ⟨40, 5, encL rQuad l15⟩)] (M1 + 52)) (fun K hK => ?_) ?_
   ·
    skip
    simp -dsimp -implicitDefEqProofs (maxDischargeDepth := 6)
    exact hK _ _ ⟨rfl, rfl⟩
   rintro a σ ⟨ha, rfl⟩
   replace H := Option.some.inj H; subst H
   refine hK2 _ _ _ rfl ?_; rw [ha]
   exact Rc.fin (AHeap.Sub.refl _) ⟨M1 + 52, (by omega), (by first | rfl | exact ((setx_len hl15).trans ((setx_len hl13).trans ((setx_len hl11).trans ((setx_len hl9).trans ((setx_len hl7).trans fM1_1))))) | omega), rfl, rfl⟩
  ·
   replace H := ifF C1 H
   replace H := Option.some.inj H; subst H
   refine AWP_exit (hO2 _ _ _ _ rfl ⟨rfl, ?_⟩)
   refine Rc.rw (l := [1]) (X := [(1, .int .i64 s1)]) rfl ?_
   exact Rc.fin (AHeap.Sub.refl _) ⟨M1 + 4, (by omega), (by first | rfl | exact fM1_1 | omega), rfl, rfl⟩
 ·
  intro x a σ hx
  obtain ⟨y4, y5⟩ := e1
  obtain ⟨rfl, b, τ, hr, M2, fM2_0, fM2_1, rfl, rfl⟩ := hx
  dsimp only at H
  show K1 _ _
  refine hK1 _ _ (Rc_ref hr ?_)
  refine Rc.mk ?_
  refine AWP_sr tok [] [4] (fun a σ => a = [(4, .int .i64 y4)] ∧ σ = hp E0 [(w0, some ⟨40, 5, encL rQuad y5⟩)] (M2 + 2)) (fun K hK => ?_) ?_
  ·
   skip
   simp -dsimp -implicitDefEqProofs (maxDischargeDepth := 6)
   exact hK _ _ ⟨rfl, rfl⟩
  rintro a σ ⟨rfl, rfl⟩
  replace H := Option.some.inj H; subst H
  refine AWP_kp [4] [(4, .int .i64 y4)] rfl ?_
  refine AWP_ret ?_
  refine ⟨[.int .i64 y4], by simp, M2 + 2, by omega, by first | rfl | exact fM2_1 | omega, ?_, ?_⟩
  ·
   simp [encL_nil]
  ·
   first | rfl | simp [List.set_set]
theorem c37_o {p0 : (List gQuad)} {r : (List gQuad)} (H : l_toQuadS_o p0 = some r) {σ : AHeap} : ACalls Tryd.prog G 37 [.fsl (encL rQuad p0)] σ (fun v σ' => ∃ M n0 : Nat, σ.next ≤ M ∧ σ.next ≤ n0 ∧ n0 < M ∧ v = .sl n0 0 r.length ∧ σ' = hp σ.objs [(n0, some ⟨40, 5, encL rQuad r⟩)] M) := by
 refine ACalls_fr (L := []) (Q1 := fun v σ' => ∃ M n0 : Nat, σ.next ≤ M ∧ σ.next ≤ n0 ∧ n0 < M ∧ v = .sl n0 0 r.length ∧ σ' = hp E0 [(n0, some ⟨40, 5, encL rQuad r⟩)] M) (by simp []) (fun hlt => ?_) ?_ ⟨_, Tryd.func37, rfl, rfl⟩
 rotate_left
 ·
  rintro v σ1 ⟨M, n0, h0, h1, h2, rfl, rfl⟩
  exact ⟨_, M, rfl, by simp, by simp; try omega, M, n0, h0, h1, h2, rfl, rfl⟩
 generalize σ.next = N0 at hlt ⊢
 refine ACalls_fn tok Tryd.func37 (by kernel_rfl) rfl Tryd.ntmps37 Tryd.results37 rfl ?_
 simp only [argsA, Nat.reduceAdd, hp_next]
 unfold l_toQuadS_o at H
 refine AWP_sr tok [] [0] (fun a σ => a = [(0, .fsl (encL rQuad p0))] ∧ σ = hp E0 [] (N0 + 1)) (fun K hK => ?_) ?_
 ·
  skip
  simp -dsimp -implicitDefEqProofs (maxDischargeDepth := 6)
  exact hK _ _ ⟨rfl, rfl⟩
 rintro a σ ⟨rfl, rfl⟩
 obtain ⟨l1, hl1, H⟩ := bindE H
 refine AWP_sr tok [] [0, 3] (fun a σ => a = [(0, .fsl (encL rQuad p0)), (3, .sl (N0 + 3) 0 l1.length)] ∧ σ = hp E0 [(N0 + 3, some ⟨40, 5, encL rQuad l1⟩)] (N0 + 5)) (fun K hK => ?_) ?_
 ·
  skip
  simp -dsimp -implicitDefEqProofs (maxDischargeDepth := 6) [mak59 hl1]
  exact hK _ _ ⟨rfl, rfl⟩
 rintro a σ ⟨rfl, rfl⟩
 refine AWP_sq [3] fun K1 hK1 => ?_
 refine AWP_sr tok [] [0, 3, 4] (fun a σ => a = [(0, .fsl (encL rQuad p0)), (3, .sl (N0 + 3) 0 l1.length), (4, .int .i64 0)] ∧ σ = hp E0 [(N0 + 3, some ⟨40, 5, encL rQuad l1⟩)] (N0 + 6)) (fun K hK => ?_) ?_
 ·
  skip
  simp -dsimp -implicitDefEqProofs (maxDischargeDepth := 6)
  exact hK _ _ ⟨rfl, rfl⟩
 rintro a σ ⟨rfl, rfl⟩
 refine AWP_block (AWP_thenB ?_)
 obtain ⟨e1, hse1, H⟩ := bindE H
 refine AWP_lp [0, 3, 4] (fun s a σ => ∃ M1 o1 : Nat, N0 ≤ M1 ∧ N0 ≤ o1 ∧ o1 < M1 ∧ a = [(0, .fsl (encL rQuad p0)), (3, .sl o1 0 s.2.length), (4, .int .i64 s.1)] ∧ σ = hp E0 [(o1, some ⟨40, 5, encL rQuad s.2⟩)] M1) (fun s x a σ => x = .exit 0 ∧ Rc G 23 N0 (fun a σ => ∃ M2 o2 : Nat, N0 ≤ M2 ∧ N0 ≤ o2 ∧ o2 < M2 ∧ a = [(3, .sl o2 0 s.length)] ∧ σ = hp E0 [(o2, some ⟨40, 5, encL rQuad s⟩)] M2) (AAct.keep a [3]) σ) hse1 ?_ ?_ ?_
 ·
  refine Rc.kp [0, 3, 4] [(0, .fsl (encL rQuad p0)), (3, .sl (N0 + 3) 0 l1.length), (4, .int .i64 0)] rfl ?_
  exact Rc.fin (AHeap.Sub.refl _) ⟨N0 + 6, (N0 + 3), (by omega), (by omega), (by omega), rfl, rfl⟩
 ·
  clear H hse1
  rintro ⟨s2, s3⟩ fl a σ H ⟨M1, o1, fM1_0, fM1_1, fM1_2, rfl, rfl⟩ K2 O2 hK2 hO2
  unfold l_toQuadS_o_L1 at H; dsimp only at H
  refine AWP_sq [0, 3, 4] fun K3 hK3 => ?_
  refine AWP_sr tok [] [0, 3, 4, 11] (fun a σ => a = [(0, .fsl (encL rQuad p0)), (3, .sl o1 0 s3.length), (4, .int .i64 s2), (11, .bool (ilt s2 (ilen p0)))] ∧ σ = hp E0 [(o1, some ⟨40, 5, encL rQuad s3⟩)] (M1 + 4)) (fun K hK => ?_) ?_
  ·
   skip
   simp -dsimp -implicitDefEqProofs (maxDischargeDepth := 6)
   exact hK _ _ ⟨rfl, rfl⟩
  rintro a σ ⟨rfl, rfl⟩
  refine AWP_cond (ilt s2 (ilen p0)) rfl (fun C1 => ?_) (fun C1 => ?_)
  ·
   replace H := ifT C1 H
   refine AWP_skip ?_
   show K3 _ _
   refine keepE (l := [0, 3, 4]) (x := [(0, .fsl (encL rQuad p0)), (3, .sl o1 0 s3.length), (4, .int .i64 s2)]) rfl fun a' ha => ?_
   refine hK3 _ _ ?_; rw [ha]
   refine Rc.mk ?_
   refine AWP_sq [0, 3, 4] fun K4 hK4 => ?_
   refine AWP_block (AWP_thenB ?_)
   obtain ⟨v5, hv5, H⟩ := bindE H
   obtain ⟨r6, hr6, H⟩ := bindE H
   obtain ⟨v7, hv7, H⟩ := bindE H
   obtain ⟨l8, hl8, H⟩ := bindE H
   refine AWP_rt tok [] [0, 3, 4] (fun a σ => a = [(0, .fsl (encL rQuad p0)), (3, .sl o1 0 s3.length), (4, .int .i64 s2)] ∧ σ = hp E0 [(o1, some ⟨40, 5, encL rQuad l8⟩)] (M1 + 13)) (fun K hK => ?_) ?_
   ·
    skip
    simp -dsimp -implicitDefEqProofs (maxDischargeDepth := 6) [ix56 hv5, ixo59 hv7, (idx_lt3 hv7).2.2, (setx_iff.1 hl8).2.symm]
    refine (c24 hr6).app ?_; try simp -dsimp -implicitDefEqProofs (maxDischargeDepth := 6) [ix56 hv5, ixo59 hv7, (idx_lt3 hv7).2.2, (setx_iff.1 hl8).2.symm]
    exact hK _ _ ⟨rfl, rfl⟩
   rintro a σ ⟨ha, rfl⟩
   (try rw [← setx_len hl8] at ha); (try rw [← setx_len hl8])
   refine hK4 _ _ ?_; rw [ha]
   refine Rc.mk ?_
   refine AWP_rt tok [] [0, 3, 4] (fun a σ => a = [(0, .fsl (encL rQuad p0)), (3, .sl o1 0 l8.length), (4, .int .i64 (iadd .i64 s2 1))] ∧ σ = hp E0 [(o1, some ⟨40, 5, encL rQuad l8⟩)] (M1 + 16)) (fun K hK => ?_) ?_
   ·
    skip
    simp -dsimp -implicitDefEqProofs (maxDischargeDepth := 6)
    exact hK _ _ ⟨rfl, rfl⟩
   rintro a σ ⟨ha, rfl⟩
   replace H := Option.some.inj H; subst H
   refine hK2 _ _ _ rfl ?_; rw [ha]
   exact Rc.fin (AHeap.Sub.refl _) ⟨M1 + 16, o1, (by omega), (by omega), (by omega), rfl, rfl⟩
  ·
   replace H := ifF C1 H
   replace H := Option.some.inj H; subst H
   refine AWP_exit (hO2 _ _ _ _ rfl ⟨rfl, ?_⟩)
   refine Rc.rw (l := [3]) (X := [(3, .sl o1 0 s3.length)]) rfl ?_
   exact Rc.fin (AHeap.Sub.refl _) ⟨M1 + 4, o1, (by omega), (by omega), (by omega), rfl, rfl⟩
 ·
  intro x a σ hx
  obtain ⟨y4, rfl⟩ : ∃ x, x = e1 := ⟨_, rfl⟩
  obtain ⟨rfl, b, τ, hr, M2, o2, fM2_0, fM2_1, fM2_2, rfl, rfl⟩ := hx
  dsimp only at H
  show K1 _ _
  refine hK1 _ _ (Rc_ref hr ?_)
  refine Rc.mk ?_
  refine AWP_sr tok [] [2] (fun a σ => a = [(2, .sl o2 0 y4.length)] ∧ σ = hp E0 [(o2, some ⟨40, 5, encL rQuad y4⟩)] (M2 + 2)) (fun K hK => ?_) ?_
  ·
   skip
   simp -dsimp -implicitDefEqProofs (maxDischargeDepth := 6)
   exact hK _ _ ⟨rfl, rfl⟩
  rintro a σ ⟨rfl, rfl⟩
  replace H := Option.some.inj H; subst H
  refine AWP_kp [2] [(2, .sl o2 0 y4.length)] rfl ?_
  refine AWP_ret ?_
  refine ⟨[.sl o2 0 y4.length], by simp, M2 + 2, o2, by omega, by omega, by omega, ?_, ?_⟩
  ·
   simp [encL_nil]
  ·
   first | rfl | simp [List.set_set]
theorem c87 {p0 : (List gQuad)} {p1 : Int} {r : (List gInstr)} (H : s_l43Task p0 p1 = some r) : APure Tryd.prog G 87 [.fsl (encL rQuad p0), .int .i64 p1] (.fsl (encL rInstr r)) := by
 refine APure_fn (fun N0 => ?_) (by simp)
 refine ACalls_fn tok Tryd.func87 (by kernel_rfl) rfl Tryd.ntmps87 Tryd.results87 rfl ?_
 simp only [argsA, Nat.reduceAdd, hp_next]
 unfold s_l43Task at H
 refine AWP_sr tok [] [0, 1] (fun a σ => a = [(0, .fsl (encL rQuad p0)), (1, .int .i64 p1)] ∧ σ = hp E0 [] (N0 + 1)) (fun K hK => ?_) ?_
 ·
  skip
  simp -dsimp -implicitDefEqProofs (maxDischargeDepth := 6)
  exact hK _ _ ⟨rfl, rfl⟩
 rintro a σ ⟨rfl, rfl⟩
 obtain ⟨r1, hr1, H⟩ := bindE H
 refine AWP_sr tok [] [0, 1, 5] (fun a σ => a = [(0, .fsl (encL rQuad p0)), (1, .int .i64 p1), (5, .fsl (encL rI r1))] ∧ σ = hp E0 [] (N0 + 5)) (fun K hK => ?_) ?_
 ·
  skip
  simp -dsimp -implicitDefEqProofs (maxDischargeDepth := 6)
  refine (c82 hr1).app ?_; try simp -dsimp -implicitDefEqProofs (maxDischargeDepth := 6)
  exact hK _ _ ⟨rfl, rfl⟩
 rintro a σ ⟨rfl, rfl⟩
 have q0 : ∀ σ i, buildSliceA T 29 true i 0 [] σ = some (.esl, σ) := fun _ _ => rfl
 refine AWP_sr tok [0] [0, 1, 5, 6] (fun a σ => a = [(0, .fsl (encL rQuad p0)), (1, .int .i64 p1), (5, .fsl (encL rI r1)), (6, .esl)] ∧ σ = hp E0 [] (N0 + 7)) (fun K hK => ?_) ?_
 ·
  skip
  simp -dsimp -implicitDefEqProofs (maxDischargeDepth := 6) [q0]
  exact hK _ _ ⟨rfl, rfl⟩
 rintro a σ ⟨rfl, rfl⟩
 refine AWP_sq [6] fun K1 hK1 => ?_
 refine AWP_sr tok [] [0, 1, 5, 6, 7] (fun a σ => a = [(0, .fsl (encL rQuad p0)), (1, .int .i64 p1), (5, .fsl (encL rI r1)), (6, .esl), (7, .int .i64 0)] ∧ σ = hp E0 [] (N0 + 8)) (fun K hK => ?_) ?_
 ·
  skip
  simp -dsimp -implicitDefEqProofs (maxDischargeDepth := 6)
  exact hK _ _ ⟨rfl, rfl⟩
 rintro a σ ⟨rfl, rfl⟩
 refine AWP_block (AWP_thenB ?_)
 obtain ⟨e2, hse2, H⟩ := bindE H
 refine AWP_lp [0, 1, 5, 6, 7] (fun s a σ => ∃ M1 o1 : Nat, N0 ≤ M1 ∧ N0 ≤ o1 ∧ o1 < M1 ∧ a = [(0, .fsl (encL rQuad p0)), (1, .int .i64 p1), (5, .fsl (encL rI r1)), (6, .sl o1 0 s.2.length), (7, .int .i64 s.1)] ∧ σ = hp E0 [(o1, some ⟨47, 5, encL rInstr s.2⟩)] M1) (fun s x a σ => x = .exit 0 ∧ Rc G 57 N0 (fun a σ => ∃ M2 o2 : Nat, N0 ≤ M2 ∧ N0 ≤ o2 ∧ o2 < M2 ∧ a = [(6, .sl o2 0 s.length)] ∧ σ = hp E0 [(o2, some ⟨47, 5, encL rInstr s⟩)] M2) (AAct.keep a [6]) σ) hse2 ?_ ?_ ?_
 ·
  refine Rc.kp [0, 1, 5, 6, 7] [(0, .fsl (encL rQuad p0)), (1, .int .i64 p1), (5, .fsl (encL rI r1)), (6, .esl), (7, .int .i64 0)] rfl ?_
  refine gNilS Rc_ref 6 47 5 [(N0 + 8, some ⟨47, 5, encL rInstr ([] : List gInstr)⟩)] [(0, .fsl (encL rQuad p0)), (1, .int .i64 p1), (5, .fsl (encL rI r1)), (6, .sl (N0 + 8) 0 ([] : List gInstr).length), (7, .int .i64 0)] (by simp (disch := omega)) (by simp (disch := omega) [encL_nil]) [0, 1, 5, 6, 7] rfl ?_
  exact Rc.fin (AHeap.Sub.refl _) ⟨N0 + 9, (N0 + 8), (by omega), (by omega), (by omega), rfl, rfl⟩
 ·
  clear H hse2
  rintro ⟨s2, s3⟩ fl a σ H ⟨M1, o1, fM1_0, fM1_1, fM1_2, rfl, rfl⟩ K2 O2 hK2 hO2
  unfold s_l43Task_L1 at H; dsimp only at H
  refine AWP_sq [0, 1, 5, 6, 7] fun K3 hK3 => ?_
  refine AWP_sr tok [] [0, 1, 5, 6, 7, 16] (fun a σ => a = [(0, .fsl (encL rQuad p0)), (1, .int .i64 p1), (5, .fsl (encL rI r1)), (6, .sl o1 0 s3.length), (7, .int .i64 s2), (16, .bool (ilt s2 (ilen p0)))] ∧ σ = hp E0 [(o1, some ⟨47, 5, encL rInstr s3⟩)] (M1 + 4)) (fun K hK => ?_) ?_
  ·
   skip
   simp -dsimp -implicitDefEqProofs (maxDischargeDepth := 6)
   exact hK _ _ ⟨rfl, rfl⟩
  rintro a σ ⟨rfl, rfl⟩
  refine AWP_cond (ilt s2 (ilen p0)) rfl (fun C1 => ?_) (fun C1 => ?_)
  ·
   replace H := ifT C1 H
   refine AWP_skip ?_
   show K3 _ _
   refine keepE (l := [0, 1, 5, 6, 7]) (x := [(0, .fsl (encL rQuad p0)), (1, .int .i64 p1), (5, .fsl (encL rI r1)), (6, .sl o1 0 s3.length), (7, .int .i64 s2)]) rfl fun a' ha => ?_
   refine hK3 _ _ ?_; rw [ha]
   refine Rc.mk ?_
   refine AWP_sq [0, 1, 5, 6, 7] fun K4 hK4 => ?_
   refine AWP_block (AWP_thenB ?_)
   refine AWP_sr tok [] [0, 1, 5, 6, 7, 8] (fun a σ => a = [(0, .fsl (encL rQuad p0)), (1, .int .i64 p1), (5, .fsl (encL rI r1)), (6, .sl o1 0 s3.length), (7, .int .i64 s2), (8, .int .i64 0)] ∧ σ = hp E0 [(o1, some ⟨47, 5, encL rInstr s3⟩)] (M1 + 5)) (fun K hK => ?_) ?_
   ·
    skip
    simp -dsimp -implicitDefEqProofs (maxDischargeDepth := 6)
    exact hK _ _ ⟨rfl, rfl⟩
   rintro a σ ⟨rfl, rfl⟩
   obtain ⟨j1, hj1, H⟩ := bindE H
   refine AWP_seq (AWP_named fun K5 hK5 => ?_)
   have hJ1 : ∀ a σ, Rc G 57 N0 (fun a σ => ∃ M3 : Nat, N0 ≤ M3 ∧ o1 < M3 ∧ a = [(0, .fsl (encL rQuad p0)), (1, .int .i64 p1), (5, .fsl (encL rI r1)), (6, .sl o1 0 s3.length), (7, .int .i64 s2), (8, .int .i64 j1)] ∧ σ = hp E0 [(o1, some ⟨47, 5, encL rInstr s3⟩)] M3) (a.keep [0, 1, 5, 6, 7, 8]) σ → K5 a σ := by
    rintro a σ ⟨b, τ, hr, M3, fM3_0, fM3_1, rfl, rfl⟩
    refine hK5 _ _ (AWP_keep [0, 1, 5, 6, 7, 8] (AWP_ref hr ?_))
    obtain ⟨v6, hv6, H⟩ := bindE H
    obtain ⟨r7, hr7, H⟩ := bindE H
    obtain ⟨l8, hl8, H⟩ := bindE H
    refine AWP_rt tok [] [0, 1, 5, 6, 7] (fun a σ => a = [(0, .fsl (encL rQuad p0)), (1, .int .i64 p1), (5, .fsl (encL rI r1)), (6, .sl (M3 + 8) 0 l8.length), (7, .int .i64 s2)] ∧ σ = hp E0 [(M3 + 8, some ⟨47, 5, encL rInstr l8⟩)] (M3 + 10)) (fun K hK => ?_) ?_
    ·
     skip
     have e0 := nq (a := o1) (b := M3 + 8) (by omega)
     simp -dsimp -implicitDefEqProofs (maxDischargeDepth := 6) [e0, ix59 hv6, app29 hl8]
     refine (c66 hr7).app ?_; try simp -dsimp -implicitDefEqProofs (maxDischargeDepth := 6) [e0, ix59 hv6, app29 hl8]
     exact hK _ _ ⟨rfl, rfl⟩
    rintro a σ ⟨ha, rfl⟩
    refine hK4 _ _ ?_; rw [ha]
    refine Rc.mk ?_
    refine AWP_rt tok [] [0, 1, 5, 6, 7] (fun a σ => a = [(0, .fsl (encL rQuad p0)), (1, .int .i64 p1), (5, .fsl (encL rI r1)), (6, .sl (M3 + 8) 0 l8.length), (7, .int .i64 (iadd .i64 s2 1))] ∧ σ = hp E0 [(M3 + 8, some ⟨47, 5, encL rInstr l8⟩)] (M3 + 13)) (fun K hK => ?_) ?_
    ·
     skip
     simp -dsimp -implicitDefEqProofs (maxDischargeDepth := 6)
     exact hK _ _ ⟨rfl, rfl⟩
    rintro a σ ⟨ha, rfl⟩
    replace H := Option.some.inj H; subst H
    refine hK2 _ _ _ rfl ?_; rw [ha]
    exact Rc.fin (AHeap.Sub.refl _) ⟨M3 + 13, (M3 + 8), (by omega), (by omega), (by omega), rfl, rfl⟩
   replace H := hj1
   obtain ⟨v9, hv9, H⟩ := bindE H
   obtain ⟨g10, hg10, H⟩ := bindE H
   refine AWP_sr tok [] [0, 1, 5, 6, 7, 8, 32] (fun a σ => a = [(0, .fsl (encL rQuad p0)), (1, .int .i64 p1), (5, .fsl (encL rI r1)), (6, .sl o1 0 s3.length), (7, .int .i64 s2), (8, .int .i64 0), (32, .bool g10)] ∧ σ = hp E0 [(o1, some ⟨47, 5, encL rInstr s3⟩)] (M1 + 19)) (fun K hK => ?_) ?_
   ·
    skip
    simp -dsimp -implicitDefEqProofs (maxDischargeDepth := 6) [ix59 hv9]
    cases hbg10 : ieq v9.Op 4
    ·
     replace hg10 := ifF hbg10 hg10
     replace hg10 := Option.some.inj hg10; subst hg10
     try simp -dsimp -implicitDefEqProofs (maxDischargeDepth := 6) [ix59 hv9, hbg10, ix59 hv9]
     exact hK _ _ ⟨rfl, rfl⟩
    ·
     replace hg10 := ifT hbg10 hg10
     replace hg10 := Option.some.inj hg10; subst hg10
     try simp -dsimp -implicitDefEqProofs (maxDischargeDepth := 6) [ix59 hv9, hbg10]
     exact hK _ _ ⟨rfl, rfl⟩
   rintro a σ ⟨rfl, rfl⟩
   refine AWP_cond g10 rfl (fun C2 => ?_) (fun C2 => ?_)
   ·
    replace H := ifT C2 H
    obtain ⟨v11, hv11, H⟩ := bindE H
    obtain ⟨v12, hv12, H⟩ := bindE H
    refine AWP_rd tok tokM [] [] [0, 1, 2, 3, 4, 5, 6, 7, 8, 9, 10, 11, 12, 13, 14] [0, 1, 5, 6, 7, 8] (fun a σ => a = [(0, .fsl (encL rQuad p0)), (1, .int .i64 p1), (5, .fsl (encL rI r1)), (6, .sl o1 0 s3.length), (7, .int .i64 s2), (8, .int .i64 (imul .i64 4 (isub .i64 v11 v12)))] ∧ σ = hp E0 [(o1, some ⟨47, 5, encL rInstr s3⟩)] (M1 + 34)) (by decide) (fun K hK => ?_) ?_
    ·
     simp only [pickL, nthO_succ, nthO_zero]
     simp -dsimp -implicitDefEqProofs (maxDischargeDepth := 6) [ix59 hv9, ix24 hv11, ix24 hv12]
     exact hK _ _ ⟨rfl, rfl⟩
    rintro a σ ⟨ha, rfl⟩
    replace H := Option.some.inj H; subst H
    refine hJ1 _ _ ?_; rw [ha]
    exact Rc.fin (AHeap.Sub.refl _) ⟨M1 + 34, (by omega), (by omega), rfl, rfl⟩
   ·
    replace H := ifF C2 H
    refine AWP_skip ?_
    show K5 _ _
    refine keepE (l := [0, 1, 5, 6, 7, 8]) (x := [(0, .fsl (encL rQuad p0)), (1, .int .i64 p1), (5, .fsl (encL rI r1)), (6, .sl o1 0 s3.length), (7, .int .i64 s2), (8, .int .i64 0)]) rfl fun a' ha => ?_
    replace H := Option.some.inj H; subst H
    refine hJ1 _ _ ?_; rw [ha]
    exact Rc.fin (AHeap.Sub.refl _) ⟨M1 + 19, (by omega), (by omega), rfl, rfl⟩
  ·
   replace H := ifF C1 H
   replace H := Option.some.inj H; subst H
   refine AWP_exit (hO2 _ _ _ _ rfl ⟨rfl, ?_⟩)
   refine Rc.rw (l := [6]) (X := [(6, .sl o1 0 s3.length)]) rfl ?_
   exact Rc.fin (AHeap.Sub.refl _) ⟨M1 + 4, o1, (by omega), (by omega), (by omega), rfl, rfl⟩
 ·
  intro x a σ hx
  obtain ⟨y4, rfl⟩ : ∃ x, x = e2 := ⟨_, rfl⟩
  obtain ⟨rfl, b, τ, hr, M2, o2, fM2_0, fM2_1, fM2_2, rfl, rfl⟩ := hx
  dsimp only at H
  show K1 _ _
  refine hK1 _ _ (Rc_ref hr ?_)
  refine Rc.mk ?_
  refine AWP_sr tok [] [4] (fun a σ => a = [(4, .sl o2 0 y4.length)] ∧ σ = hp E0 [(o2, some ⟨47, 5, encL rInstr y4⟩)] (M2 + 2)) (fun K hK => ?_) ?_
  ·
   skip
   simp -dsimp -implicitDefEqProofs (maxDischargeDepth := 6)
   exact hK _ _ ⟨rfl, rfl⟩
  rintro a σ ⟨rfl, rfl⟩
  replace H := Option.some.inj H; subst H
  refine AWP_kp [4] [(4, .sl o2 0 y4.length)] rfl ?_
  refine AWP_ret ?_
  exact ⟨[.sl o2 0 y4.length], by simp, 4, by simp [encL_nil]⟩
theorem c46 {p0 : (List gQuad)} {p1 : Int} {r : (List gInstr) × Bool} (H : s_TaskInstrs p0 p1 = some r) : APure Tryd.prog G 46 [.fsl (encL rQuad p0), .int .i64 p1] (.tup [.fsl (encL rInstr r.1), .bool r.2]) := by
 refine APure_fn (fun N0 => ?_) (by simp)
 refine ACalls_fn tok Tryd.func46 (by kernel_rfl) rfl Tryd.ntmps46 Tryd.results46 rfl ?_
 simp only [argsA, Nat.reduceAdd, hp_next]
 unfold s_TaskInstrs at H
 refine AWP_sr tok [] [0, 1] (fun a σ => a = [(0, .fsl (encL rQuad p0)), (1, .int .i64 p1)] ∧ σ = hp E0 [] (N0 + 2)) (fun K hK => ?_) ?_
 ·
  skip
  simp -dsimp -implicitDefEqProofs (maxDischargeDepth := 6)
  exact hK _ _ ⟨rfl, rfl⟩
 rintro a σ ⟨rfl, rfl⟩
 refine AWP_sq [0, 1] fun K1 hK1 => ?_
 obtain ⟨r1, hr1, H⟩ := bindE H
 obtain ⟨g3, hg3, H⟩ := bindE H
 refine AWP_sr tok [] [0, 1, 13] (fun a σ => a = [(0, .fsl (encL rQuad p0)), (1, .int .i64 p1), (13, .bool g3)] ∧ σ = hp E0 [] (N0 + 10)) (fun K hK => ?_) ?_
 ·
  skip
  simp -dsimp -implicitDefEqProofs (maxDischargeDepth := 6)
  refine (c81 hr1).app ?_; try simp -dsimp -implicitDefEqProofs (maxDischargeDepth := 6)
  cases hbg3 : bnot r1
  ·
   replace hg3 := ifF hbg3 hg3
   obtain ⟨r2, hr2, hg3⟩ := bindE hg3
   replace hg3 := Option.some.inj hg3; subst hg3
   try simp -dsimp -implicitDefEqProofs (maxDischargeDepth := 6) [hbg3]
   refine (c65 hr2).app ?_; try simp -dsimp -implicitDefEqProofs (maxDischargeDepth := 6) [hbg3]
   exact hK _ _ ⟨rfl, rfl⟩
  ·
   replace hg3 := ifT hbg3 hg3
   replace hg3 := Option.some.inj hg3; subst hg3
   try simp -dsimp -implicitDefEqProofs (maxDischargeDepth := 6) [hbg3]
   exact hK _ _ ⟨rfl, rfl⟩
 rintro a σ ⟨rfl, rfl⟩
 refine AWP_cond g3 rfl (fun C1 => ?_) (fun C1 => ?_)
 ·
  replace H := ifT C1 H
  have q0 : ∀ σ i, buildSliceA T 29 true i 0 [] σ = some (.esl, σ) := fun _ _ => rfl
  refine AWP_sr tok [0] [4, 5] (fun a σ => a = [(4, .esl), (5, .bool false)] ∧ σ = hp E0 [] (N0 + 13)) (fun K hK => ?_) ?_
  ·
   skip
   simp -dsimp -implicitDefEqProofs (maxDischargeDepth := 6) [q0]
   exact hK _ _ ⟨rfl, rfl⟩
  rintro a σ ⟨rfl, rfl⟩
  replace H := Option.some.inj H; subst H
  refine AWP_kp [4, 5] [(4, .esl), (5, .bool false)] rfl ?_
  refine AWP_ret ?_
  exact ⟨[.esl, .bool false], by simp, 4, by simp [encL_nil]⟩
 ·
  replace H := ifF C1 H
  refine AWP_skip ?_
  show K1 _ _
  refine keepE (l := [0, 1]) (x := [(0, .fsl (encL rQuad p0)), (1, .int .i64 p1)]) rfl fun a' ha => ?_
  refine hK1 _ _ ?_; rw [ha]
  refine Rc.mk ?_
  obtain ⟨r4, hr4, H⟩ := bindE H
  refine AWP_sr tok [] [4, 5] (fun a σ => a = [(4, .fsl (encL rInstr r4)), (5, .bool true)] ∧ σ = hp E0 [] (N0 + 15)) (fun K hK => ?_) ?_
  ·
   skip
   simp -dsimp -implicitDefEqProofs (maxDischargeDepth := 6)
   refine (c87 hr4).app ?_; try simp -dsimp -implicitDefEqProofs (maxDischargeDepth := 6)
   exact hK _ _ ⟨rfl, rfl⟩
  rintro a σ ⟨rfl, rfl⟩
  replace H := Option.some.inj H; subst H
  refine AWP_kp [4, 5] [(4, .fsl (encL rInstr r4)), (5, .bool true)] rfl ?_
  refine AWP_ret ?_
  exact ⟨[.fsl (encL rInstr r4), .bool true], by simp, 4, by simp [encL_nil]⟩
theorem c38_n {p0 : (List gQuad)} {p1 : Int} {r : (List Int)} (H : i_TaskPlaces_n p0 p1 = some r) : APure Tryd.prog G 38 [.fsl (encL rQuad p0), .int .i64 p1] (nslA (encL rI r)) := by
 refine APure_fn (fun N0 => ?_) (below_nsl (by simp))
 refine ACalls_fn tok Tryd.func38 (by kernel_rfl) rfl Tryd.ntmps38 Tryd.results38 rfl ?_
 simp only [argsA, Nat.reduceAdd, hp_next]
 unfold i_TaskPlaces_n at H
 refine AWP_sr tok [] [0, 1] (fun a σ => a = [(0, .fsl (encL rQuad p0)), (1, .int .i64 p1)] ∧ σ = hp E0 [] (N0 + 1)) (fun K hK => ?_) ?_
 ·
  skip
  simp -dsimp -implicitDefEqProofs (maxDischargeDepth := 6)
  exact hK _ _ ⟨rfl, rfl⟩
 rintro a σ ⟨rfl, rfl⟩
 refine AWP_sq [0, 1] fun K1 hK1 => ?_
 obtain ⟨r1, hr1, H⟩ := bindE H
 obtain ⟨g2, hg2, H⟩ := bindE H
 obtain ⟨g3, hg3, H⟩ := bindE H
 refine AWP_sr tok [] [0, 1, 19] (fun a σ => a = [(0, .fsl (encL rQuad p0)), (1, .int .i64 p1), (19, .bool g3)] ∧ σ = hp E0 [] (N0 + 12)) (fun K hK => ?_) ?_
 ·
  skip
  simp -dsimp -implicitDefEqProofs (maxDischargeDepth := 6)
  refine (c83 hr1).app ?_; try simp -dsimp -implicitDefEqProofs (maxDischargeDepth := 6)
  cases hbg2 : bnot r1
  ·
   replace hg2 := ifF hbg2 hg2
   replace hg2 := Option.some.inj hg2; subst hg2
   try simp -dsimp -implicitDefEqProofs (maxDischargeDepth := 6) [hbg2]
   cases hbg3 : (ilt p1 1)
   ·
    replace hg3 := ifF hbg3 hg3
    replace hg3 := Option.some.inj hg3; subst hg3
    try simp -dsimp -implicitDefEqProofs (maxDischargeDepth := 6) [hbg2, hbg3]
    exact hK _ _ ⟨rfl, rfl⟩
   ·
    replace hg3 := ifT hbg3 hg3
    replace hg3 := Option.some.inj hg3; subst hg3
    try simp -dsimp -implicitDefEqProofs (maxDischargeDepth := 6) [hbg2, hbg3]
    exact hK _ _ ⟨rfl, rfl⟩
  ·
   replace hg2 := ifT hbg2 hg2
   replace hg2 := Option.some.inj hg2; subst hg2
   try simp -dsimp -implicitDefEqProofs (maxDischargeDepth := 6) [hbg2]
   replace hg3 := ifT rfl hg3
   replace hg3 := Option.some.inj hg3; subst hg3
   try simp -dsimp -implicitDefEqProofs (maxDischargeDepth := 6) [hbg2]
   exact hK _ _ ⟨rfl, rfl⟩
 rintro a σ ⟨rfl, rfl⟩
 refine AWP_cond g3 rfl (fun C1 => ?_) (fun C1 => ?_)
 ·
  replace H := ifT C1 H
  refine AWP_sr tok [] [4] (fun a σ => a = [(4, .nilsl)] ∧ σ = hp E0 [] (N0 + 13)) (fun K hK => ?_) ?_
  ·
   skip
   simp -dsimp -implicitDefEqProofs (maxDischargeDepth := 6)
   exact hK _ _ ⟨rfl, rfl⟩
  rintro a σ ⟨rfl, rfl⟩
  replace H := Option.some.inj H; subst H
  refine AWP_kp [4] [(4, .nilsl)] rfl ?_
  refine AWP_ret ?_
  exact ⟨[.nilsl], by simp, 0, rfl⟩
 ·
  replace H := ifF C1 H
  refine AWP_skip ?_
  show K1 _ _
  refine keepE (l := [0, 1]) (x := [(0, .fsl (encL rQuad p0)), (1, .int .i64 p1)]) rfl fun a' ha => ?_
  refine hK1 _ _ ?_; rw [ha]
  refine Rc.mk ?_
  refine AWP_sr tok [] [0, 1, 5] (fun a σ => a = [(0, .fsl (encL rQuad p0)), (1, .int .i64 p1), (5, .nilsl)] ∧ σ = hp E0 [] (N0 + 13)) (fun K hK => ?_) ?_
  ·
   skip
   simp -dsimp -implicitDefEqProofs (maxDischargeDepth := 6)
   exact hK _ _ ⟨rfl, rfl⟩
  rintro a σ ⟨rfl, rfl⟩
  refine AWP_sr tok [] [0, 1, 5, 6] (fun a σ => a = [(0, .fsl (encL rQuad p0)), (1, .int .i64 p1), (5, .nilsl), (6, .int .i64 0)] ∧ σ = hp E0 [] (N0 + 14)) (fun K hK => ?_) ?_
  ·
   skip
   simp -dsimp -implicitDefEqProofs (maxDischargeDepth := 6)
   exact hK _ _ ⟨rfl, rfl⟩
  rintro a σ ⟨rfl, rfl⟩
  refine AWP_sq [5] fun K2 hK2 => ?_
  refine AWP_sr tok [] [1, 5, 6, 20, 21, 22] (fun a σ => a = [(1, .int .i64 p1), (5, .nilsl), (6, .int .i64 0), (20, .fsl (encL rQuad p0)), (21, .int .i64 (ilen p0)), (22, .int .i64 0)] ∧ σ = hp E0 [] (N0 + 17)) (fun K hK => ?_) ?_
  ·
   skip
   simp -dsimp -implicitDefEqProofs (maxDischargeDepth := 6)
   exact hK _ _ ⟨rfl, rfl⟩
  rintro a σ ⟨rfl, rfl⟩
  refine AWP_block (AWP_thenB ?_)
  obtain ⟨e1, hse1, H⟩ := bindE H
  refine AWP_lp [1, 5, 6, 20, 21, 22] (fun s a σ => ∃ M1 o1 : Nat, N0 ≤ M1 ∧ N0 ≤ o1 ∧ o1 < M1 ∧ a = [(1, .int .i64 p1), (5, nslO o1 s.2.2.length), (6, .int .i64 s.1), (20, .fsl (encL rQuad p0)), (21, .int .i64 (ilen p0)), (22, .int .i64 s.2.1)] ∧ σ = hp E0 [(o1, some ⟨3, 1, encL rI s.2.2⟩)] M1) (fun s x a σ => x = .exit 0 ∧ Rc G 38 N0 (fun a σ => ∃ M2 o2 : Nat, N0 ≤ M2 ∧ N0 ≤ o2 ∧ o2 < M2 ∧ a = [(5, nslO o2 s.length)] ∧ σ = hp E0 [(o2, some ⟨3, 1, encL rI s⟩)] M2) (AAct.keep a [5]) σ) hse1 ?_ ?_ ?_
  ·
   refine Rc.kp [1, 5, 6, 20, 21, 22] [(1, .int .i64 p1), (5, .nilsl), (6, .int .i64 0), (20, .fsl (encL rQuad p0)), (21, .int .i64 (ilen p0)), (22, .int .i64 0)] rfl ?_
   refine gNew Rc_ref 3 1 [(N0 + 17, some ⟨3, 1, encL rI ([] : List Int)⟩)] (by simp (disch := omega) [encL_nil]) ?_
   exact Rc.fin (AHeap.Sub.refl _) ⟨N0 + 18, (N0 + 17), (by omega), (by omega), (by omega), rfl, rfl⟩
  ·
   clear H hse1
   rintro ⟨s4, s5, s6⟩ fl a σ H ⟨M1, o1, fM1_0, fM1_1, fM1_2, rfl, rfl⟩ K3 O3 hK3 hO3
   unfold i_TaskPlaces_n_L1 at H; dsimp only at H
   refine AWP_sr tok [] [1, 5, 6, 20, 21, 22, 23] (fun a σ => a = [(1, .int .i64 p1), (5, nslO o1 s6.length), (6, .int .i64 s4), (20, .fsl (encL rQuad p0)), (21, .int .i64 (ilen p0)), (22, .int .i64 s5), (23, .bool (ilt s5 (ilen p0)))] ∧ σ = hp E0 [(o1, some ⟨3, 1, encL rI s6⟩)] (M1 + 1)) (fun K hK => ?_) ?_
   ·
    skip
    simp -dsimp -implicitDefEqProofs (maxDischargeDepth := 6)
    exact hK _ _ ⟨rfl, rfl⟩
   rintro a σ ⟨rfl, rfl⟩
   refine AWP_sq [1, 5, 6, 20, 21, 22] fun K4 hK4 => ?_
   refine AWP_cond (ilt s5 (ilen p0)) rfl (fun C2 => ?_) (fun C2 => ?_)
   ·
    replace H := ifT C2 H
    refine AWP_skip ?_
    show K4 _ _
    refine keepE (l := [1, 5, 6, 20, 21, 22]) (x := [(1, .int .i64 p1), (5, nslO o1 s6.length), (6, .int .i64 s4), (20, .fsl (encL rQuad p0)), (21, .int .i64 (ilen p0)), (22, .int .i64 s5)]) rfl fun a' ha => ?_
    refine hK4 _ _ ?_; rw [ha]
    refine Rc.mk ?_
    refine AWP_sq [1, 5, 6, 20, 21, 22] fun K5 hK5 => ?_
    refine AWP_block (AWP_thenB ?_)
    obtain ⟨v8, hv8, H⟩ := bindE H
    refine AWP_sr tok [] [1, 5, 6, 8, 20, 21, 22] (fun a σ => a = [(1, .int .i64 p1), (5, nslO o1 s6.length), (6, .int .i64 s4), (8, .ptr (M1 + 3) 0 0), (20, .fsl (encL rQuad p0)), (21, .int .i64 (ilen p0)), (22, .int .i64 s5)] ∧ σ = hp E0 [(o1, some ⟨3, 1, encL rI s6⟩), (M1 + 3, some ⟨40, 5, [[.int .i64 v8.Op, .int .i64 v8.Dst, .int .i64 v8.A, .int .i64 v8.B, .int .i64 v8.N]]⟩)] (M1 + 5)) (fun K hK => ?_) ?_
    ·
     skip
     have e0 := nq (a := o1) (b := M1 + 3) (by omega)
     simp -dsimp -implicitDefEqProofs (maxDischargeDepth := 6) [e0, ix59 hv8]
     exact hK _ _ ⟨rfl, rfl⟩
    rintro a σ ⟨rfl, rfl⟩
    have z1 := nq (a := o1) (b := M1 + 3) (by omega)
    rcases Classical.em (s6 = []) with hn1 | hn1
    ·
     rw [show nslO o1 s6.length = .nilsl from nslO_nil hn1]
     refine gDrop AWP_ref [(M1 + 3, some ⟨40, 5, [[.int .i64 v8.Op, .int .i64 v8.Dst, .int .i64 v8.A, .int .i64 v8.B, .int .i64 v8.N]]⟩)] (AHeap.Sub.trans (hp_skip (AHeap.Sub.refl _)) (hp_drop rfl (by simp; try omega))) ?_
     obtain ⟨l9, hl9, H⟩ := bindE H
     have q2 : ∀ σ i, buildSliceA T 24 true i 1 [(0, .int .i64 s4)] σ = some (.fsl (encL rI ([s4] : List Int)), σ) := fun _ _ => rfl
     refine AWP_sr tok [2] [1, 5, 6, 8, 20, 21, 22] (fun a σ => a = [(1, .int .i64 p1), (5, .sl (M1 + 8) 0 l9.length), (6, .int .i64 s4), (8, .ptr (M1 + 3) 0 0), (20, .fsl (encL rQuad p0)), (21, .int .i64 (ilen p0)), (22, .int .i64 s5)] ∧ σ = hp E0 [(M1 + 3, some ⟨40, 5, [[.int .i64 v8.Op, .int .i64 v8.Dst, .int .i64 v8.A, .int .i64 v8.B, .int .i64 v8.N]]⟩), (M1 + 8, some ⟨3, 1, encL rI l9⟩)] (M1 + 10)) (fun K hK => ?_) ?_
     ·
      skip
      simp -dsimp -implicitDefEqProofs (maxDischargeDepth := 6) [q2, appn24 (appx_nil hn1 hl9)]
      exact hK _ _ ⟨rfl, rfl⟩
     rintro a σ ⟨rfl, rfl⟩
     obtain ⟨r10, hr10, H⟩ := bindE H
     refine AWP_rt tok [] [1, 5, 6, 20, 21, 22] (fun a σ => a = [(1, .int .i64 p1), (5, .sl (M1 + 8) 0 l9.length), (6, .int .i64 (iadd .i64 s4 (ilen r10))), (20, .fsl (encL rQuad p0)), (21, .int .i64 (ilen p0)), (22, .int .i64 s5)] ∧ σ = hp E0 [(M1 + 3, some ⟨40, 5, [[.int .i64 v8.Op, .int .i64 v8.Dst, .int .i64 v8.A, .int .i64 v8.B, .int .i64 v8.N]]⟩), (M1 + 8, some ⟨3, 1, encL rI l9⟩)] (M1 + 17)) (fun K hK => ?_) ?_
     ·
      skip
      simp -dsimp -implicitDefEqProofs (maxDischargeDepth := 6)
      refine (c68 hr10).app ?_; try simp -dsimp -implicitDefEqProofs (maxDischargeDepth := 6)
      exact hK _ _ ⟨rfl, rfl⟩
     rintro a σ ⟨ha, rfl⟩
     refine hK5 _ _ ?_; rw [ha]
     refine Rc.mk ?_
     refine AWP_rt tok [] [1, 5, 6, 20, 21, 22] (fun a σ => a = [(1, .int .i64 p1), (5, .sl (M1 + 8) 0 l9.length), (6, .int .i64 (iadd .i64 s4 (ilen r10))), (20, .fsl (encL rQuad p0)), (21, .int .i64 (ilen p0)), (22, .int .i64 (iadd .i64 s5 1))] ∧ σ = hp E0 [(M1 + 3, some ⟨40, 5, [[.int .i64 v8.Op, .int .i64 v8.Dst, .int .i64 v8.A, .int .i64 v8.B, .int .i64 v8.N]]⟩), (M1 + 8, some ⟨3, 1, encL rI l9⟩)] (M1 + 19)) (fun K hK => ?_) ?_
     ·
      skip
      simp -dsimp -implicitDefEqProofs (maxDischargeDepth := 6)
      exact hK _ _ ⟨rfl, rfl⟩
     rintro a σ ⟨ha, rfl⟩
     replace H := Option.some.inj H; subst H
     refine hK3 _ _ _ rfl ?_; rw [ha]
     rw [show AV.sl (M1 + 8) 0 l9.length = nslO (M1 + 8) l9.length from (nslO_ne (appx_ne hl9)).symm]
     exact Rc.fin (AHeap.Sub.trans (hp_skip (AHeap.Sub.refl _)) (hp_drop rfl (by simp; try omega))) ⟨M1 + 19, (M1 + 8), (by omega), (by omega), (by omega), rfl, rfl⟩
    ·
     rw [show nslO o1 s6.length = .sl o1 0 s6.length from nslO_ne hn1]
     obtain ⟨l9, hl9, H⟩ := bindE H
     have q2 : ∀ σ i, buildSliceA T 24 true i 1 [(0, .int .i64 s4)] σ = some (.fsl (encL rI ([s4] : List Int)), σ) := fun _ _ => rfl
     refine AWP_sr tok [2] [1, 5, 6, 8, 20, 21, 22] (fun a σ => a = [(1, .int .i64 p1), (5, .sl (M1 + 8) 0 l9.length), (6, .int .i64 s4), (8, .ptr (M1 + 3) 0 0), (20, .fsl (encL rQuad p0)), (21, .int .i64 (ilen p0)), (22, .int .i64 s5)] ∧ σ = hp E0 [(M1 + 3, some ⟨40, 5, [[.int .i64 v8.Op, .int .i64 v8.Dst, .int .i64 v8.A, .int .i64 v8.B, .int .i64 v8.N]]⟩), (M1 + 8, some ⟨3, 1, encL rI l9⟩)] (M1 + 10)) (fun K hK => ?_) ?_
     ·
      skip
      have e0 := nq (a := o1) (b := M1 + 3) (by omega)
      have e1 := nq (a := o1) (b := M1 + 8) (by omega)
      simp -dsimp -implicitDefEqProofs (maxDischargeDepth := 6) [e0, e1, q2, app24 hl9]
      exact hK _ _ ⟨rfl, rfl⟩
     rintro a σ ⟨rfl, rfl⟩
     obtain ⟨r10, hr10, H⟩ := bindE H
     refine AWP_rt tok [] [1, 5, 6, 20, 21, 22] (fun a σ => a = [(1, .int .i64 p1), (5, .sl (M1 + 8) 0 l9.length), (6, .int .i64 (iadd .i64 s4 (ilen r10))), (20, .fsl (encL rQuad p0)), (21, .int .i64 (ilen p0)), (22, .int .i64 s5)] ∧ σ = hp E0 [(M1 + 3, some ⟨40, 5, [[.int .i64 v8.Op, .int .i64 v8.Dst, .int .i64 v8.A, .int .i64 v8.B, .int .i64 v8.N]]⟩), (M1 + 8, some ⟨3, 1, encL rI l9⟩)] (M1 + 17)) (fun K hK => ?_) ?_
     ·
      skip
      simp -dsimp -implicitDefEqProofs (maxDischargeDepth := 6)
      refine (c68 hr10).app ?_; try simp -dsimp -implicitDefEqProofs (maxDischargeDepth := 6)
      exact hK _ _ ⟨rfl, rfl⟩
     rintro a σ ⟨ha, rfl⟩
     refine hK5 _ _ ?_; rw [ha]
     refine Rc.mk ?_
     refine AWP_rt tok [] [1, 5, 6, 20, 21, 22] (fun a σ => a = [(1, .int .i64 p1), (5, .sl (M1 + 8) 0 l9.length), (6, .int .i64 (iadd .i64 s4 (ilen r10))), (20, .fsl (encL rQuad p0)), (21, .int .i64 (ilen p0)), (22, .int .i64 (iadd .i64 s5 1))] ∧ σ = hp E0 [(M1 + 3, some ⟨40, 5, [[.int .i64 v8.Op, .int .i64 v8.Dst, .int .i64 v8.A, .int .i64 v8.B, .int .i64 v8.N]]⟩), (M1 + 8, some ⟨3, 1, encL rI l9⟩)] (M1 + 19)) (fun K hK => ?_) ?_
     ·
      skip
      simp -dsimp -implicitDefEqProofs (maxDischargeDepth := 6)
      exact hK _ _ ⟨rfl, rfl⟩
     rintro a σ ⟨ha, rfl⟩
     replace H := Option.some.inj H; subst H
     refine hK3 _ _ _ rfl ?_; rw [ha]
     rw [show AV.sl (M1 + 8) 0 l9.length = nslO (M1 + 8) l9.length from (nslO_ne (appx_ne hl9)).symm]
     exact Rc.fin (AHeap.Sub.trans (hp_skip (AHeap.Sub.refl _)) (hp_drop rfl (by simp; try omega))) ⟨M1 + 19, (M1 + 8), (by omega), (by omega), (by omega), rfl, rfl⟩
   ·
    replace H := ifF C2 H
    replace H := Option.some.inj H; subst H
    refine AWP_exit (hO3 _ _ _ _ rfl ⟨rfl, ?_⟩)
    refine Rc.rw (l := [5]) (X := [(5, nslO o1 s6.length)]) rfl ?_
    exact Rc.fin (AHeap.Sub.refl _) ⟨M1 + 1, o1, (by omega), (by omega), (by omega), rfl, rfl⟩
  ·
   intro x a σ hx
   obtain ⟨y7, rfl⟩ : ∃ x, x = e1 := ⟨_, rfl⟩
   obtain ⟨rfl, b, τ, hr, M2, o2, fM2_0, fM2_1, fM2_2, rfl, rfl⟩ := hx
   dsimp only at H
   show K2 _ _
   refine hK2 _ _ (Rc_ref hr ?_)
   refine Rc.mk ?_
   refine AWP_sr tok [] [4] (fun a σ => a = [(4, nslO o2 y7.length)] ∧ σ = hp E0 [(o2, some ⟨3, 1, encL rI y7⟩)] (M2 + 2)) (fun K hK => ?_) ?_
   ·
    skip
    simp -dsimp -implicitDefEqProofs (maxDischargeDepth := 6)
    exact hK _ _ ⟨rfl, rfl⟩
   rintro a σ ⟨rfl, rfl⟩
   replace H := Option.some.inj H; subst H
   refine AWP_kp [4] [(4, nslO o2 y7.length)] rfl ?_
   refine AWP_ret ?_
   refine ⟨[nslO o2 y7.length], by simp, ?_⟩
   exact thaw_nslO (f := rI) (ty := 3) (sz := 1) (by simp) (by simp)
theorem c88 {p0 : gQuad} {r : Bool} (H : i_hasTarget p0 = some r) : APure Tryd.prog G 88 [.agg [.int .i64 p0.Op, .int .i64 p0.Dst, .int .i64 p0.A, .int .i64 p0.B, .int .i64 p0.N]] (.bool r) := by
 refine APure_fn (fun N0 => ?_) (by simp)
 refine ACalls_fn tok Tryd.func88 (by kernel_rfl) rfl Tryd.ntmps88 Tryd.results88 rfl ?_
 simp only [argsA, Nat.reduceAdd, hp_next]
 unfold i_hasTarget at H
 refine AWP_sr tok [0] [1] (fun a σ => a = [(1, .fptr [.int .i64 p0.Op, .int .i64 p0.Dst, .int .i64 p0.A, .int .i64 p0.B, .int .i64 p0.N] 0)] ∧ σ = hp E0 [] (N0 + 2)) (fun K hK => ?_) ?_
 ·
  skip
  simp -dsimp -implicitDefEqProofs (maxDischargeDepth := 6)
  exact hK _ _ ⟨rfl, rfl⟩
 rintro a σ ⟨rfl, rfl⟩
 obtain ⟨g1, hg1, H⟩ := bindE H
 refine AWP_sr tok [] [2] (fun a σ => a = [(2, .bool g1)] ∧ σ = hp E0 [] (N0 + 11)) (fun K hK => ?_) ?_
 ·
  skip
  simp -dsimp -implicitDefEqProofs (maxDischargeDepth := 6)
  cases hbg1 : ieq p0.Op 4
  ·
   replace hg1 := ifF hbg1 hg1
   replace hg1 := Option.some.inj hg1; subst hg1
   try simp -dsimp -implicitDefEqProofs (maxDischargeDepth := 6) [hbg1]
   exact hK _ _ ⟨rfl, rfl⟩
  ·
   replace hg1 := ifT hbg1 hg1
   replace hg1 := Option.some.inj hg1; subst hg1
   try simp -dsimp -implicitDefEqProofs (maxDischargeDepth := 6) [hbg1]
   exact hK _ _ ⟨rfl, rfl⟩
 rintro a σ ⟨rfl, rfl⟩
 replace H := Option.some.inj H; subst H
 refine AWP_kp [2] [(2, .bool g1)] rfl ?_
 refine AWP_ret ?_
 exact ⟨[.bool g1], by simp, 4, by simp [encL_nil]⟩
theorem c47 {p0 : (List gQuad)} {p1 : Int} {r : (List gInstr) × Bool} (H : i_TaskInstrs p0 p1 = some r) : APure Tryd.prog G 47 [.fsl (encL rQuad p0), .int .i64 p1] (.tup [.fsl (encL rInstr r.1), .bool r.2]) := by
 refine APure_fn (fun N0 => ?_) (by simp)
 refine ACalls_fn tok Tryd.func47 (by kernel_rfl) rfl Tryd.ntmps47 Tryd.results47 rfl ?_
 simp only [argsA, Nat.reduceAdd, hp_next]
 unfold i_TaskInstrs at H
 refine AWP_sr tok [] [0, 1] (fun a σ => a = [(0, .fsl (encL rQuad p0)), (1, .int .i64 p1)] ∧ σ = hp E0 [] (N0 + 2)) (fun K hK => ?_) ?_
 ·
  skip
  simp -dsimp -implicitDefEqProofs (maxDischargeDepth := 6)
  exact hK _ _ ⟨rfl, rfl⟩
 rintro a σ ⟨rfl, rfl⟩
 obtain ⟨r1, hr1, H⟩ := bindE H
 refine AWP_sr tok [] [0, 1, 6] (fun a σ => a = [(0, .fsl (encL rQuad p0)), (1, .int .i64 p1), (6, nslA (encL rI r1))] ∧ σ = hp E0 [] (N0 + 6)) (fun K hK => ?_) ?_
 ·
  skip
  simp -dsimp -implicitDefEqProofs (maxDischargeDepth := 6)
  refine (c38_n hr1).app ?_; try simp -dsimp -implicitDefEqProofs (maxDischargeDepth := 6)
  exact hK _ _ ⟨rfl, rfl⟩
 rintro a σ ⟨rfl, rfl⟩
 refine AWP_sq [0, 1, 6] fun K1 hK1 => ?_
 refine AWP_isnil2 tok [15, 0, 1, 6] ([(0, .fsl (encL rQuad p0)), (1, .int .i64 p1), (6, nslA (encL rI r1))]) rfl rfl (by decide) (by decide) (by decide) (fun _ => rfl) (fun n0 => ?_) (fun n0 => ?_)
 ·
  replace n0 : r1 = [] := encL_isnil n0
  replace H := ifT (e := List.isEmpty r1) (by rw [n0]; rfl) H
  rw [show nslA (encL rI r1) = .nilsl from by rw [n0]; rfl]
  refine AWP_cond true rfl (fun C1 => ?_) (fun C1 => ?_)
  ·
   refine AWP_sr tok [] [4, 5] (fun a σ => a = [(4, .nilsl), (5, .bool false)] ∧ σ = hp E0 [] (N0 + 8)) (fun K hK => ?_) ?_
   ·
    skip
    simp -dsimp -implicitDefEqProofs (maxDischargeDepth := 6)
    exact hK _ _ ⟨rfl, rfl⟩
   rintro a σ ⟨rfl, rfl⟩
   replace H := Option.some.inj H; subst H
   refine AWP_kp [4, 5] [(4, .nilsl), (5, .bool false)] rfl ?_
   refine AWP_ret ?_
   exact ⟨[.nilsl, .bool false], by simp, 4, by simp [encL_nil]⟩
  ·
   cases C1
 ·
  replace n0 : r1 ≠ [] := fun e => n0 (by rw [e]; rfl)
  replace H := ifF (e := List.isEmpty r1) (by simpa using n0) H
  rw [nslA_enc n0]
  refine AWP_cond false rfl (fun C2 => ?_) (fun C2 => ?_)
  ·
   cases C2
  ·
   refine AWP_skip ?_
   show K1 _ _
   refine keepE (l := [0, 1, 6]) (x := [(0, .fsl (encL rQuad p0)), (1, .int .i64 p1), (6, .fsl (encL rI r1))]) rfl fun a' ha => ?_
   refine hK1 _ _ ?_; rw [ha]
   refine Rc.mk ?_
   refine AWP_sr tok [] [0, 1, 6, 7] (fun a σ => a = [(0, .fsl (encL rQuad p0)), (1, .int .i64 p1), (6, .fsl (encL rI r1)), (7, .nilsl)] ∧ σ = hp E0 [] (N0 + 7)) (fun K hK => ?_) ?_
   ·
    skip
    simp -dsimp -implicitDefEqProofs (maxDischargeDepth := 6)
    exact hK _ _ ⟨rfl, rfl⟩
   rintro a σ ⟨rfl, rfl⟩
   refine AWP_sq [7] fun K2 hK2 => ?_
   refine AWP_sr tok [] [1, 6, 7, 16, 17, 18] (fun a σ => a = [(1, .int .i64 p1), (6, .fsl (encL rI r1)), (7, .nilsl), (16, .fsl (encL rQuad p0)), (17, .int .i64 (ilen p0)), (18, .int .i64 0)] ∧ σ = hp E0 [] (N0 + 10)) (fun K hK => ?_) ?_
   ·
    skip
    simp -dsimp -implicitDefEqProofs (maxDischargeDepth := 6)
    exact hK _ _ ⟨rfl, rfl⟩
   rintro a σ ⟨rfl, rfl⟩
   refine AWP_block (AWP_thenB ?_)
   obtain ⟨e2, hse2, H⟩ := bindE H
   refine AWP_lp [1, 6, 7, 16, 17, 18] (fun s a σ => ∃ M1 o1 : Nat, N0 ≤ M1 ∧ N0 ≤ o1 ∧ o1 < M1 ∧ a = [(1, .int .i64 p1), (6, .fsl (encL rI r1)), (7, .sl o1 0 s.2.length), (16, .fsl (encL rQuad p0)), (17, .int .i64 (ilen p0)), (18, .int .i64 s.1)] ∧ σ = hp E0 [(o1, some ⟨47, 5, encL rInstr s.2⟩)] M1) (fun s x a σ => x = .exit 0 ∧ Rc G 44 N0 (fun a σ => ∃ M2 o2 : Nat, N0 ≤ M2 ∧ N0 ≤ o2 ∧ o2 < M2 ∧ a = [(7, .sl o2 0 s.length)] ∧ σ = hp E0 [(o2, some ⟨47, 5, encL rInstr s⟩)] M2) (AAct.keep a [7]) σ) hse2 ?_ ?_ ?_
   ·
    refine Rc.kp [1, 6, 7, 16, 17, 18] [(1, .int .i64 p1), (6, .fsl (encL rI r1)), (7, .nilsl), (16, .fsl (encL rQuad p0)), (17, .int .i64 (ilen p0)), (18, .int .i64 0)] rfl ?_
    refine gNilS Rc_ref 7 47 5 [(N0 + 10, some ⟨47, 5, encL rInstr ([] : List gInstr)⟩)] [(1, .int .i64 p1), (6, .fsl (encL rI r1)), (7, .sl (N0 + 10) 0 ([] : List gInstr).length), (16, .fsl (encL rQuad p0)), (17, .int .i64 (ilen p0)), (18, .int .i64 0)] (by simp (disch := omega)) (by simp (disch := omega) [encL_nil]) [1, 6, 7, 16, 17, 18] rfl ?_
    exact Rc.fin (AHeap.Sub.refl _) ⟨N0 + 11, (N0 + 10), (by omega), (by omega), (by omega), rfl, rfl⟩
   ·
    clear H hse2
    rintro ⟨s2, s3⟩ fl a σ H ⟨M1, o1, fM1_0, fM1_1, fM1_2, rfl, rfl⟩ K3 O3 hK3 hO3
    unfold i_TaskInstrs_L1 at H; dsimp only at H
    refine AWP_sr tok [] [1, 6, 7, 16, 17, 18, 19] (fun a σ => a = [(1, .int .i64 p1), (6, .fsl (encL rI r1)), (7, .sl o1 0 s3.length), (16, .fsl (encL rQuad p0)), (17, .int .i64 (ilen p0)), (18, .int .i64 s2), (19, .bool (ilt s2 (ilen p0)))] ∧ σ = hp E0 [(o1, some ⟨47, 5, encL rInstr s3⟩)] (M1 + 1)) (fun K hK => ?_) ?_
    ·
     skip
     simp -dsimp -implicitDefEqProofs (maxDischargeDepth := 6)
     exact hK _ _ ⟨rfl, rfl⟩
    rintro a σ ⟨rfl, rfl⟩
    refine AWP_sq [1, 6, 7, 16, 17, 18] fun K4 hK4 => ?_
    refine AWP_cond (ilt s2 (ilen p0)) rfl (fun C3 => ?_) (fun C3 => ?_)
    ·
     replace H := ifT C3 H
     refine AWP_skip ?_
     show K4 _ _
     refine keepE (l := [1, 6, 7, 16, 17, 18]) (x := [(1, .int .i64 p1), (6, .fsl (encL rI r1)), (7, .sl o1 0 s3.length), (16, .fsl (encL rQuad p0)), (17, .int .i64 (ilen p0)), (18, .int .i64 s2)]) rfl fun a' ha => ?_
     refine hK4 _ _ ?_; rw [ha]
     refine Rc.mk ?_
     refine AWP_sq [1, 6, 7, 16, 17, 18] fun K5 hK5 => ?_
     refine AWP_block (AWP_thenB ?_)
     obtain ⟨v5, hv5, H⟩ := bindE H
     refine AWP_sr tok [] [1, 6, 7, 8, 9, 16, 17, 18] (fun a σ => a = [(1, .int .i64 p1), (6, .fsl (encL rI r1)), (7, .sl o1 0 s3.length), (8, .int .i64 s2), (9, .ptr (M1 + 4) 0 0), (16, .fsl (encL rQuad p0)), (17, .int .i64 (ilen p0)), (18, .int .i64 s2)] ∧ σ = hp E0 [(o1, some ⟨47, 5, encL rInstr s3⟩), (M1 + 4, some ⟨40, 5, [[.int .i64 v5.Op, .int .i64 v5.Dst, .int .i64 v5.A, .int .i64 v5.B, .int .i64 v5.N]]⟩)] (M1 + 7)) (fun K hK => ?_) ?_
     ·
      skip
      have e0 := nq (a := o1) (b := M1 + 4) (by omega)
      simp -dsimp -implicitDefEqProofs (maxDischargeDepth := 6) [e0, ix59 hv5]
      exact hK _ _ ⟨rfl, rfl⟩
     rintro a σ ⟨rfl, rfl⟩
     refine AWP_sr tok [] [1, 6, 7, 8, 9, 10, 16, 17, 18] (fun a σ => a = [(1, .int .i64 p1), (6, .fsl (encL rI r1)), (7, .sl o1 0 s3.length), (8, .int .i64 s2), (9, .ptr (M1 + 4) 0 0), (10, .int .i64 0), (16, .fsl (encL rQuad p0)), (17, .int .i64 (ilen p0)), (18, .int .i64 s2)] ∧ σ = hp E0 [(o1, some ⟨47, 5, encL rInstr s3⟩), (M1 + 4, some ⟨40, 5, [[.int .i64 v5.Op, .int .i64 v5.Dst, .int .i64 v5.A, .int .i64 v5.B, .int .i64 v5.N]]⟩)] (M1 + 8)) (fun K hK => ?_) ?_
     ·
      skip
      have e0 := nq (a := o1) (b := M1 + 4) (by omega)
      simp -dsimp -implicitDefEqProofs (maxDischargeDepth := 6) [e0]
      exact hK _ _ ⟨rfl, rfl⟩
     rintro a σ ⟨rfl, rfl⟩
     obtain ⟨j1, hj1, H⟩ := bindE H
     refine AWP_seq (AWP_named fun K6 hK6 => ?_)
     have hJ1 : ∀ a σ, Rc G 44 N0 (fun a σ => ∃ M3 : Nat, N0 ≤ M3 ∧ o1 < M3 ∧ M1 + 4 < M3 ∧ a = [(1, .int .i64 p1), (6, .fsl (encL rI r1)), (7, .sl o1 0 s3.length), (9, .ptr (M1 + 4) 0 0), (10, .int .i64 j1), (16, .fsl (encL rQuad p0)), (17, .int .i64 (ilen p0)), (18, .int .i64 s2)] ∧ σ = hp E0 [(o1, some ⟨47, 5, encL rInstr s3⟩), (M1 + 4, some ⟨40, 5, [[.int .i64 v5.Op, .int .i64 v5.Dst, .int .i64 v5.A, .int .i64 v5.B, .int .i64 v5.N]]⟩)] M3) (a.keep [1, 6, 7, 9, 10, 16, 17, 18]) σ → K6 a σ := by
      rintro a σ ⟨b, τ, hr, M3, fM3_0, fM3_1, fM3_2, rfl, rfl⟩
      refine hK6 _ _ (AWP_keep [1, 6, 7, 9, 10, 16, 17, 18] (AWP_ref hr ?_))
      obtain ⟨r7, hr7, H⟩ := bindE H
      obtain ⟨l8, hl8, H⟩ := bindE H
      refine AWP_rt tok [] [1, 6, 7, 16, 17, 18] (fun a σ => a = [(1, .int .i64 p1), (6, .fsl (encL rI r1)), (7, .sl (M3 + 5) 0 l8.length), (16, .fsl (encL rQuad p0)), (17, .int .i64 (ilen p0)), (18, .int .i64 s2)] ∧ σ = hp E0 [(M1 + 4, some ⟨40, 5, [[.int .i64 v5.Op, .int .i64 v5.Dst, .int .i64 v5.A, .int .i64 v5.B, .int .i64 v5.N]]⟩), (M3 + 5, some ⟨47, 5, encL rInstr l8⟩)] (M3 + 7)) (fun K hK => ?_) ?_
      ·
       skip
       have e0 := nq (a := o1) (b := M1 + 4) (by omega)
       have e1 := nq (a := o1) (b := M3 + 5) (by omega)
       have e2 := nq (a := M1 + 4) (b := M3 + 5) (by omega)
       have e3 := nq (a := M1) (b := M3 + 1) (by omega)
       simp -dsimp -implicitDefEqProofs (maxDischargeDepth := 6) [e0, e1, e2, e3, app29 hl8]
       refine (c68 hr7).app ?_; try simp -dsimp -implicitDefEqProofs (maxDischargeDepth := 6) [e0, e1, e2, e3, app29 hl8]
       exact hK _ _ ⟨rfl, rfl⟩
      rintro a σ ⟨ha, rfl⟩
      refine hK5 _ _ ?_; rw [ha]
      refine Rc.mk ?_
      refine AWP_rt tok [] [1, 6, 7, 16, 17, 18] (fun a σ => a = [(1, .int .i64 p1), (6, .fsl (encL rI r1)), (7, .sl (M3 + 5) 0 l8.length), (16, .fsl (encL rQuad p0)), (17, .int .i64 (ilen p0)), (18, .int .i64 (iadd .i64 s2 1))] ∧ σ = hp E0 [(M1 + 4, some ⟨40, 5, [[.int .i64 v5.Op, .int .i64 v5.Dst, .int .i64 v5.A, .int .i64 v5.B, .int .i64 v5.N]]⟩), (M3 + 5, some ⟨47, 5, encL rInstr l8⟩)] (M3 + 9)) (fun K hK => ?_) ?_
      ·
       skip
       have e0 := nq (a := M1 + 4) (b := M3 + 5) (by omega)
       have e1 := nq (a := M1) (b := M3 + 1) (by omega)
       simp -dsimp -implicitDefEqProofs (maxDischargeDepth := 6) [e0, e1]
       exact hK _ _ ⟨rfl, rfl⟩
      rintro a σ ⟨ha, rfl⟩
      replace H := Option.some.inj H; subst H
      refine hK3 _ _ _ rfl ?_; rw [ha]
      exact Rc.fin (AHeap.Sub.trans (hp_skip (AHeap.Sub.refl _)) (hp_drop rfl (by simp; try omega))) ⟨M3 + 9, (M3 + 5), (by omega), (by omega), (by omega), rfl, rfl⟩
     replace H := hj1
     obtain ⟨r9, hr9, H⟩ := bindE H
     refine AWP_sr tok [] [1, 6, 7, 8, 9, 10, 16, 17, 18, 24] (fun a σ => a = [(1, .int .i64 p1), (6, .fsl (encL rI r1)), (7, .sl o1 0 s3.length), (8, .int .i64 s2), (9, .ptr (M1 + 4) 0 0), (10, .int .i64 0), (16, .fsl (encL rQuad p0)), (17, .int .i64 (ilen p0)), (18, .int .i64 s2), (24, .bool r9)] ∧ σ = hp E0 [(o1, some ⟨47, 5, encL rInstr s3⟩), (M1 + 4, some ⟨40, 5, [[.int .i64 v5.Op, .int .i64 v5.Dst, .int .i64 v5.A, .int .i64 v5.B, .int .i64 v5.N]]⟩)] (M1 + 10)) (fun K hK => ?_) ?_
     ·
      skip
      have e0 := nq (a := o1) (b := M1 + 4) (by omega)
      simp -dsimp -implicitDefEqProofs (maxDischargeDepth := 6) [e0]
      refine (c88 hr9).app ?_; try simp -dsimp -implicitDefEqProofs (maxDischargeDepth := 6) [e0]
      exact hK _ _ ⟨rfl, rfl⟩
     rintro a σ ⟨rfl, rfl⟩
     refine AWP_cond r9 rfl (fun C4 => ?_) (fun C4 => ?_)
     ·
      replace H := ifT C4 H
      obtain ⟨v10, hv10, H⟩ := bindE H
      obtain ⟨v11, hv11, H⟩ := bindE H
      refine AWP_rd tok tokM [] [2] [0, 1, 5, 6, 7, 8, 2, 3, 4, 9, 10, 11] [1, 6, 7, 9, 10, 16, 17, 18] (fun a σ => a = [(1, .int .i64 p1), (6, .fsl (encL rI r1)), (7, .sl o1 0 s3.length), (9, .ptr (M1 + 4) 0 0), (10, .int .i64 (imul .i64 4 (isub .i64 v11 v10))), (16, .fsl (encL rQuad p0)), (17, .int .i64 (ilen p0)), (18, .int .i64 s2)] ∧ σ = hp E0 [(o1, some ⟨47, 5, encL rInstr s3⟩), (M1 + 4, some ⟨40, 5, [[.int .i64 v5.Op, .int .i64 v5.Dst, .int .i64 v5.A, .int .i64 v5.B, .int .i64 v5.N]]⟩)] (M1 + 22)) (by decide) (fun K hK => ?_) ?_
      ·
       simp only [pickL, nthO_succ, nthO_zero]
       have e0 := nq (a := o1) (b := M1 + 4) (by omega)
       simp -dsimp -implicitDefEqProofs (maxDischargeDepth := 6) [e0, ix24 hv10, ix24 hv11]
       exact hK _ _ ⟨rfl, rfl⟩
      rintro a σ ⟨ha, rfl⟩
      replace H := Option.some.inj H; subst H
      refine hJ1 _ _ ?_; rw [ha]
      exact Rc.fin (AHeap.Sub.refl _) ⟨M1 + 22, (by omega), (by omega), (by omega), rfl, rfl⟩
     ·
      replace H := ifF C4 H
      refine AWP_skip ?_
      show K6 _ _
      refine keepE (l := [1, 6, 7, 9, 10, 16, 17, 18]) (x := [(1, .int .i64 p1), (6, .fsl (encL rI r1)), (7, .sl o1 0 s3.length), (9, .ptr (M1 + 4) 0 0), (10, .int .i64 0), (16, .fsl (encL rQuad p0)), (17, .int .i64 (ilen p0)), (18, .int .i64 s2)]) rfl fun a' ha => ?_
      replace H := Option.some.inj H; subst H
      refine hJ1 _ _ ?_; rw [ha]
      exact Rc.fin (AHeap.Sub.refl _) ⟨M1 + 10, (by omega), (by omega), (by omega), rfl, rfl⟩
    ·
     replace H := ifF C3 H
     replace H := Option.some.inj H; subst H
     refine AWP_exit (hO3 _ _ _ _ rfl ⟨rfl, ?_⟩)
     refine Rc.rw (l := [7]) (X := [(7, .sl o1 0 s3.length)]) rfl ?_
     exact Rc.fin (AHeap.Sub.refl _) ⟨M1 + 1, o1, (by omega), (by omega), (by omega), rfl, rfl⟩
   ·
    intro x a σ hx
    obtain ⟨y4, rfl⟩ : ∃ x, x = e2 := ⟨_, rfl⟩
    obtain ⟨rfl, b, τ, hr, M2, o2, fM2_0, fM2_1, fM2_2, rfl, rfl⟩ := hx
    dsimp only at H
    show K2 _ _
    refine hK2 _ _ (Rc_ref hr ?_)
    refine Rc.mk ?_
    refine AWP_sr tok [] [4, 5] (fun a σ => a = [(4, .sl o2 0 y4.length), (5, .bool true)] ∧ σ = hp E0 [(o2, some ⟨47, 5, encL rInstr y4⟩)] (M2 + 3)) (fun K hK => ?_) ?_
    ·
     skip
     simp -dsimp -implicitDefEqProofs (maxDischargeDepth := 6)
     exact hK _ _ ⟨rfl, rfl⟩
    rintro a σ ⟨rfl, rfl⟩
    replace H := Option.some.inj H; subst H
    refine AWP_kp [4, 5] [(4, .sl o2 0 y4.length), (5, .bool true)] rfl ?_
    refine AWP_ret ?_
    exact ⟨[.sl o2 0 y4.length, .bool true], by simp, 4, by simp [encL_nil]⟩
theorem c47_o {p0 : (List gQuad)} {p1 : Int} {r : (List gInstr) × Bool} (H : i_TaskInstrs_o p0 p1 = some r) {σ : AHeap} : ACalls Tryd.prog G 47 [.fsl (encL rQuad p0), .int .i64 p1] σ (fun v σ' => ∃ M n0 : Nat, σ.next ≤ M ∧ σ.next ≤ n0 ∧ n0 < M ∧ v = .tup [.sl n0 0 r.1.length, .bool r.2] ∧ σ' = hp σ.objs [(n0, some ⟨47, 5, encL rInstr r.1⟩)] M) := by
 refine ACalls_fr (L := []) (Q1 := fun v σ' => ∃ M n0 : Nat, σ.next ≤ M ∧ σ.next ≤ n0 ∧ n0 < M ∧ v = .tup [.sl n0 0 r.1.length, .bool r.2] ∧ σ' = hp E0 [(n0, some ⟨47, 5, encL rInstr r.1⟩)] M) (by simp []) (fun hlt => ?_) ?_ ⟨_, Tryd.func47, rfl, rfl⟩
 rotate_left
 ·
  rintro v σ1 ⟨M, n0, h0, h1, h2, rfl, rfl⟩
  exact ⟨_, M, rfl, by simp, by simp; try omega, M, n0, h0, h1, h2, rfl, rfl⟩
 generalize σ.next = N0 at hlt ⊢
 refine ACalls_fn tok Tryd.func47 (by kernel_rfl) rfl Tryd.ntmps47 Tryd.results47 rfl ?_
 simp only [argsA, Nat.reduceAdd, hp_next]
 unfold i_TaskInstrs_o at H
 refine AWP_sr tok [] [0, 1] (fun a σ => a = [(0, .fsl (encL rQuad p0)), (1, .int .i64 p1)] ∧ σ = hp E0 [] (N0 + 2)) (fun K hK => ?_) ?_
 ·
  skip
  simp -dsimp -implicitDefEqProofs (maxDischargeDepth := 6)
  exact hK _ _ ⟨rfl, rfl⟩
 rintro a σ ⟨rfl, rfl⟩
 obtain ⟨r1, hr1, H⟩ := bindE H
 refine AWP_sr tok [] [0, 1, 6] (fun a σ => a = [(0, .fsl (encL rQuad p0)), (1, .int .i64 p1), (6, nslA (encL rI r1))] ∧ σ = hp E0 [] (N0 + 6)) (fun K hK => ?_) ?_
 ·
  skip
  simp -dsimp -implicitDefEqProofs (maxDischargeDepth := 6)
  refine (c38_n hr1).app ?_; try simp -dsimp -implicitDefEqProofs (maxDischargeDepth := 6)
  exact hK _ _ ⟨rfl, rfl⟩
 rintro a σ ⟨rfl, rfl⟩
 refine AWP_sq [0, 1, 6] fun K1 hK1 => ?_
 refine AWP_isnil2 tok [15, 0, 1, 6] ([(0, .fsl (encL rQuad p0)), (1, .int .i64 p1), (6, nslA (encL rI r1))]) rfl rfl (by decide) (by decide) (by decide) (fun _ => rfl) (fun n0 => ?_) (fun n0 => ?_)
 ·
  replace n0 : r1 = [] := encL_isnil n0
  replace H := ifT (e := List.isEmpty r1) (by rw [n0]; rfl) H
  rw [show nslA (encL rI r1) = .nilsl from by rw [n0]; rfl]
  refine AWP_cond true rfl (fun C1 => ?_) (fun C1 => ?_)
  ·
   refine AWP_sr tok [] [4, 5] (fun a σ => a = [(4, .nilsl), (5, .bool false)] ∧ σ = hp E0 [] (N0 + 8)) (fun K hK => ?_) ?_
   ·
    skip
    simp -dsimp -implicitDefEqProofs (maxDischargeDepth := 6)
    exact hK _ _ ⟨rfl, rfl⟩
   rintro a σ ⟨rfl, rfl⟩
   replace H := Option.some.inj H; subst H
   refine AWP_kp [4, 5] [(4, .nilsl), (5, .bool false)] rfl ?_
   refine gNilS AWP_ref 4 47 5 [(N0 + 8, some ⟨47, 5, encL rInstr ([] : List gInstr)⟩)] [(4, .sl (N0 + 8) 0 ([] : List gInstr).length), (5, .bool false)] (by simp (disch := omega)) (by simp (disch := omega) [encL_nil]) [4, 5] rfl ?_
   refine AWP_ret ?_
   refine ⟨[.sl (N0 + 8) 0 ([] : List gInstr).length, .bool false], by simp, N0 + 9, N0 + 8, by omega, by omega, by omega, ?_, ?_⟩
   ·
    simp [encL_nil]
   ·
    first | rfl | simp [List.set_set]
  ·
   cases C1
 ·
  replace n0 : r1 ≠ [] := fun e => n0 (by rw [e]; rfl)
  replace H := ifF (e := List.isEmpty r1) (by simpa using n0) H
  rw [nslA_enc n0]
  refine AWP_cond false rfl (fun C2 => ?_) (fun C2 => ?_)
  ·
   cases C2
  ·
   refine AWP_skip ?_
   show K1 _ _
   refine keepE (l := [0, 1, 6]) (x := [(0, .fsl (encL rQuad p0)), (1, .int .i64 p1), (6, .fsl (encL rI r1))]) rfl fun a' ha => ?_
   refine hK1 _ _ ?_; rw [ha]
   refine Rc.mk ?_
   refine AWP_sr tok [] [0, 1, 6, 7] (fun a σ => a = [(0, .fsl (encL rQuad p0)), (1, .int .i64 p1), (6, .fsl (encL rI r1)), (7, .nilsl)] ∧ σ = hp E0 [] (N0 + 7)) (fun K hK => ?_) ?_
   ·
    skip
    simp -dsimp -implicitDefEqProofs (maxDischargeDepth := 6)
    exact hK _ _ ⟨rfl, rfl⟩
   rintro a σ ⟨rfl, rfl⟩
   refine AWP_sq [7] fun K2 hK2 => ?_
   refine AWP_sr tok [] [1, 6, 7, 16, 17, 18] (fun a σ => a = [(1, .int .i64 p1), (6, .fsl (encL rI r1)), (7, .nilsl), (16, .fsl (encL rQuad p0)), (17, .int .i64 (ilen p0)), (18, .int .i64 0)] ∧ σ = hp E0 [] (N0 + 10)) (fun K hK => ?_) ?_
   ·
    skip
    simp -dsimp -implicitDefEqProofs (maxDischargeDepth := 6)
    exact hK _ _ ⟨rfl, rfl⟩
   rintro a σ ⟨rfl, rfl⟩
   refine AWP_block (AWP_thenB ?_)
   obtain ⟨e2, hse2, H⟩ := bindE H
   refine AWP_lp [1, 6, 7, 16, 17, 18] (fun s a σ => ∃ M1 o1 : Nat, N0 ≤ M1 ∧ N0 ≤ o1 ∧ o1 < M1 ∧ a = [(1, .int .i64 p1), (6, .fsl (encL rI r1)), (7, .sl o1 0 s.2.length), (16, .fsl (encL rQuad p0)), (17, .int .i64 (ilen p0)), (18, .int .i64 s.1)] ∧ σ = hp E0 [(o1, some ⟨47, 5, encL rInstr s.2⟩)] M1) (fun s x a σ => x = .exit 0 ∧ Rc G 44 N0 (fun a σ => ∃ M2 o2 : Nat, N0 ≤ M2 ∧ N0 ≤ o2 ∧ o2 < M2 ∧ a = [(7, .sl o2 0 s.length)] ∧ σ = hp E0 [(o2, some ⟨47, 5, encL rInstr s⟩)] M2) (AAct.keep a [7]) σ) hse2 ?_ ?_ ?_
   ·
    refine Rc.kp [1, 6, 7, 16, 17, 18] [(1, .int .i64 p1), (6, .fsl (encL rI r1)), (7, .nilsl), (16, .fsl (encL rQuad p0)), (17, .int .i64 (ilen p0)), (18, .int .i64 0)] rfl ?_
    refine gNilS Rc_ref 7 47 5 [(N0 + 10, some ⟨47, 5, encL rInstr ([] : List gInstr)⟩)] [(1, .int .i64 p1), (6, .fsl (encL rI r1)), (7, .sl (N0 + 10) 0 ([] : List gInstr).length), (16, .fsl (encL rQuad p0)), (17, .int .i64 (ilen p0)), (18, .int .i64 0)] (by simp (disch := omega)) (by simp (disch := omega) [encL_nil]) [1, 6, 7, 16, 17, 18] rfl ?_
    exact Rc.fin (AHeap.Sub.refl _) ⟨N0 + 11, (N0 + 10), (by omega), (by omega), (by omega), rfl, rfl⟩
   ·
    clear H hse2
    rintro ⟨s2, s3⟩ fl a σ H ⟨M1, o1, fM1_0, fM1_1, fM1_2, rfl, rfl⟩ K3 O3 hK3 hO3
    unfold i_TaskInstrs_o_L1 at H; dsimp only at H
    refine AWP_sr tok [] [1, 6, 7, 16, 17, 18, 19] (fun a σ => a = [(1, .int .i64 p1), (6, .fsl (encL rI r1)), (7, .sl o1 0 s3.length), (16, .fsl (encL rQuad p0)), (17, .int .i64 (ilen p0)), (18, .int .i64 s2), (19, .bool (ilt s2 (ilen p0)))] ∧ σ = hp E0 [(o1, some ⟨47, 5, encL rInstr s3⟩)] (M1 + 1)) (fun K hK => ?_) ?_
    ·
     skip
     simp -dsimp -implicitDefEqProofs (maxDischargeDepth := 6)
     exact hK _ _ ⟨rfl, rfl⟩
    rintro a σ ⟨rfl, rfl⟩
    refine AWP_sq [1, 6, 7, 16, 17, 18] fun K4 hK4 => ?_
    refine AWP_cond (ilt s2 (ilen p0)) rfl (fun C3 => ?_) (fun C3 => ?_)
    ·
     replace H := ifT C3 H
     refine AWP_skip ?_
     show K4 _ _
     refine keepE (l := [1, 6, 7, 16, 17, 18]) (x := [(1, .int .i64 p1), (6, .fsl (encL rI r1)), (7, .sl o1 0 s3.length), (16, .fsl (encL rQuad p0)), (17, .int .i64 (ilen p0)), (18, .int .i64 s2)]) rfl fun a' ha => ?_
     refine hK4 _ _ ?_; rw [ha]
     refine Rc.mk ?_
     refine AWP_sq [1, 6, 7, 16, 17, 18] fun K5 hK5 => ?_
     refine AWP_block (AWP_thenB ?_)
     obtain ⟨v5, hv5, H⟩ := bindE H
     refine AWP_sr tok [] [1, 6, 7, 8, 9, 16, 17, 18] (fun a σ => a = [(1, .int .i64 p1), (6, .fsl (encL rI r1)), (7, .sl o1 0 s3.length), (8, .int .i64 s2), (9, .ptr (M1 + 4) 0 0), (16, .fsl (encL rQuad p0)), (17, .int .i64 (ilen p0)), (18, .int .i64 s2)] ∧ σ = hp E0 [(o1, some ⟨47, 5, encL rInstr s3⟩), (M1 + 4, some ⟨40, 5, [[.int .i64 v5.Op, .int .i64 v5.Dst, .int .i64 v5.A, .int .i64 v5.B, .int .i64 v5.N]]⟩)] (M1 + 7)) (fun K hK => ?_) ?_
     ·
      skip
      have e0 := nq (a := o1) (b := M1 + 4) (by omega)
      simp -dsimp -implicitDefEqProofs (maxDischargeDepth := 6) [e0, ix59 hv5]
      exact hK _ _ ⟨rfl, rfl⟩
     rintro a σ ⟨rfl, rfl⟩
     refine AWP_sr tok [] [1, 6, 7, 8, 9, 10, 16, 17, 18] (fun a σ => a = [(1, .int .i64 p1), (6, .fsl (encL rI r1)), (7, .sl o1 0 s3.length), (8, .int .i64 s2), (9, .ptr (M1 + 4) 0 0), (10, .int .i64 0), (16, .fsl (encL rQuad p0)), (17, .int .i64 (ilen p0)), (18, .int .i64 s2)] ∧ σ = hp E0 [(o1, some ⟨47, 5, encL rInstr s3⟩), (M1 + 4, some ⟨40, 5, [[.int .i64 v5.Op, .int .i64 v5.Dst, .int .i64 v5.A, .int .i64 v5.B, .int .i64 v5.N]]⟩)] (M1 + 8)) (fun K hK => ?_) ?_
     ·
      skip
      have e0 := nq (a := o1) (b := M1 + 4) (by omega)
      simp -dsimp -implicitDefEqProofs (maxDischargeDepth := 6) [e0]
      exact hK _ _ ⟨rfl, rfl⟩
     rintro a σ ⟨rfl, rfl⟩
     obtain ⟨j1, hj1, H⟩ := bindE H
     refine AWP_seq (AWP_named fun K6 hK6 => ?_)
     have hJ1 : ∀ a σ, Rc G 44 N0 (fun a σ => ∃ M3 : Nat, N0 ≤ M3 ∧ o1 < M3 ∧ M1 + 4 < M3 ∧ a = [(1, .int .i64 p1), (6, .fsl (encL rI r1)), (7, .sl o1 0 s3.length), (9, .ptr (M1 + 4) 0 0), (10, .int .i64 j1), (16, .fsl (encL rQuad p0)), (17, .int .i64 (ilen p0)), (18, .int .i64 s2)] ∧ σ = hp E0 [(o1, some ⟨47, 5, encL rInstr s3⟩), (M1 + 4, some ⟨40, 5, [[.int .i64 v5.Op, .int .i64 v5.Dst, .int .i64 v5.A, .int .i64 v5.B, .int .i64 v5.N]]⟩)] M3) (a.keep [1, 6, 7, 9, 10, 16, 17, 18]) σ → K6 a σ := by
      rintro a σ ⟨b, τ, hr, M3, fM3_0, fM3_1, fM3_2, rfl, rfl⟩
      refine hK6 _ _ (AWP_keep [1, 6, 7, 9, 10, 16, 17, 18] (AWP_ref hr ?_))
      obtain ⟨r7, hr7, H⟩ := bindE H
      obtain ⟨l8, hl8, H⟩ := bindE H
      refine AWP_rt tok [] [1, 6, 7, 16, 17, 18] (fun a σ => a = [(1, .int .i64 p1), (6, .fsl (encL rI r1)), (7, .sl (M3 + 5) 0 l8.length), (16, .fsl (encL rQuad p0)), (17, .int .i64 (ilen p0)), (18, .int .i64 s2)] ∧ σ = hp E0 [(M1 + 4, some ⟨40, 5, [[.int .i64 v5.Op, .int .i64 v5.Dst, .int .i64 v5.A, .int .i64 v5.B, .int .i64 v5.N]]⟩), (M3 + 5, some ⟨47, 5, encL rInstr l8⟩)] (M3 + 7)) (fun K hK => ?_) ?_
      ·
       skip
       have e0 := nq (a := o1) (b := M1 + 4) (by omega)
       have e1 := nq (a := o1) (b := M3 + 5) (by omega)
       have e2 := nq (a := M1 + 4) (b := M3 + 5) (by omega)
       have e3 := nq (a := M1) (b := M3 + 1) (by omega)
       simp -dsimp -implicitDefEqProofs (maxDischargeDepth := 6) [e0, e1, e2, e3, app29 hl8]
       refine (c68 hr7).app ?_; try simp -dsimp -implicitDefEqProofs (maxDischargeDepth := 6) [e0, e1, e2, e3, app29 hl8]
       exact hK _ _ ⟨rfl, rfl⟩
      rintro a σ ⟨ha, rfl⟩
      refine hK5 _ _ ?_; rw [ha]
      refine Rc.mk ?_
      refine AWP_rt tok [] [1, 6, 7, 16, 17, 18] (fun a σ => a = [(1, .int .i64 p1), (6, .fsl (encL rI r1)), (7, .sl (M3 + 5) 0 l8.length), (16, .fsl (encL rQuad p0)), (17, .int .i64 (ilen p0)), (18, .int .i64 (iadd .i64 s2 1))] ∧ σ = hp E0 [(M1 + 4, some ⟨40, 5, [[.int .i64 v5.Op, .int .i64 v5.Dst, .int .i64 v5.A, .int .i64 v5.B, .int .i64 v5.N]]⟩), (M3 + 5, some ⟨47, 5, encL rInstr l8⟩)] (M3 + 9)) (fun K hK => ?_) ?_
      ·
       skip
       have e0 := nq (a := M1 + 4) (b := M3 + 5) (by omega)
       have e1 := nq (a := M1) (b := M3 + 1) (by omega)
       simp -dsimp -implicitDefEqProofs (maxDischargeDepth := 6) [e0, e1]
       exact hK _ _ ⟨rfl, rfl⟩
      rintro a σ ⟨ha, rfl⟩
      replace H := Option.some.inj H; subst H
      refine hK3 _ _ _ rfl ?_; rw [ha]
      exact Rc.fin (AHeap.Sub.trans (hp_skip (AHeap.Sub.refl _)) (hp_drop rfl (by simp; try omega))) ⟨M3 + 9, (M3 + 5), (by omega), (by omega), (by omega), rfl, rfl⟩
     replace H := hj1
     obtain ⟨r9, hr9, H⟩ := bindE H
     refine AWP_sr tok [] [1, 6, 7, 8, 9, 10, 16, 17, 18, 24] (fun a σ => a = [(1, .int .i64 p1), (6, .fsl (encL rI r1)), (7, .sl o1 0 s3.length), (8, .int .i64 s2), (9, .ptr (M1 + 4) 0 0), (10, .int .i64 0), (16, .fsl (encL rQuad p0)), (17, .int .i64 (ilen p0)), (18, .int .i64 s2), (24, .bool r9)] ∧ σ = hp E0 [(o1, some ⟨47, 5, encL rInstr s3⟩), (M1 + 4, some ⟨40, 5, [[.int .i64 v5.Op, .int .i64 v5.Dst, .int .i64 v5.A, .int .i64 v5.B, .int .i64 v5.N]]⟩)] (M1 + 10)) (fun K hK => ?_) ?_
     ·
      skip
      have e0 := nq (a := o1) (b := M1 + 4) (by omega)
      simp -dsimp -implicitDefEqProofs (maxDischargeDepth := 6) [e0]
      refine (c88 hr9).app ?_; try simp -dsimp -implicitDefEqProofs (maxDischargeDepth := 6) [e0]
      exact hK _ _ ⟨rfl, rfl⟩
     rintro a σ ⟨rfl, rfl⟩
     refine AWP_cond r9 rfl (fun C4 => ?_) (fun C4 => ?_)
     ·
      replace H := ifT C4 H
      obtain ⟨v10, hv10, H⟩ := bindE H
      obtain ⟨v11, hv11, H⟩ := bindE H
      refine AWP_rd tok tokM [] [2] [0, 1, 5, 6, 7, 8, 2, 3, 4, 9, 10, 11] [1, 6, 7, 9, 10, 16, 17, 18] (fun a σ => a = [(1, .int .i64 p1), (6, .fsl (encL rI r1)), (7, .sl o1 0 s3.length), (9, .ptr (M1 + 4) 0 0), (10, .int .i64 (imul .i64 4 (isub .i64 v11 v10))), (16, .fsl (encL rQuad p0)), (17, .int .i64 (ilen p0)), (18, .int .i64 s2)] ∧ σ = hp E0 [(o1, some ⟨47, 5, encL rInstr s3⟩), (M1 + 4, some ⟨40, 5, [[.int .i64 v5.Op, .int .i64 v5.Dst, .int .i64 v5.A, .int .i64 v5.B, .int .i64 v5.N]]⟩)] (M1 + 22)) (by decide) (fun K hK => ?_) ?_
      ·
       simp only [pickL, nthO_succ, nthO_zero]
       have e0 := nq (a := o1) (b := M1 + 4) (by omega)
       simp -dsimp -implicitDefEqProofs (maxDischargeDepth := 6) [e0, ix24 hv10, ix24 hv11]
       exact hK _ _ ⟨rfl, rfl⟩
      rintro a σ ⟨ha, rfl⟩
      replace H := Option.some.inj H; subst H
      refine hJ1 _ _ ?_; rw [ha]
      exact Rc.fin (AHeap.Sub.refl _) ⟨M1 + 22, (by omega), (by omega), (by omega), rfl, rfl⟩
     ·
      replace H := ifF C4 H
      refine AWP_skip ?_
      show K6 _ _
      refine keepE (l := [1, 6, 7, 9, 10, 16, 17, 18]) (x := [(1, .int .i64 p1), (6, .fsl (encL rI r1)), (7, .sl o1 0 s3.length), (9, .ptr (M1 + 4) 0 0), (10, .int .i64 0), (16, .fsl (encL rQuad p0)), (17, .int .i64 (ilen p0)), (18, .int .i64 s2)]) rfl fun a' ha => ?_
      replace H := Option.some.inj H; subst H
      refine hJ1 _ _ ?_; rw [ha]
      exact Rc.fin (AHeap.Sub.refl _) ⟨M1 + 10, (by omega), (by omega), (by omega), rfl, rfl⟩
    ·
     replace H := ifF C3 H
     replace H := Option.some.inj H; subst H
     refine AWP_exit (hO3 _ _ _ _ rfl ⟨rfl, ?_⟩)
     refine Rc.rw (l := [7]) (X := [(7, .sl o1 0 s3.length)]) rfl ?_
     exact Rc.fin (AHeap.Sub.refl _) ⟨M1 + 1, o1, (by omega), (by omega), (by omega), rfl, rfl⟩
   ·
    intro x a σ hx
    obtain ⟨y4, rfl⟩ : ∃ x, x = e2 := ⟨_, rfl⟩
    obtain ⟨rfl, b, τ, hr, M2, o2, fM2_0, fM2_1, fM2_2, rfl, rfl⟩ := hx
    dsimp only at H
    show K2 _ _
    refine hK2 _ _ (Rc_ref hr ?_)
    refine Rc.mk ?_
    refine AWP_sr tok [] [4, 5] (fun a σ => a = [(4, .sl o2 0 y4.length), (5, .bool true)] ∧ σ = hp E0 [(o2, some ⟨47, 5, encL rInstr y4⟩)] (M2 + 3)) (fun K hK => ?_) ?_
    ·
     skip
     simp -dsimp -implicitDefEqProofs (maxDischargeDepth := 6)
     exact hK _ _ ⟨rfl, rfl⟩
    rintro a σ ⟨rfl, rfl⟩
    replace H := Option.some.inj H; subst H
    refine AWP_kp [4, 5] [(4, .sl o2 0 y4.length), (5, .bool true)] rfl ?_
    refine AWP_ret ?_
    refine ⟨[.sl o2 0 y4.length, .bool true], by simp, M2 + 3, o2, by omega, by omega, by omega, ?_, ?_⟩
    ·
     simp [encL_nil]
    ·
     first | rfl | simp [List.set_set]
theorem c47_o_b {p0 : (List gQuad)} {p1 : Int} {r : (List gInstr) × Bool} (H : i_TaskInstrs_o p0 p1 = some r) {σ : AHeap} {args : List AV} (hy : args.map (thawA (fun _ => true) σ 8) = [.fsl (encL rQuad p0), .int .i64 p1]) : ACalls Tryd.prog G 47 args σ (fun v σ' => ∃ M n0 : Nat, σ.next ≤ M ∧ σ.next ≤ n0 ∧ n0 < M ∧ v = .tup [.sl n0 0 r.1.length, .bool r.2] ∧ σ' = hp σ.objs [(n0, some ⟨47, 5, encL rInstr r.1⟩)] M) := by
 refine borrowQ 8 8 (c47_o (σ := ⟨E0, σ.next⟩) H) hy ?_
 rintro _ _ ⟨M, n0, h0, h1, h2, rfl, rfl⟩
 refine ⟨_, M, rfl, by simp [AV.rnf, AV.simp1], fun p hp ob ho => ?_, by simp, M, n0, h0, h1, h2, rfl, rfl⟩
 simp only [List.mem_cons, List.not_mem_nil, or_false] at hp
 rcases hp with rfl <;> (cases ho; first | exact encL_nf (fun x => nf_rInstr 7 x) _ | simp [AV.nf, AV.simp1])
theorem c11 {p0 : (List gQuad)} {p1 : Int} {r : Bool} (H : l_FnExactTaskInstrs p0 p1 = some r) : APure Tryd.prog G 11 [.fsl (encL rQuad p0), .int .i64 p1] (.bool r) := by
 refine APure_fn (fun N0 => ?_) (by simp)
 refine ACalls_fn tok Tryd.func11 (by kernel_rfl) rfl Tryd.ntmps11 Tryd.results11 rfl ?_
 simp only [argsA, Nat.reduceAdd, hp_next]
 unfold l_FnExactTaskInstrs at H
 refine AWP_sr tok [] [0, 1] (fun a σ => a = [(0, .fsl (encL rQuad p0)), (1, .int .i64 p1)] ∧ σ = hp E0 [] (N0 + 1)) (fun K hK => ?_) ?_
 ·
  skip
  simp -dsimp -implicitDefEqProofs (maxDischargeDepth := 6)
  exact hK _ _ ⟨rfl, rfl⟩
 rintro a σ ⟨rfl, rfl⟩
 refine AWP_sr tok [] [0, 1, 5] (fun a σ => a = [(0, .fsl (encL rQuad p0)), (1, .int .i64 p1), (5, .int .i64 1048576)] ∧ σ = hp E0 [] (N0 + 2)) (fun K hK => ?_) ?_
 ·
  skip
  simp -dsimp -implicitDefEqProofs (maxDischargeDepth := 6)
  exact hK _ _ ⟨rfl, rfl⟩
 rintro a σ ⟨rfl, rfl⟩
 obtain ⟨r1, hr1, H⟩ := bindE H
 refine AWP_sr tok [] [0, 1, 5] (fun a σ => a = [(0, .fsl (encL rQuad p0)), (1, .int .i64 p1), (5, .int .i64 r1)] ∧ σ = hp E0 [] (N0 + 6)) (fun K hK => ?_) ?_
 ·
  skip
  simp -dsimp -implicitDefEqProofs (maxDischargeDepth := 6)
  refine (c35 hr1).app ?_; try simp -dsimp -implicitDefEqProofs (maxDischargeDepth := 6)
  exact hK _ _ ⟨rfl, rfl⟩
 rintro a σ ⟨rfl, rfl⟩
 refine AWP_sq [0, 1] fun K1 hK1 => ?_
 refine AWP_sr tok [] [0, 1, 20] (fun a σ => a = [(0, .fsl (encL rQuad p0)), (1, .int .i64 p1), (20, .bool (ilt r1 0))] ∧ σ = hp E0 [] (N0 + 8)) (fun K hK => ?_) ?_
 ·
  skip
  simp -dsimp -implicitDefEqProofs (maxDischargeDepth := 6)
  exact hK _ _ ⟨rfl, rfl⟩
 rintro a σ ⟨rfl, rfl⟩
 refine AWP_cond (ilt r1 0) rfl (fun C1 => ?_) (fun C1 => ?_)
 ·
  replace H := ifT C1 H
  refine AWP_sr tok [] [4] (fun a σ => a = [(4, .bool true)] ∧ σ = hp E0 [] (N0 + 9)) (fun K hK => ?_) ?_
  ·
   skip
   simp -dsimp -implicitDefEqProofs (maxDischargeDepth := 6)
   exact hK _ _ ⟨rfl, rfl⟩
  rintro a σ ⟨rfl, rfl⟩
  replace H := Option.some.inj H; subst H
  refine AWP_kp [4] [(4, .bool true)] rfl ?_
  refine AWP_ret ?_
  exact ⟨[.bool true], by simp, 4, by simp [encL_nil]⟩
 ·
  replace H := ifF C1 H
  refine AWP_skip ?_
  show K1 _ _
  refine keepE (l := [0, 1]) (x := [(0, .fsl (encL rQuad p0)), (1, .int .i64 p1)]) rfl fun a' ha => ?_
  refine hK1 _ _ ?_; rw [ha]
  refine Rc.mk ?_
  obtain ⟨r2, hr2, H⟩ := bindE H
  obtain ⟨r3, hr3, H⟩ := bindE H
  refine AWP_sr tok [] [0, 1, 6, 7] (fun a σ => a = [(0, .fsl (encL rQuad p0)), (1, .int .i64 p1), (6, .fsl (encL rInstr r3.1)), (7, .bool r3.2)] ∧ σ = hp E0 [] (N0 + 17)) (fun K hK => ?_) ?_
  ·
   skip
   simp -dsimp -implicitDefEqProofs (maxDischargeDepth := 6)
   refine (c37 hr2).app ?_; try simp -dsimp -implicitDefEqProofs (maxDischargeDepth := 6)
   refine (c46 hr3).app ?_; try simp -dsimp -implicitDefEqProofs (maxDischargeDepth := 6)
   exact hK _ _ ⟨rfl, rfl⟩
  rintro a σ ⟨rfl, rfl⟩
  obtain ⟨r4, hr4, H⟩ := bindE H
  refine AWP_sr tok [] [0, 1, 6, 7, 8] (fun a σ => ∃ M1 o1 : Nat, N0 + 20 ≤ M1 ∧ N0 + 20 ≤ o1 ∧ o1 < M1 ∧ a = [(0, .fsl (encL rQuad p0)), (1, .int .i64 p1), (6, .fsl (encL rInstr r3.1)), (7, .bool r3.2), (8, .sl o1 0 r4.length)] ∧ σ = hp E0 [(o1, some ⟨40, 5, encL rQuad r4⟩)] M1) (fun K hK => ?_) ?_
  ·
   skip
   simp -dsimp -implicitDefEqProofs (maxDischargeDepth := 6)
   refine (c37_o (H := hr4) ).mono ?_; rintro _ _ ⟨M1, o1, fM1_0, fM1_1, fM1_2, rfl, rfl⟩; simp only [hp_next] at fM1_0 fM1_1 fM1_2
   try simp -dsimp -implicitDefEqProofs (maxDischargeDepth := 6) [hp_over_some, hp_over_none]
   exact hK _ _ ⟨M1, o1, (by omega), (by omega), (by omega), rfl, rfl⟩
  rintro a σ ⟨M1, o1, fM1_0, fM1_1, fM1_2, rfl, rfl⟩
  obtain ⟨r5, hr5, H⟩ := bindE H
  refine AWP_sr tok [] [0, 1, 6, 7, 8, 9, 10] (fun a σ => ∃ M2 o2 : Nat, M1 + 8 ≤ M2 ∧ M1 + 8 ≤ o2 ∧ o2 < M2 ∧ a = [(0, .fsl (encL rQuad p0)), (1, .int .i64 p1), (6, .fsl (encL rInstr r3.1)), (7, .bool r3.2), (8, .sl o1 0 r4.length), (9, .sl o2 0 r5.1.length), (10, .bool r5.2)] ∧ σ = hp E0 [(o1, some ⟨40, 5, encL rQuad r4⟩), (o2, some ⟨47, 5, encL rInstr r5.1⟩)] M2) (fun K hK => ?_) ?_
  ·
   skip
   simp -dsimp -implicitDefEqProofs (maxDischargeDepth := 6)
   refine (c47_o_b (H := hr5) (by simp [])).mono ?_; rintro _ _ ⟨M2, o2, fM2_0, fM2_1, fM2_2, rfl, rfl⟩; simp only [hp_next] at fM2_0 fM2_1 fM2_2
   have eM2_0 := nq (a := o2) (b := o1) (by omega)
   try simp -dsimp -implicitDefEqProofs (maxDischargeDepth := 6) [eM2_0, hp_over_some, hp_over_none]
   exact hK _ _ ⟨M2, o2, (by omega), (by omega), (by omega), rfl, rfl⟩
  rintro a σ ⟨M2, o2, fM2_0, fM2_1, fM2_2, rfl, rfl⟩
  refine AWP_sq [0, 1, 6, 7, 8, 9, 10] fun K2 hK2 => ?_
  obtain ⟨r6, hr6, H⟩ := bindE H
  obtain ⟨g7, hg7, H⟩ := bindE H
  refine AWP_sr tok [] [0, 1, 6, 7, 8, 9, 10, 44] (fun a σ => a = [(0, .fsl (encL rQuad p0)), (1, .int .i64 p1), (6, .fsl (encL rInstr r3.1)), (7, .bool r3.2), (8, .sl o1 0 r4.length), (9, .sl o2 0 r5.1.length), (10, .bool r5.2), (44, .bool g7)] ∧ σ = hp E0 [(o1, some ⟨40, 5, encL rQuad r4⟩), (o2, some ⟨47, 5, encL rInstr r5.1⟩)] (M2 + 9)) (fun K hK => ?_) ?_
  ·
   skip
   have e0 := nq (a := o1) (b := o2) (by omega)
   simp -dsimp -implicitDefEqProofs (maxDischargeDepth := 6) [e0]
   refine (borrow 8 (c19 hr6) (by simp [e0]) rfl).mono ?_; rintro _ _ ⟨rfl, rfl⟩; try simp -dsimp -implicitDefEqProofs (maxDischargeDepth := 6) [e0]
   cases hbg7 : bnot r6
   ·
    replace hg7 := ifF hbg7 hg7
    replace hg7 := Option.some.inj hg7; subst hg7
    try simp -dsimp -implicitDefEqProofs (maxDischargeDepth := 6) [e0, hbg7]
    exact hK _ _ ⟨rfl, rfl⟩
   ·
    replace hg7 := ifT hbg7 hg7
    replace hg7 := Option.some.inj hg7; subst hg7
    try simp -dsimp -implicitDefEqProofs (maxDischargeDepth := 6) [e0, hbg7]
    exact hK _ _ ⟨rfl, rfl⟩
  rintro a σ ⟨rfl, rfl⟩
  refine AWP_cond g7 rfl (fun C2 => ?_) (fun C2 => ?_)
  ·
   replace H := ifT C2 H
   refine AWP_sr tok [] [4] (fun a σ => a = [(4, .bool false)] ∧ σ = hp E0 [(o1, some ⟨40, 5, encL rQuad r4⟩), (o2, some ⟨47, 5, encL rInstr r5.1⟩)] (M2 + 10)) (fun K hK => ?_) ?_
   ·
    skip
    have e0 := nq (a := o1) (b := o2) (by omega)
    simp -dsimp -implicitDefEqProofs (maxDischargeDepth := 6) [e0]
    exact hK _ _ ⟨rfl, rfl⟩
   rintro a σ ⟨rfl, rfl⟩
   replace H := Option.some.inj H; subst H
   refine AWP_kp [4] [(4, .bool false)] rfl ?_
   have z0 := nq (a := o1) (b := o2) (by omega)
   refine AWP_ret ?_
   exact ⟨[.bool false], by simp [z0], 4, by simp [encL_nil, z0]⟩
  ·
   replace H := ifF C2 H
   refine AWP_skip ?_
   show K2 _ _
   refine keepE (l := [0, 1, 6, 7, 8, 9, 10]) (x := [(0, .fsl (encL rQuad p0)), (1, .int .i64 p1), (6, .fsl (encL rInstr r3.1)), (7, .bool r3.2), (8, .sl o1 0 r4.length), (9, .sl o2 0 r5.1.length), (10, .bool r5.2)]) rfl fun a' ha => ?_
   refine hK2 _ _ ?_; rw [ha]
   refine Rc.mk ?_
   refine AWP_sq [0, 1, 6, 7, 8, 9, 10] fun K3 hK3 => ?_
   obtain ⟨r8, hr8, H⟩ := bindE H
   refine AWP_sr tok [] [0, 1, 6, 7, 8, 9, 10, 49] (fun a σ => a = [(0, .fsl (encL rQuad p0)), (1, .int .i64 p1), (6, .fsl (encL rInstr r3.1)), (7, .bool r3.2), (8, .sl o1 0 r4.length), (9, .sl o2 0 r5.1.length), (10, .bool r5.2), (49, .bool (bnot r8))] ∧ σ = hp E0 [(o1, some ⟨40, 5, encL rQuad r4⟩), (o2, some ⟨47, 5, encL rInstr r5.1⟩)] (M2 + 14)) (fun K hK => ?_) ?_
   ·
    skip
    have e0 := nq (a := o1) (b := o2) (by omega)
    simp -dsimp -implicitDefEqProofs (maxDischargeDepth := 6) [e0]
    refine (c37 hr2).app ?_; try simp -dsimp -implicitDefEqProofs (maxDischargeDepth := 6) [e0]
    refine (borrow 8 (c40 hr8) (by simp [e0]) rfl).mono ?_; rintro _ _ ⟨rfl, rfl⟩; try simp -dsimp -implicitDefEqProofs (maxDischargeDepth := 6) [e0]
    exact hK _ _ ⟨rfl, rfl⟩
   rintro a σ ⟨rfl, rfl⟩
   refine AWP_cond (bnot r8) rfl (fun C3 => ?_) (fun C3 => ?_)
   ·
    replace H := ifT C3 H
    refine AWP_sr tok [] [4] (fun a σ => a = [(4, .bool false)] ∧ σ = hp E0 [(o1, some ⟨40, 5, encL rQuad r4⟩), (o2, some ⟨47, 5, encL rInstr r5.1⟩)] (M2 + 15)) (fun K hK => ?_) ?_
    ·
     skip
     have e0 := nq (a := o1) (b := o2) (by omega)
     simp -dsimp -implicitDefEqProofs (maxDischargeDepth := 6) [e0]
     exact hK _ _ ⟨rfl, rfl⟩
    rintro a σ ⟨rfl, rfl⟩
    replace H := Option.some.inj H; subst H
    refine AWP_kp [4] [(4, .bool false)] rfl ?_
    have z1 := nq (a := o1) (b := o2) (by omega)
    refine AWP_ret ?_
    exact ⟨[.bool false], by simp [z1], 4, by simp [encL_nil, z1]⟩
   ·
    replace H := ifF C3 H
    refine AWP_skip ?_
    show K3 _ _
    refine keepE (l := [0, 1, 6, 7, 8, 9, 10]) (x := [(0, .fsl (encL rQuad p0)), (1, .int .i64 p1), (6, .fsl (encL rInstr r3.1)), (7, .bool r3.2), (8, .sl o1 0 r4.length), (9, .sl o2 0 r5.1.length), (10, .bool r5.2)]) rfl fun a' ha => ?_
    refine hK3 _ _ ?_; rw [ha]
    refine Rc.mk ?_
    refine AWP_sr tok [] [0, 1, 6, 7, 8, 9, 10, 11] (fun a σ => a = [(0, .fsl (encL rQuad p0)), (1, .int .i64 p1), (6, .fsl (encL rInstr r3.1)), (7, .bool r3.2), (8, .sl o1 0 r4.length), (9, .sl o2 0 r5.1.length), (10, .bool r5.2), (11, .int .i64 1)] ∧ σ = hp E0 [(o1, some ⟨40, 5, encL rQuad r4⟩), (o2, some ⟨47, 5, encL rInstr r5.1⟩)] (M2 + 15)) (fun K hK => ?_) ?_
    ·
     skip
     have e0 := nq (a := o1) (b := o2) (by omega)
     simp -dsimp -implicitDefEqProofs (maxDischargeDepth := 6) [e0]
     exact hK _ _ ⟨rfl, rfl⟩
    rintro a σ ⟨rfl, rfl⟩
    obtain ⟨r9, hr9, H⟩ := bindE H
    refine AWP_sr tok [] [0, 1, 6, 7, 9, 10, 11] (fun a σ => ∃ M3 : Nat, M2 + 19 ≤ M3 ∧ r9.2.length = r4.length ∧ a = [(0, .fsl (encL rQuad p0)), (1, .int .i64 p1), (6, .fsl (encL rInstr r3.1)), (7, .bool r3.2), (9, .sl o2 0 r5.1.length), (10, .bool r5.2), (11, .int .i64 r9.1)] ∧ σ = hp E0 [(o1, some ⟨40, 5, encL rQuad r9.2⟩), (o2, some ⟨47, 5, encL rInstr r5.1⟩)] M3) (fun K hK => ?_) ?_
    ·
     skip
     have e0 := nq (a := o1) (b := o2) (by omega)
     simp -dsimp -implicitDefEqProofs (maxDischargeDepth := 6) [e0]
     refine (c41 (H := hr9) (by simp [e0])).mono ?_; rintro _ _ ⟨M3, fM3_0, fM3_1, rfl, rfl⟩; simp only [hp_next] at fM3_0
     try simp -dsimp -implicitDefEqProofs (maxDischargeDepth := 6) [e0, hp_over_some, hp_over_none]
     exact hK _ _ ⟨M3, (by omega), fM3_1, rfl, rfl⟩
    rintro a σ ⟨M3, fM3_0, fM3_1, rfl, rfl⟩
    try rw [← fM3_1]
    refine AWP_sq [0, 1, 6, 7, 9] fun K4 hK4 => ?_
    obtain ⟨g10, hg10, H⟩ := bindE H
    obtain ⟨g11, hg11, H⟩ := bindE H
    refine AWP_sr tok [] [0, 1, 6, 7, 9, 65] (fun a σ => a = [(0, .fsl (encL rQuad p0)), (1, .int .i64 p1), (6, .fsl (encL rInstr r3.1)), (7, .bool r3.2), (9, .sl o2 0 r5.1.length), (65, .bool g11)] ∧ σ = hp E0 [(o1, some ⟨40, 5, encL rQuad r9.2⟩), (o2, some ⟨47, 5, encL rInstr r5.1⟩)] (M3 + 13)) (fun K hK => ?_) ?_
    ·
     skip
     have e0 := nq (a := o1) (b := o2) (by omega)
     simp -dsimp -implicitDefEqProofs (maxDischargeDepth := 6) [e0]
     cases hbg10 : ilt r9.1 0
     ·
      replace hg10 := ifF hbg10 hg10
      replace hg10 := Option.some.inj hg10; subst hg10
      try simp -dsimp -implicitDefEqProofs (maxDischargeDepth := 6) [e0, hbg10]
      refine (borrow 8 (c19 hr6) (by simp [e0, hbg10]) rfl).mono ?_; rintro _ _ ⟨rfl, rfl⟩; try simp -dsimp -implicitDefEqProofs (maxDischargeDepth := 6) [e0, hbg10]
      cases hbg11 : (bnot r6)
      ·
       replace hg11 := ifF hbg11 hg11
       replace hg11 := Option.some.inj hg11; subst hg11
       try simp -dsimp -implicitDefEqProofs (maxDischargeDepth := 6) [e0, hbg10, hbg11]
       exact hK _ _ ⟨rfl, rfl⟩
      ·
       replace hg11 := ifT hbg11 hg11
       replace hg11 := Option.some.inj hg11; subst hg11
       try simp -dsimp -implicitDefEqProofs (maxDischargeDepth := 6) [e0, hbg10, hbg11]
       exact hK _ _ ⟨rfl, rfl⟩
     ·
      replace hg10 := ifT hbg10 hg10
      replace hg10 := Option.some.inj hg10; subst hg10
      try simp -dsimp -implicitDefEqProofs (maxDischargeDepth := 6) [e0, hbg10]
      replace hg11 := ifT rfl hg11
      replace hg11 := Option.some.inj hg11; subst hg11
      try simp -dsimp -implicitDefEqProofs (maxDischargeDepth := 6) [e0, hbg10]
      exact hK _ _ ⟨rfl, rfl⟩
    rintro a σ ⟨rfl, rfl⟩
    refine AWP_cond g11 rfl (fun C4 => ?_) (fun C4 => ?_)
    ·
     replace H := ifT C4 H
     refine AWP_sr tok [] [4] (fun a σ => a = [(4, .bool false)] ∧ σ = hp E0 [(o1, some ⟨40, 5, encL rQuad r9.2⟩), (o2, some ⟨47, 5, encL rInstr r5.1⟩)] (M3 + 14)) (fun K hK => ?_) ?_
     ·
      skip
      have e0 := nq (a := o1) (b := o2) (by omega)
      simp -dsimp -implicitDefEqProofs (maxDischargeDepth := 6) [e0]
      exact hK _ _ ⟨rfl, rfl⟩
     rintro a σ ⟨rfl, rfl⟩
     replace H := Option.some.inj H; subst H
     refine AWP_kp [4] [(4, .bool false)] rfl ?_
     have z2 := nq (a := o1) (b := o2) (by omega)
     refine AWP_ret ?_
     exact ⟨[.bool false], by simp [z2], 4, by simp [encL_nil, z2]⟩
    ·
     replace H := ifF C4 H
     refine AWP_skip ?_
     show K4 _ _
     refine keepE (l := [0, 1, 6, 7, 9]) (x := [(0, .fsl (encL rQuad p0)), (1, .int .i64 p1), (6, .fsl (encL rInstr r3.1)), (7, .bool r3.2), (9, .sl o2 0 r5.1.length)]) rfl fun a' ha => ?_
     refine hK4 _ _ ?_; rw [ha]
     refine Rc.mk ?_
     refine AWP_sr tok [] [0, 1, 6, 7, 9, 12] (fun a σ => a = [(0, .fsl (encL rQuad p0)), (1, .int .i64 p1), (6, .fsl (encL rInstr r3.1)), (7, .bool r3.2), (9, .sl o2 0 r5.1.length), (12, .int .i64 1)] ∧ σ = hp E0 [(o1, some ⟨40, 5, encL rQuad r9.2⟩), (o2, some ⟨47, 5, encL rInstr r5.1⟩)] (M3 + 14)) (fun K hK => ?_) ?_
     ·
      skip
      have e0 := nq (a := o1) (b := o2) (by omega)
      simp -dsimp -implicitDefEqProofs (maxDischargeDepth := 6) [e0]
      exact hK _ _ ⟨rfl, rfl⟩
     rintro a σ ⟨rfl, rfl⟩
     obtain ⟨r12, hr12, H⟩ := bindE H
     refine AWP_sr tok [] [0, 1, 6, 7, 9, 12] (fun a σ => ∃ M4 : Nat, M3 + 18 ≤ M4 ∧ r12.2.length = r5.1.length ∧ a = [(0, .fsl (encL rQuad p0)), (1, .int .i64 p1), (6, .fsl (encL rInstr r3.1)), (7, .bool r3.2), (9, .sl o2 0 r5.1.length), (12, .int .i64 r12.1)] ∧ σ = hp E0 [(o1, some ⟨40, 5, encL rQuad r9.2⟩), (o2, some ⟨47, 5, encL rInstr r12.2⟩)] M4) (fun K hK => ?_) ?_
     ·
      skip
      have e0 := nq (a := o1) (b := o2) (by omega)
      simp -dsimp -implicitDefEqProofs (maxDischargeDepth := 6) [e0]
      refine (c20 (H := hr12) (by simp [e0])).mono ?_; rintro _ _ ⟨M4, fM4_0, fM4_1, rfl, rfl⟩; simp only [hp_next] at fM4_0
      try simp -dsimp -implicitDefEqProofs (maxDischargeDepth := 6) [e0, hp_over_some, hp_over_none]
      exact hK _ _ ⟨M4, (by omega), fM4_1, rfl, rfl⟩
     rintro a σ ⟨M4, fM4_0, fM4_1, rfl, rfl⟩
     try rw [← fM4_1]
     refine AWP_sr tok [] [0, 1, 6, 7, 9, 12, 13] (fun a σ => a = [(0, .fsl (encL rQuad p0)), (1, .int .i64 p1), (6, .fsl (encL rInstr r3.1)), (7, .bool r3.2), (9, .sl o2 0 r12.2.length), (12, .int .i64 r12.1), (13, .int .i64 1)] ∧ σ = hp E0 [(o1, some ⟨40, 5, encL rQuad r9.2⟩), (o2, some ⟨47, 5, encL rInstr r12.2⟩)] (M4 + 1)) (fun K hK => ?_) ?_
     ·
      skip
      have e0 := nq (a := o1) (b := o2) (by omega)
      simp -dsimp -implicitDefEqProofs (maxDischargeDepth := 6) [e0]
      exact hK _ _ ⟨rfl, rfl⟩
     rintro a σ ⟨rfl, rfl⟩
     obtain ⟨r13, hr13, H⟩ := bindE H
     refine AWP_sr tok [] [0, 1, 6, 7, 9, 12, 13] (fun a σ => a = [(0, .fsl (encL rQuad p0)), (1, .int .i64 p1), (6, .fsl (encL rInstr r3.1)), (7, .bool r3.2), (9, .sl o2 0 r12.2.length), (12, .int .i64 r12.1), (13, .int .i64 r13)] ∧ σ = hp E0 [(o1, some ⟨40, 5, encL rQuad r9.2⟩), (o2, some ⟨47, 5, encL rInstr r12.2⟩)] (M4 + 5)) (fun K hK => ?_) ?_
     ·
      skip
      have e0 := nq (a := o1) (b := o2) (by omega)
      simp -dsimp -implicitDefEqProofs (maxDischargeDepth := 6) [e0]
      refine (borrow 8 (c26 hr13) (by simp [e0]) rfl).mono ?_; rintro _ _ ⟨rfl, rfl⟩; try simp -dsimp -implicitDefEqProofs (maxDischargeDepth := 6) [e0]
      exact hK _ _ ⟨rfl, rfl⟩
     rintro a σ ⟨rfl, rfl⟩
     refine AWP_sq [0, 1, 6, 7, 9, 12, 13] fun K5 hK5 => ?_
     refine AWP_sr tok [] [0, 1, 6, 7, 9, 12, 13, 73] (fun a σ => a = [(0, .fsl (encL rQuad p0)), (1, .int .i64 p1), (6, .fsl (encL rInstr r3.1)), (7, .bool r3.2), (9, .sl o2 0 r12.2.length), (12, .int .i64 r12.1), (13, .int .i64 r13), (73, .bool (ilt r13 0))] ∧ σ = hp E0 [(o1, some ⟨40, 5, encL rQuad r9.2⟩), (o2, some ⟨47, 5, encL rInstr r12.2⟩)] (M4 + 7)) (fun K hK => ?_) ?_
     ·
      skip
      have e0 := nq (a := o1) (b := o2) (by omega)
      simp -dsimp -implicitDefEqProofs (maxDischargeDepth := 6) [e0]
      exact hK _ _ ⟨rfl, rfl⟩
     rintro a σ ⟨rfl, rfl⟩
     refine AWP_cond (ilt r13 0) rfl (fun C5 => ?_) (fun C5 => ?_)
     ·
      replace H := ifT C5 H
      refine AWP_sr tok [] [4] (fun a σ => a = [(4, .bool false)] ∧ σ = hp E0 [(o1, some ⟨40, 5, encL rQuad r9.2⟩), (o2, some ⟨47, 5, encL rInstr r12.2⟩)] (M4 + 8)) (fun K hK => ?_) ?_
      ·
       skip
       have e0 := nq (a := o1) (b := o2) (by omega)
       simp -dsimp -implicitDefEqProofs (maxDischargeDepth := 6) [e0]
       exact hK _ _ ⟨rfl, rfl⟩
      rintro a σ ⟨rfl, rfl⟩
      replace H := Option.some.inj H; subst H
      refine AWP_kp [4] [(4, .bool false)] rfl ?_
      have z3 := nq (a := o1) (b := o2) (by omega)
      refine AWP_ret ?_
      exact ⟨[.bool false], by simp [z3], 4, by simp [encL_nil, z3]⟩
     ·
      replace H := ifF C5 H
      refine AWP_skip ?_
      show K5 _ _
      refine keepE (l := [0, 1, 6, 7, 9, 12, 13]) (x := [(0, .fsl (encL rQuad p0)), (1, .int .i64 p1), (6, .fsl (encL rInstr r3.1)), (7, .bool r3.2), (9, .sl o2 0 r12.2.length), (12, .int .i64 r12.1), (13, .int .i64 r13)]) rfl fun a' ha => ?_
      refine hK5 _ _ ?_; rw [ha]
      refine Rc.mk ?_
      refine AWP_sq [0, 1, 6, 7, 9, 12] fun K6 hK6 => ?_
      refine AWP_sr tok [] [0, 1, 6, 7, 9, 12, 76] (fun a σ => a = [(0, .fsl (encL rQuad p0)), (1, .int .i64 p1), (6, .fsl (encL rInstr r3.1)), (7, .bool r3.2), (9, .sl o2 0 r12.2.length), (12, .int .i64 r12.1), (76, .bool (ine r13 r12.1))] ∧ σ = hp E0 [(o1, some ⟨40, 5, encL rQuad r9.2⟩), (o2, some ⟨47, 5, encL rInstr r12.2⟩)] (M4 + 10)) (fun K hK => ?_) ?_
      ·
       skip
       have e0 := nq (a := o1) (b := o2) (by omega)
       simp -dsimp -implicitDefEqProofs (maxDischargeDepth := 6) [e0]
       exact hK _ _ ⟨rfl, rfl⟩
      rintro a σ ⟨rfl, rfl⟩
      refine AWP_cond (ine r13 r12.1) rfl (fun C6 => ?_) (fun C6 => ?_)
      ·
       replace H := ifT C6 H
       refine AWP_sr tok [] [4] (fun a σ => a = [(4, .bool false)] ∧ σ = hp E0 [(o1, some ⟨40, 5, encL rQuad r9.2⟩), (o2, some ⟨47, 5, encL rInstr r12.2⟩)] (M4 + 11)) (fun K hK => ?_) ?_
       ·
        skip
        have e0 := nq (a := o1) (b := o2) (by omega)
        simp -dsimp -implicitDefEqProofs (maxDischargeDepth := 6) [e0]
        exact hK _ _ ⟨rfl, rfl⟩
       rintro a σ ⟨rfl, rfl⟩
       replace H := Option.some.inj H; subst H
       refine AWP_kp [4] [(4, .bool false)] rfl ?_
       have z4 := nq (a := o1) (b := o2) (by omega)
       refine AWP_ret ?_
       exact ⟨[.bool false], by simp [z4], 4, by simp [encL_nil, z4]⟩
      ·
       replace H := ifF C6 H
       refine AWP_skip ?_
       show K6 _ _
       refine keepE (l := [0, 1, 6, 7, 9, 12]) (x := [(0, .fsl (encL rQuad p0)), (1, .int .i64 p1), (6, .fsl (encL rInstr r3.1)), (7, .bool r3.2), (9, .sl o2 0 r12.2.length), (12, .int .i64 r12.1)]) rfl fun a' ha => ?_
       refine hK6 _ _ ?_; rw [ha]
       refine Rc.mk ?_
       obtain ⟨r14, hr14, H⟩ := bindE H
       refine AWP_sr tok [] [6, 7, 9, 12, 14, 15] (fun a σ => a = [(6, .fsl (encL rInstr r3.1)), (7, .bool r3.2), (9, .sl o2 0 r12.2.length), (12, .int .i64 r12.1), (14, .fsl (encL rInstr r14.1)), (15, .bool r14.2)] ∧ σ = hp E0 [(o1, some ⟨40, 5, encL rQuad r9.2⟩), (o2, some ⟨47, 5, encL rInstr r12.2⟩)] (M4 + 19)) (fun K hK => ?_) ?_
       ·
        skip
        have e0 := nq (a := o1) (b := o2) (by omega)
        simp -dsimp -implicitDefEqProofs (maxDischargeDepth := 6) [e0]
        refine (c37 hr2).app ?_; try simp -dsimp -implicitDefEqProofs (maxDischargeDepth := 6) [e0]
        refine (c47 hr14).app ?_; try simp -dsimp -implicitDefEqProofs (maxDischargeDepth := 6) [e0]
        exact hK _ _ ⟨rfl, rfl⟩
       rintro a σ ⟨rfl, rfl⟩
       refine AWP_sq [9, 12] fun K7 hK7 => ?_
       obtain ⟨r15, hr15, H⟩ := bindE H
       obtain ⟨g16, hg16, H⟩ := bindE H
       refine AWP_sr tok [] [9, 12, 92] (fun a σ => a = [(9, .sl o2 0 r12.2.length), (12, .int .i64 r12.1), (92, .bool g16)] ∧ σ = hp E0 [(o1, some ⟨40, 5, encL rQuad r9.2⟩), (o2, some ⟨47, 5, encL rInstr r12.2⟩)] (M4 + 28)) (fun K hK => ?_) ?_
       ·
        skip
        have e0 := nq (a := o1) (b := o2) (by omega)
        simp -dsimp -implicitDefEqProofs (maxDischargeDepth := 6) [e0]
        refine (c19 hr15).app ?_; try simp -dsimp -implicitDefEqProofs (maxDischargeDepth := 6) [e0]
        cases hbg16 : bnot r15
        ·
         replace hg16 := ifF hbg16 hg16
         replace hg16 := Option.some.inj hg16; subst hg16
         try simp -dsimp -implicitDefEqProofs (maxDischargeDepth := 6) [e0, hbg16]
         exact hK _ _ ⟨rfl, rfl⟩
        ·
         replace hg16 := ifT hbg16 hg16
         replace hg16 := Option.some.inj hg16; subst hg16
         try simp -dsimp -implicitDefEqProofs (maxDischargeDepth := 6) [e0, hbg16]
         exact hK _ _ ⟨rfl, rfl⟩
       rintro a σ ⟨rfl, rfl⟩
       refine AWP_cond g16 rfl (fun C7 => ?_) (fun C7 => ?_)
       ·
        replace H := ifT C7 H
        refine AWP_sr tok [] [4] (fun a σ => a = [(4, .bool false)] ∧ σ = hp E0 [(o1, some ⟨40, 5, encL rQuad r9.2⟩), (o2, some ⟨47, 5, encL rInstr r12.2⟩)] (M4 + 29)) (fun K hK => ?_) ?_
        ·
         skip
         have e0 := nq (a := o1) (b := o2) (by omega)
         simp -dsimp -implicitDefEqProofs (maxDischargeDepth := 6) [e0]
         exact hK _ _ ⟨rfl, rfl⟩
        rintro a σ ⟨rfl, rfl⟩
        replace H := Option.some.inj H; subst H
        refine AWP_kp [4] [(4, .bool false)] rfl ?_
        have z5 := nq (a := o1) (b := o2) (by omega)
        refine AWP_ret ?_
        exact ⟨[.bool false], by simp [z5], 4, by simp [encL_nil, z5]⟩
       ·
        replace H := ifF C7 H
        refine AWP_skip ?_
        show K7 _ _
        refine keepE (l := [9, 12]) (x := [(9, .sl o2 0 r12.2.length), (12, .int .i64 r12.1)]) rfl fun a' ha => ?_
        refine hK7 _ _ ?_; rw [ha]
        refine Rc.mk ?_
        refine AWP_sr tok [] [9, 12, 13] (fun a σ => a = [(9, .sl o2 0 r12.2.length), (12, .int .i64 r12.1), (13, .int .i64 1)] ∧ σ = hp E0 [(o1, some ⟨40, 5, encL rQuad r9.2⟩), (o2, some ⟨47, 5, encL rInstr r12.2⟩)] (M4 + 29)) (fun K hK => ?_) ?_
        ·
         skip
         have e0 := nq (a := o1) (b := o2) (by omega)
         simp -dsimp -implicitDefEqProofs (maxDischargeDepth := 6) [e0]
         exact hK _ _ ⟨rfl, rfl⟩
        rintro a σ ⟨rfl, rfl⟩
        refine AWP_sr tok [] [12, 13] (fun a σ => a = [(12, .int .i64 r12.1), (13, .int .i64 r13)] ∧ σ = hp E0 [(o1, some ⟨40, 5, encL rQuad r9.2⟩), (o2, some ⟨47, 5, encL rInstr r12.2⟩)] (M4 + 33)) (fun K hK => ?_) ?_
        ·
         skip
         have e0 := nq (a := o1) (b := o2) (by omega)
         simp -dsimp -implicitDefEqProofs (maxDischargeDepth := 6) [e0]
         refine (borrow 8 (c26 hr13) (by simp [e0]) rfl).mono ?_; rintro _ _ ⟨rfl, rfl⟩; try simp -dsimp -implicitDefEqProofs (maxDischargeDepth := 6) [e0]
         exact hK _ _ ⟨rfl, rfl⟩
        rintro a σ ⟨rfl, rfl⟩
        refine AWP_sq [12, 13] fun K8 hK8 => ?_
        refine AWP_sr tok [] [12, 13, 97] (fun a σ => a = [(12, .int .i64 r12.1), (13, .int .i64 r13), (97, .bool (ilt r13 0))] ∧ σ = hp E0 [(o1, some ⟨40, 5, encL rQuad r9.2⟩), (o2, some ⟨47, 5, encL rInstr r12.2⟩)] (M4 + 35)) (fun K hK => ?_) ?_
        ·
         skip
         have e0 := nq (a := o1) (b := o2) (by omega)
         simp -dsimp -implicitDefEqProofs (maxDischargeDepth := 6) [e0]
         exact hK _ _ ⟨rfl, rfl⟩
        rintro a σ ⟨rfl, rfl⟩
        refine AWP_cond (ilt r13 0) rfl (fun C8 => ?_) (fun C8 => ?_)
        ·
         replace H := ifT C8 H
         refine AWP_sr tok [] [4] (fun a σ => a = [(4, .bool false)] ∧ σ = hp E0 [(o1, some ⟨40, 5, encL rQuad r9.2⟩), (o2, some ⟨47, 5, encL rInstr r12.2⟩)] (M4 + 36)) (fun K hK => ?_) ?_
         ·
          skip
          have e0 := nq (a := o1) (b := o2) (by omega)
          simp -dsimp -implicitDefEqProofs (maxDischargeDepth := 6) [e0]
          exact hK _ _ ⟨rfl, rfl⟩
         rintro a σ ⟨rfl, rfl⟩
         replace H := Option.some.inj H; subst H
         refine AWP_kp [4] [(4, .bool false)] rfl ?_
         have z6 := nq (a := o1) (b := o2) (by omega)
         refine AWP_ret ?_
         exact ⟨[.bool false], by simp [z6], 4, by simp [encL_nil, z6]⟩
        ·
         replace H := ifF C8 H
         refine AWP_skip ?_
         show K8 _ _
         refine keepE (l := [12, 13]) (x := [(12, .int .i64 r12.1), (13, .int .i64 r13)]) rfl fun a' ha => ?_
         refine hK8 _ _ ?_; rw [ha]
         refine Rc.mk ?_
         refine AWP_sq [] fun K9 hK9 => ?_
         refine AWP_sr tok [] [100] (fun a σ => a = [(100, .bool (ine r13 r12.1))] ∧ σ = hp E0 [(o1, some ⟨40, 5, encL rQuad r9.2⟩), (o2, some ⟨47, 5, encL rInstr r12.2⟩)] (M4 + 38)) (fun K hK => ?_) ?_
         ·
          skip
          have e0 := nq (a := o1) (b := o2) (by omega)
          simp -dsimp -implicitDefEqProofs (maxDischargeDepth := 6) [e0]
          exact hK _ _ ⟨rfl, rfl⟩
         rintro a σ ⟨rfl, rfl⟩
         refine AWP_cond (ine r13 r12.1) rfl (fun C9 => ?_) (fun C9 => ?_)
         ·
          replace H := ifT C9 H
          refine AWP_sr tok [] [4] (fun a σ => a = [(4, .bool false)] ∧ σ = hp E0 [(o1, some ⟨40, 5, encL rQuad r9.2⟩), (o2, some ⟨47, 5, encL rInstr r12.2⟩)] (M4 + 39)) (fun K hK => ?_) ?_
          ·
           skip
           have e0 := nq (a := o1) (b := o2) (by omega)
           simp -dsimp -implicitDefEqProofs (maxDischargeDepth := 6) [e0]
           exact hK _ _ ⟨rfl, rfl⟩
          rintro a σ ⟨rfl, rfl⟩
          replace H := Option.some.inj H; subst H
          refine AWP_kp [4] [(4, .bool false)] rfl ?_
          have z7 := nq (a := o1) (b := o2) (by omega)
          refine AWP_ret ?_
          exact ⟨[.bool false], by simp [z7], 4, by simp [encL_nil, z7]⟩
         ·
          replace H := ifF C9 H
          refine AWP_skip ?_
          show K9 _ _
          refine keepE (l := []) (x := []) rfl fun a' ha => ?_
          refine hK9 _ _ ?_; rw [ha]
          refine Rc.mk ?_
          refine AWP_sr tok [] [4] (fun a σ => a = [(4, .bool true)] ∧ σ = hp E0 [(o1, some ⟨40, 5, encL rQuad r9.2⟩), (o2, some ⟨47, 5, encL rInstr r12.2⟩)] (M4 + 39)) (fun K hK => ?_) ?_
          ·
           skip
           have e0 := nq (a := o1) (b := o2) (by omega)
           simp -dsimp -implicitDefEqProofs (maxDischargeDepth := 6) [e0]
           exact hK _ _ ⟨rfl, rfl⟩
          rintro a σ ⟨rfl, rfl⟩
          replace H := Option.some.inj H; subst H
          refine AWP_kp [4] [(4, .bool true)] rfl ?_
          have z8 := nq (a := o1) (b := o2) (by omega)
          refine AWP_ret ?_
          exact ⟨[.bool true], by simp [z8], 4, by simp [encL_nil, z8]⟩
end Go.Proofs.YtoklfbdcghgmlaaDoor
