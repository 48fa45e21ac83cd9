/- The contracts of functions of the program, part 1: each computes what its mirror computes. No conditions. -/
import Derived.Test.YtoklfbdcghgmlaaDoorNDT0
set_option linter.unusedSimpArgs false
set_option linter.unusedVariables false
set_option maxRecDepth 20000
set_option maxHeartbeats 4000000
namespace Go.Proofs.YtoklfbdcghgmlaaDoor
open Go Go.Abs Go.RowKit

theorem c31 {p0 : Int} {p1 : Int} {r : (List gInstr) × Bool} (H : s_ConstInstrs p0 p1 = some r) : APure Tryd.prog G 31 [.int .i64 p0, .int .i64 p1] (.tup [.fsl (encL rInstr r.1), .bool r.2]) := by
 refine APure_fn (fun N0 => ?_) (by simp)
 refine ACalls_fn tok Tryd.func31 (by kernel_rfl) rfl Tryd.ntmps31 Tryd.results31 rfl ?_
 simp only [argsA, Nat.reduceAdd, hp_next]
 unfold s_ConstInstrs at H
 refine AWP_sr tok [] [0, 1] (fun a σ => a = [(0, .int .i64 p0), (1, .int .i64 p1)] ∧ σ = hp E0 [] (N0 + 2)) (fun K hK => ?_) ?_
 ·
  skip
  simp -dsimp -implicitDefEqProofs (maxDischargeDepth := 6)
  exact hK _ _ ⟨rfl, rfl⟩
 rintro a σ ⟨rfl, rfl⟩
 refine AWP_sq [0, 1] fun K1 hK1 => ?_
 obtain ⟨r1, hr1, H⟩ := bindE H
 obtain ⟨g3, hg3, H⟩ := bindE H
 refine AWP_sr tok [] [0, 1, 13] (fun a σ => a = [(0, .int .i64 p0), (1, .int .i64 p1), (13, .bool g3)] ∧ σ = hp E0 [] (N0 + 10)) (fun K hK => ?_) ?_
 ·
  skip
  simp -dsimp -implicitDefEqProofs (maxDischargeDepth := 6)
  refine (c65 hr1).app ?_; try simp -dsimp -implicitDefEqProofs (maxDischargeDepth := 6)
  cases hbg3 : bnot r1
  ·
   replace hg3 := ifF hbg3 hg3
   obtain ⟨r2, hr2, hg3⟩ := bindE hg3
   replace hg3 := Option.some.inj hg3; subst hg3
   try simp -dsimp -implicitDefEqProofs (maxDischargeDepth := 6) [hbg3]
   refine (c75 hr2).app ?_; try simp -dsimp -implicitDefEqProofs (maxDischargeDepth := 6) [hbg3]
   exact hK _ _ ⟨rfl, rfl⟩
  ·
   replace hg3 := ifT hbg3 hg3
   replace hg3 := Option.some.inj hg3; subst hg3
   try simp -dsimp -implicitDefEqProofs (maxDischargeDepth := 6) [hbg3]
   exact hK _ _ ⟨rfl, rfl⟩
 rintro a σ ⟨rfl, rfl⟩
 refine AWP_cond g3 rfl (fun C1 => ?_) (fun C1 => ?_)
 ·
  replace H := ifT C1 H
  have q0 : ∀ σ i, buildSliceA T 29 true i 0 [] σ = some (.esl, σ) := fun _ _ => rfl
  refine AWP_sr tok [0] [4, 5] (fun a σ => a = [(4, .esl), (5, .bool false)] ∧ σ = hp E0 [] (N0 + 13)) (fun K hK => ?_) ?_
  ·
   skip
   simp -dsimp -implicitDefEqProofs (maxDischargeDepth := 6) [q0]
   exact hK _ _ ⟨rfl, rfl⟩
  rintro a σ ⟨rfl, rfl⟩
  replace H := Option.some.inj H; subst H
  refine AWP_kp [4, 5] [(4, .esl), (5, .bool false)] rfl ?_
  refine AWP_ret ?_
  exact ⟨[.esl, .bool false], by simp, 4, by simp [encL_nil]⟩
 ·
  replace H := ifF C1 H
  refine AWP_skip ?_
  show K1 _ _
  refine keepE (l := [0, 1]) (x := [(0, .int .i64 p0), (1, .int .i64 p1)]) rfl fun a' ha => ?_
  refine hK1 _ _ ?_; rw [ha]
  refine Rc.mk ?_
  obtain ⟨r4, hr4, H⟩ := bindE H
  refine AWP_sr tok [] [4, 5] (fun a σ => a = [(4, .fsl (encL rInstr r4)), (5, .bool true)] ∧ σ = hp E0 [] (N0 + 15)) (fun K hK => ?_) ?_
  ·
   skip
   simp -dsimp -implicitDefEqProofs (maxDischargeDepth := 6)
   refine (c76 hr4).app ?_; try simp -dsimp -implicitDefEqProofs (maxDischargeDepth := 6)
   exact hK _ _ ⟨rfl, rfl⟩
  rintro a σ ⟨rfl, rfl⟩
  replace H := Option.some.inj H; subst H
  refine AWP_kp [4, 5] [(4, .fsl (encL rInstr r4)), (5, .bool true)] rfl ?_
  refine AWP_ret ?_
  exact ⟨[.fsl (encL rInstr r4), .bool true], by simp, 4, by simp [encL_nil]⟩
theorem c28 {p0 : (List gInstr)} {p1 : (List gInstr)} {r : Bool} (H : l_sameInstrs p0 p1 = some r) : APure Tryd.prog G 28 [.fsl (encL rInstr p0), .fsl (encL rInstr p1)] (.bool r) := by
 refine APure_fn (fun N0 => ?_) (by simp)
 refine ACalls_fn tok Tryd.func28 (by kernel_rfl) rfl Tryd.ntmps28 Tryd.results28 rfl ?_
 simp only [argsA, Nat.reduceAdd, hp_next]
 unfold l_sameInstrs at H
 refine AWP_sr tok [] [0, 1] (fun a σ => a = [(0, .fsl (encL rInstr p0)), (1, .fsl (encL rInstr p1))] ∧ σ = hp E0 [] (N0 + 1)) (fun K hK => ?_) ?_
 ·
  skip
  simp -dsimp -implicitDefEqProofs (maxDischargeDepth := 6)
  exact hK _ _ ⟨rfl, rfl⟩
 rintro a σ ⟨rfl, rfl⟩
 refine AWP_sq [0, 1] fun K1 hK1 => ?_
 refine AWP_sr tok [] [0, 1, 10] (fun a σ => a = [(0, .fsl (encL rInstr p0)), (1, .fsl (encL rInstr p1)), (10, .bool (ine (ilen p0) (ilen p1)))] ∧ σ = hp E0 [] (N0 + 6)) (fun K hK => ?_) ?_
 ·
  skip
  simp -dsimp -implicitDefEqProofs (maxDischargeDepth := 6)
  exact hK _ _ ⟨rfl, rfl⟩
 rintro a σ ⟨rfl, rfl⟩
 refine AWP_cond (ine (ilen p0) (ilen p1)) rfl (fun C1 => ?_) (fun C1 => ?_)
 ·
  replace H := ifT C1 H
  refine AWP_sr tok [] [4] (fun a σ => a = [(4, .bool false)] ∧ σ = hp E0 [] (N0 + 7)) (fun K hK => ?_) ?_
  ·
   skip
   simp -dsimp -implicitDefEqProofs (maxDischargeDepth := 6)
   exact hK _ _ ⟨rfl, rfl⟩
  rintro a σ ⟨rfl, rfl⟩
  replace H := Option.some.inj H; subst H
  refine AWP_kp [4] [(4, .bool false)] rfl ?_
  refine AWP_ret ?_
  exact ⟨[.bool false], by simp, 4, by simp [encL_nil]⟩
 ·
  replace H := ifF C1 H
  refine AWP_skip ?_
  show K1 _ _
  refine keepE (l := [0, 1]) (x := [(0, .fsl (encL rInstr p0)), (1, .fsl (encL rInstr p1))]) rfl fun a' ha => ?_
  refine hK1 _ _ ?_; rw [ha]
  refine Rc.mk ?_
  refine AWP_sq [] fun K2 hK2 => ?_
  refine AWP_sr tok [] [0, 1, 5] (fun a σ => a = [(0, .fsl (encL rInstr p0)), (1, .fsl (encL rInstr p1)), (5, .int .i64 0)] ∧ σ = hp E0 [] (N0 + 7)) (fun K hK => ?_) ?_
  ·
   skip
   simp -dsimp -implicitDefEqProofs (maxDischargeDepth := 6)
   exact hK _ _ ⟨rfl, rfl⟩
  rintro a σ ⟨rfl, rfl⟩
  refine AWP_block (AWP_thenB ?_)
  obtain ⟨e1, hse1, H⟩ := bindE H
  refine AWP_lp [0, 1, 5] (fun s a σ => ∃ M1 : Nat, N0 ≤ M1 ∧ a = [(0, .fsl (encL rInstr p0)), (1, .fsl (encL rInstr p1)), (5, .int .i64 s)] ∧ σ = hp E0 [] M1) (fun e x a σ => match e with | .inl s => x = .exit 0 ∧ Rc G 26 N0 (fun a σ => ∃ M2 : Nat, N0 ≤ M2 ∧ a = [] ∧ σ = hp E0 [] M2) (AAct.keep a []) σ | .inr s => x = .ret ∧ ∃ vs, resA T σ a [.tmp 4] = some vs ∧ ∃ d, thawA (fun _ => true) σ d (tupA vs) = .bool s) hse1 ?_ ?_ ?_
  ·
   refine Rc.kp [0, 1, 5] [(0, .fsl (encL rInstr p0)), (1, .fsl (encL rInstr p1)), (5, .int .i64 0)] rfl ?_
   exact Rc.fin (AHeap.Sub.refl _) ⟨N0 + 7, (by omega), rfl, rfl⟩
  ·
   clear H hse1
   rintro s1 fl a σ H ⟨M1, fM1_0, rfl, rfl⟩ K3 O3 hK3 hO3
   unfold l_sameInstrs_L1 at H; dsimp only at H
   refine AWP_sq [0, 1, 5] fun K4 hK4 => ?_
   refine AWP_sr tok [] [0, 1, 5, 14] (fun a σ => a = [(0, .fsl (encL rInstr p0)), (1, .fsl (encL rInstr p1)), (5, .int .i64 s1), (14, .bool (ilt s1 (ilen p0)))] ∧ σ = hp E0 [] (M1 + 4)) (fun K hK => ?_) ?_
   ·
    skip
    simp -dsimp -implicitDefEqProofs (maxDischargeDepth := 6)
    exact hK _ _ ⟨rfl, rfl⟩
   rintro a σ ⟨rfl, rfl⟩
   refine AWP_cond (ilt s1 (ilen p0)) rfl (fun C2 => ?_) (fun C2 => ?_)
   ·
    replace H := ifT C2 H
    refine AWP_skip ?_
    show K4 _ _
    refine keepE (l := [0, 1, 5]) (x := [(0, .fsl (encL rInstr p0)), (1, .fsl (encL rInstr p1)), (5, .int .i64 s1)]) rfl fun a' ha => ?_
    refine hK4 _ _ ?_; rw [ha]
    refine Rc.mk ?_
    refine AWP_sq [0, 1, 5] fun K5 hK5 => ?_
    refine AWP_block (AWP_thenB ?_)
    obtain ⟨v2, hv2, H⟩ := bindE H
    obtain ⟨v3, hv3, H⟩ := bindE H
    refine AWP_sd tok tokM [] [] [0, 1, 2, 3, 4, 5, 6, 7, 8] [0, 1, 5, 25] (fun a σ => a = [(0, .fsl (encL rInstr p0)), (1, .fsl (encL rInstr p1)), (5, .int .i64 s1), (25, .bool (bnot (eqD v2 v3)))] ∧ σ = hp E0 [] (M1 + 13)) (by decide) (fun K hK => ?_) ?_
    ·
     simp only [pickL, nthO_succ, nthO_zero]
     simp -dsimp -implicitDefEqProofs (maxDischargeDepth := 6) [ix29 hv2, ix29 hv3]
     exact hK _ _ ⟨rfl, rfl⟩
    rintro a σ ⟨rfl, rfl⟩
    refine AWP_cond (bnot (eqD v2 v3)) rfl (fun C3 => ?_) (fun C3 => ?_)
    ·
     replace H := ifT C3 H
     refine AWP_sr tok [] [4] (fun a σ => a = [(4, .bool false)] ∧ σ = hp E0 [] (M1 + 14)) (fun K hK => ?_) ?_
     ·
      skip
      simp -dsimp -implicitDefEqProofs (maxDischargeDepth := 6)
      exact hK _ _ ⟨rfl, rfl⟩
     rintro a σ ⟨rfl, rfl⟩
     replace H := Option.some.inj H; subst H
     refine AWP_kp [4] [(4, .bool false)] rfl ?_
     refine AWP_ret (hO3 _ _ _ _ rfl ⟨rfl, ?_⟩)
     exact ⟨[.bool false], by simp, 4, by simp [encL_nil]⟩
    ·
     replace H := ifF C3 H
     refine AWP_skip ?_
     show K5 _ _
     refine keepE (l := [0, 1, 5]) (x := [(0, .fsl (encL rInstr p0)), (1, .fsl (encL rInstr p1)), (5, .int .i64 s1)]) rfl fun a' ha => ?_
     refine hK5 _ _ ?_; rw [ha]
     refine Rc.mk ?_
     refine AWP_rt tok [] [0, 1, 5] (fun a σ => a = [(0, .fsl (encL rInstr p0)), (1, .fsl (encL rInstr p1)), (5, .int .i64 (iadd .i64 s1 1))] ∧ σ = hp E0 [] (M1 + 16)) (fun K hK => ?_) ?_
     ·
      skip
      simp -dsimp -implicitDefEqProofs (maxDischargeDepth := 6)
      exact hK _ _ ⟨rfl, rfl⟩
     rintro a σ ⟨ha, rfl⟩
     replace H := Option.some.inj H; subst H
     refine hK3 _ _ _ rfl ?_; rw [ha]
     exact Rc.fin (AHeap.Sub.refl _) ⟨M1 + 16, (by omega), rfl, rfl⟩
   ·
    replace H := ifF C2 H
    replace H := Option.some.inj H; subst H
    refine AWP_exit (hO3 _ _ _ _ rfl ⟨rfl, ?_⟩)
    refine Rc.rw (l := []) (X := []) rfl ?_
    exact Rc.fin (AHeap.Sub.refl _) ⟨M1 + 4, (by omega), rfl, rfl⟩
  ·
   intro x a σ hx
   rcases e1 with ⟨⟩ | r0
   ·
    obtain ⟨rfl, b, τ, hr, M2, fM2_0, rfl, rfl⟩ := hx
    dsimp only at H
    show K2 _ _
    refine hK2 _ _ (Rc_ref hr ?_)
    refine Rc.mk ?_
    refine AWP_sr tok [] [4] (fun a σ => a = [(4, .bool true)] ∧ σ = hp E0 [] (M2 + 1)) (fun K hK => ?_) ?_
    ·
     skip
     simp -dsimp -implicitDefEqProofs (maxDischargeDepth := 6)
     exact hK _ _ ⟨rfl, rfl⟩
    rintro a σ ⟨rfl, rfl⟩
    replace H := Option.some.inj H; subst H
    refine AWP_kp [4] [(4, .bool true)] rfl ?_
    refine AWP_ret ?_
    exact ⟨[.bool true], by simp, 4, by simp [encL_nil]⟩
   ·
    obtain ⟨rfl, hx2⟩ := hx
    dsimp only at H
    replace H := Option.some.inj H; subst H; exact hx2
theorem c32 {p0 : (List gInstr)} {r : (List Int)} (H : l_wordsOf p0 = some r) : APure Tryd.prog G 32 [.fsl (encL rInstr p0)] (.fsl (encL rI r)) := by
 refine APure_fn (fun N0 => ?_) (by simp)
 refine ACalls_fn tok Tryd.func32 (by kernel_rfl) rfl Tryd.ntmps32 Tryd.results32 rfl ?_
 simp only [argsA, Nat.reduceAdd, hp_next]
 unfold l_wordsOf at H
 refine AWP_sr tok [] [0] (fun a σ => a = [(0, .fsl (encL rInstr p0))] ∧ σ = hp E0 [] (N0 + 1)) (fun K hK => ?_) ?_
 ·
  skip
  simp -dsimp -implicitDefEqProofs (maxDischargeDepth := 6)
  exact hK _ _ ⟨rfl, rfl⟩
 rintro a σ ⟨rfl, rfl⟩
 have q0 : ∀ σ i, buildSliceA T 24 true i 0 [] σ = some (.esl, σ) := fun _ _ => rfl
 refine AWP_sr tok [0] [0, 3] (fun a σ => a = [(0, .fsl (encL rInstr p0)), (3, .esl)] ∧ σ = hp E0 [] (N0 + 3)) (fun K hK => ?_) ?_
 ·
  skip
  simp -dsimp -implicitDefEqProofs (maxDischargeDepth := 6) [q0]
  exact hK _ _ ⟨rfl, rfl⟩
 rintro a σ ⟨rfl, rfl⟩
 refine AWP_sq [3] fun K1 hK1 => ?_
 refine AWP_sr tok [] [0, 3, 4] (fun a σ => a = [(0, .fsl (encL rInstr p0)), (3, .esl), (4, .int .i64 0)] ∧ σ = hp E0 [] (N0 + 4)) (fun K hK => ?_) ?_
 ·
  skip
  simp -dsimp -implicitDefEqProofs (maxDischargeDepth := 6)
  exact hK _ _ ⟨rfl, rfl⟩
 rintro a σ ⟨rfl, rfl⟩
 refine AWP_block (AWP_thenB ?_)
 obtain ⟨e1, hse1, H⟩ := bindE H
 refine AWP_lp [0, 3, 4] (fun s a σ => ∃ M1 o1 : Nat, N0 ≤ M1 ∧ N0 ≤ o1 ∧ o1 < M1 ∧ a = [(0, .fsl (encL rInstr p0)), (3, .sl o1 0 s.2.length), (4, .int .i64 s.1)] ∧ σ = hp E0 [(o1, some ⟨3, 1, encL rI s.2⟩)] M1) (fun s x a σ => x = .exit 0 ∧ Rc G 28 N0 (fun a σ => ∃ M2 o2 : Nat, N0 ≤ M2 ∧ N0 ≤ o2 ∧ o2 < M2 ∧ a = [(3, .sl o2 0 s.length)] ∧ σ = hp E0 [(o2, some ⟨3, 1, encL rI s⟩)] M2) (AAct.keep a [3]) σ) hse1 ?_ ?_ ?_
 ·
  refine Rc.kp [0, 3, 4] [(0, .fsl (encL rInstr p0)), (3, .esl), (4, .int .i64 0)] rfl ?_
  refine gNilS Rc_ref 3 3 1 [(N0 + 4, some ⟨3, 1, encL rI ([] : List Int)⟩)] [(0, .fsl (encL rInstr p0)), (3, .sl (N0 + 4) 0 ([] : List Int).length), (4, .int .i64 0)] (by simp (disch := omega)) (by simp (disch := omega) [encL_nil]) [0, 3, 4] rfl ?_
  exact Rc.fin (AHeap.Sub.refl _) ⟨N0 + 5, (N0 + 4), (by omega), (by omega), (by omega), rfl, rfl⟩
 ·
  clear H hse1
  rintro ⟨s1, s2⟩ fl a σ H ⟨M1, o1, fM1_0, fM1_1, fM1_2, rfl, rfl⟩ K2 O2 hK2 hO2
  unfold l_wordsOf_L1 at H; dsimp only at H
  refine AWP_sq [0, 3, 4] fun K3 hK3 => ?_
  refine AWP_sr tok [] [0, 3, 4, 11] (fun a σ => a = [(0, .fsl (encL rInstr p0)), (3, .sl o1 0 s2.length), (4, .int .i64 s1), (11, .bool (ilt s1 (ilen p0)))] ∧ σ = hp E0 [(o1, some ⟨3, 1, encL rI s2⟩)] (M1 + 4)) (fun K hK => ?_) ?_
  ·
   skip
   simp -dsimp -implicitDefEqProofs (maxDischargeDepth := 6)
   exact hK _ _ ⟨rfl, rfl⟩
  rintro a σ ⟨rfl, rfl⟩
  refine AWP_cond (ilt s1 (ilen p0)) rfl (fun C1 => ?_) (fun C1 => ?_)
  ·
   replace H := ifT C1 H
   refine AWP_skip ?_
   show K3 _ _
   refine keepE (l := [0, 3, 4]) (x := [(0, .fsl (encL rInstr p0)), (3, .sl o1 0 s2.length), (4, .int .i64 s1)]) rfl fun a' ha => ?_
   refine hK3 _ _ ?_; rw [ha]
   refine Rc.mk ?_
   refine AWP_sq [0, 3, 4] fun K4 hK4 => ?_
   refine AWP_block (AWP_thenB ?_)
   obtain ⟨v4, hv4, H⟩ := bindE H
   obtain ⟨r5, hr5, H⟩ := bindE H
   refine AWP_sr tok [] [0, 3, 4, 5] (fun a σ => a = [(0, .fsl (encL rInstr p0)), (3, .sl o1 0 s2.length), (4, .int .i64 s1), (5, .int .i64 r5.1)] ∧ σ = hp E0 [(o1, some ⟨3, 1, encL rI s2⟩)] (M1 + 14)) (fun K hK => ?_) ?_
   ·
    skip
    simp -dsimp -implicitDefEqProofs (maxDischargeDepth := 6) [ix29 hv4]
    refine (c77 hr5).app ?_; try simp -dsimp -implicitDefEqProofs (maxDischargeDepth := 6) [ix29 hv4]
    exact hK _ _ ⟨rfl, rfl⟩
   rintro a σ ⟨rfl, rfl⟩
   obtain ⟨r6, hr6, H⟩ := bindE H
   obtain ⟨l7, hl7, H⟩ := bindE H
   have q1 : ∀ σ i, buildSliceA T 24 true i 1 [(0, .int .i64 r6)] σ = some (.fsl (encL rI ([r6] : List Int)), σ) := fun _ _ => rfl
   refine AWP_rt tok [3] [0, 3, 4] (fun a σ => a = [(0, .fsl (encL rInstr p0)), (3, .sl (M1 + 18) 0 l7.length), (4, .int .i64 s1)] ∧ σ = hp E0 [(M1 + 18, some ⟨3, 1, encL rI l7⟩)] (M1 + 20)) (fun K hK => ?_) ?_
   ·
    skip
    have e0 := nq (a := o1) (b := M1 + 18) (by omega)
    simp -dsimp -implicitDefEqProofs (maxDischargeDepth := 6) [e0, q1, app24 hl7]
    refine (c58 hr6).app ?_; try simp -dsimp -implicitDefEqProofs (maxDischargeDepth := 6) [e0, q1, app24 hl7]
    exact hK _ _ ⟨rfl, rfl⟩
   rintro a σ ⟨ha, rfl⟩
   refine hK4 _ _ ?_; rw [ha]
   refine Rc.mk ?_
   refine AWP_rt tok [] [0, 3, 4] (fun a σ => a = [(0, .fsl (encL rInstr p0)), (3, .sl (M1 + 18) 0 l7.length), (4, .int .i64 (iadd .i64 s1 1))] ∧ σ = hp E0 [(M1 + 18, some ⟨3, 1, encL rI l7⟩)] (M1 + 23)) (fun K hK => ?_) ?_
   ·
    skip
    simp -dsimp -implicitDefEqProofs (maxDischargeDepth := 6)
    exact hK _ _ ⟨rfl, rfl⟩
   rintro a σ ⟨ha, rfl⟩
   replace H := Option.some.inj H; subst H
   refine hK2 _ _ _ rfl ?_; rw [ha]
   exact Rc.fin (AHeap.Sub.refl _) ⟨M1 + 23, (M1 + 18), (by omega), (by omega), (by omega), rfl, rfl⟩
  ·
   replace H := ifF C1 H
   replace H := Option.some.inj H; subst H
   refine AWP_exit (hO2 _ _ _ _ rfl ⟨rfl, ?_⟩)
   refine Rc.rw (l := [3]) (X := [(3, .sl o1 0 s2.length)]) rfl ?_
   exact Rc.fin (AHeap.Sub.refl _) ⟨M1 + 4, o1, (by omega), (by omega), (by omega), rfl, rfl⟩
 ·
  intro x a σ hx
  obtain ⟨y3, rfl⟩ : ∃ x, x = e1 := ⟨_, rfl⟩
  obtain ⟨rfl, b, τ, hr, M2, o2, fM2_0, fM2_1, fM2_2, rfl, rfl⟩ := hx
  dsimp only at H
  show K1 _ _
  refine hK1 _ _ (Rc_ref hr ?_)
  refine Rc.mk ?_
  refine AWP_sr tok [] [2] (fun a σ => a = [(2, .sl o2 0 y3.length)] ∧ σ = hp E0 [(o2, some ⟨3, 1, encL rI y3⟩)] (M2 + 2)) (fun K hK => ?_) ?_
  ·
   skip
   simp -dsimp -implicitDefEqProofs (maxDischargeDepth := 6)
   exact hK _ _ ⟨rfl, rfl⟩
  rintro a σ ⟨rfl, rfl⟩
  replace H := Option.some.inj H; subst H
  refine AWP_kp [2] [(2, .sl o2 0 y3.length)] rfl ?_
  refine AWP_ret ?_
  exact ⟨[.sl o2 0 y3.length], by simp, 4, by simp [encL_nil]⟩
theorem c133 {p0 : (List Int)} {r : Bool} (H : i_areWords p0 = some r) : APure Tryd.prog G 133 [.fsl (encL rI p0)] (.bool r) := by
 refine APure_fn (fun N0 => ?_) (by simp)
 refine ACalls_fn tok Tryd.func133 (by kernel_rfl) rfl Tryd.ntmps133 Tryd.results133 rfl ?_
 simp only [argsA, Nat.reduceAdd, hp_next]
 unfold i_areWords at H
 refine AWP_sr tok [] [0] (fun a σ => a = [(0, .fsl (encL rI p0))] ∧ σ = hp E0 [] (N0 + 1)) (fun K hK => ?_) ?_
 ·
  skip
  simp -dsimp -implicitDefEqProofs (maxDischargeDepth := 6)
  exact hK _ _ ⟨rfl, rfl⟩
 rintro a σ ⟨rfl, rfl⟩
 refine AWP_sq [] fun K1 hK1 => ?_
 refine AWP_sr tok [] [5, 6, 7] (fun a σ => a = [(5, .fsl (encL rI p0)), (6, .int .i64 (ilen p0)), (7, .int .i64 0)] ∧ σ = hp E0 [] (N0 + 4)) (fun K hK => ?_) ?_
 ·
  skip
  simp -dsimp -implicitDefEqProofs (maxDischargeDepth := 6)
  exact hK _ _ ⟨rfl, rfl⟩
 rintro a σ ⟨rfl, rfl⟩
 refine AWP_block (AWP_thenB ?_)
 obtain ⟨e1, hse1, H⟩ := bindE H
 refine AWP_lp [5, 6, 7] (fun s a σ => ∃ M1 : Nat, N0 ≤ M1 ∧ a = [(5, .fsl (encL rI p0)), (6, .int .i64 (ilen p0)), (7, .int .i64 s)] ∧ σ = hp E0 [] M1) (fun e x a σ => match e with | .inl s => x = .exit 0 ∧ Rc G 15 N0 (fun a σ => ∃ M2 : Nat, N0 ≤ M2 ∧ a = [] ∧ σ = hp E0 [] M2) (AAct.keep a []) σ | .inr s => x = .ret ∧ ∃ vs, resA T σ a [.tmp 2] = some vs ∧ ∃ d, thawA (fun _ => true) σ d (tupA vs) = .bool s) hse1 ?_ ?_ ?_
 ·
  refine Rc.kp [5, 6, 7] [(5, .fsl (encL rI p0)), (6, .int .i64 (ilen p0)), (7, .int .i64 0)] rfl ?_
  exact Rc.fin (AHeap.Sub.refl _) ⟨N0 + 4, (by omega), rfl, rfl⟩
 ·
  clear H hse1
  rintro s1 fl a σ H ⟨M1, fM1_0, rfl, rfl⟩ K2 O2 hK2 hO2
  unfold i_areWords_L1 at H; dsimp only at H
  refine AWP_sr tok [] [5, 6, 7, 8] (fun a σ => a = [(5, .fsl (encL rI p0)), (6, .int .i64 (ilen p0)), (7, .int .i64 s1), (8, .bool (ilt s1 (ilen p0)))] ∧ σ = hp E0 [] (M1 + 1)) (fun K hK => ?_) ?_
  ·
   skip
   simp -dsimp -implicitDefEqProofs (maxDischargeDepth := 6)
   exact hK _ _ ⟨rfl, rfl⟩
  rintro a σ ⟨rfl, rfl⟩
  refine AWP_sq [5, 6, 7] fun K3 hK3 => ?_
  refine AWP_cond (ilt s1 (ilen p0)) rfl (fun C1 => ?_) (fun C1 => ?_)
  ·
   replace H := ifT C1 H
   refine AWP_skip ?_
   show K3 _ _
   refine keepE (l := [5, 6, 7]) (x := [(5, .fsl (encL rI p0)), (6, .int .i64 (ilen p0)), (7, .int .i64 s1)]) rfl fun a' ha => ?_
   refine hK3 _ _ ?_; rw [ha]
   refine Rc.mk ?_
   refine AWP_sq [5, 6, 7] fun K4 hK4 => ?_
   refine AWP_block (AWP_thenB ?_)
   obtain ⟨v2, hv2, H⟩ := bindE H
   refine AWP_sr tok [] [4, 5, 6, 7] (fun a σ => a = [(4, .int .i64 v2), (5, .fsl (encL rI p0)), (6, .int .i64 (ilen p0)), (7, .int .i64 s1)] ∧ σ = hp E0 [] (M1 + 4)) (fun K hK => ?_) ?_
   ·
    skip
    simp -dsimp -implicitDefEqProofs (maxDischargeDepth := 6) [ix24 hv2]
    exact hK _ _ ⟨rfl, rfl⟩
   rintro a σ ⟨rfl, rfl⟩
   obtain ⟨r3, hr3, H⟩ := bindE H
   refine AWP_sr tok [] [5, 6, 7, 13] (fun a σ => a = [(5, .fsl (encL rI p0)), (6, .int .i64 (ilen p0)), (7, .int .i64 s1), (13, .bool (bnot r3))] ∧ σ = hp E0 [] (M1 + 7)) (fun K hK => ?_) ?_
   ·
    skip
    simp -dsimp -implicitDefEqProofs (maxDischargeDepth := 6)
    refine (c73 hr3).app ?_; try simp -dsimp -implicitDefEqProofs (maxDischargeDepth := 6)
    exact hK _ _ ⟨rfl, rfl⟩
   rintro a σ ⟨rfl, rfl⟩
   refine AWP_cond (bnot r3) rfl (fun C2 => ?_) (fun C2 => ?_)
   ·
    replace H := ifT C2 H
    refine AWP_sr tok [] [2] (fun a σ => a = [(2, .bool false)] ∧ σ = hp E0 [] (M1 + 8)) (fun K hK => ?_) ?_
    ·
     skip
     simp -dsimp -implicitDefEqProofs (maxDischargeDepth := 6)
     exact hK _ _ ⟨rfl, rfl⟩
    rintro a σ ⟨rfl, rfl⟩
    replace H := Option.some.inj H; subst H
    refine AWP_kp [2] [(2, .bool false)] rfl ?_
    refine AWP_ret (hO2 _ _ _ _ rfl ⟨rfl, ?_⟩)
    exact ⟨[.bool false], by simp, 4, by simp [encL_nil]⟩
   ·
    replace H := ifF C2 H
    refine AWP_skip ?_
    show K4 _ _
    refine keepE (l := [5, 6, 7]) (x := [(5, .fsl (encL rI p0)), (6, .int .i64 (ilen p0)), (7, .int .i64 s1)]) rfl fun a' ha => ?_
    refine hK4 _ _ ?_; rw [ha]
    refine Rc.mk ?_
    refine AWP_rt tok [] [5, 6, 7] (fun a σ => a = [(5, .fsl (encL rI p0)), (6, .int .i64 (ilen p0)), (7, .int .i64 (iadd .i64 s1 1))] ∧ σ = hp E0 [] (M1 + 9)) (fun K hK => ?_) ?_
    ·
     skip
     simp -dsimp -implicitDefEqProofs (maxDischargeDepth := 6)
     exact hK _ _ ⟨rfl, rfl⟩
    rintro a σ ⟨ha, rfl⟩
    replace H := Option.some.inj H; subst H
    refine hK2 _ _ _ rfl ?_; rw [ha]
    exact Rc.fin (AHeap.Sub.refl _) ⟨M1 + 9, (by omega), rfl, rfl⟩
  ·
   replace H := ifF C1 H
   replace H := Option.some.inj H; subst H
   refine AWP_exit (hO2 _ _ _ _ rfl ⟨rfl, ?_⟩)
   refine Rc.rw (l := []) (X := []) rfl ?_
   exact Rc.fin (AHeap.Sub.refl _) ⟨M1 + 1, (by omega), rfl, rfl⟩
 ·
  intro x a σ hx
  rcases e1 with ⟨⟩ | r0
  ·
   obtain ⟨rfl, b, τ, hr, M2, fM2_0, rfl, rfl⟩ := hx
   dsimp only at H
   show K1 _ _
   refine hK1 _ _ (Rc_ref hr ?_)
   refine Rc.mk ?_
   refine AWP_sr tok [] [2] (fun a σ => a = [(2, .bool true)] ∧ σ = hp E0 [] (M2 + 1)) (fun K hK => ?_) ?_
   ·
    skip
    simp -dsimp -implicitDefEqProofs (maxDischargeDepth := 6)
    exact hK _ _ ⟨rfl, rfl⟩
   rintro a σ ⟨rfl, rfl⟩
   replace H := Option.some.inj H; subst H
   refine AWP_kp [2] [(2, .bool true)] rfl ?_
   refine AWP_ret ?_
   exact ⟨[.bool true], by simp, 4, by simp [encL_nil]⟩
  ·
   obtain ⟨rfl, hx2⟩ := hx
   dsimp only at H
   replace H := Option.some.inj H; subst H; exact hx2
theorem c78 {p0 : gMachine} {r : Bool} (H : i_MachineValid p0 = some r) : APure Tryd.prog G 78 [.agg [.fsl (encL rI p0.Regs), .int .i64 p0.Pc, .fsl (encL rI p0.Mem)]] (.bool r) := by
 refine APure_fn (fun N0 => ?_) (by simp)
 refine ACalls_fn tok Tryd.func78 (by kernel_rfl) rfl Tryd.ntmps78 Tryd.results78 rfl ?_
 simp only [argsA, Nat.reduceAdd, hp_next]
 unfold i_MachineValid at H
 refine AWP_sr tok [0] [1] (fun a σ => a = [(1, .fptr [.fsl (encL rI p0.Regs), .int .i64 p0.Pc, .fsl (encL rI p0.Mem)] 0)] ∧ σ = hp E0 [] (N0 + 2)) (fun K hK => ?_) ?_
 ·
  skip
  simp -dsimp -implicitDefEqProofs (maxDischargeDepth := 6)
  exact hK _ _ ⟨rfl, rfl⟩
 rintro a σ ⟨rfl, rfl⟩
 obtain ⟨g2, hg2, H⟩ := bindE H
 obtain ⟨g4, hg4, H⟩ := bindE H
 obtain ⟨g6, hg6, H⟩ := bindE H
 obtain ⟨g7, hg7, H⟩ := bindE H
 obtain ⟨g9, hg9, H⟩ := bindE H
 refine AWP_sr tok [] [2] (fun a σ => a = [(2, .bool g9)] ∧ σ = hp E0 [] (N0 + 35)) (fun K hK => ?_) ?_
 ·
  skip
  simp -dsimp -implicitDefEqProofs (maxDischargeDepth := 6)
  cases hbg2 : ieq (ilen p0.Regs) 32
  ·
   replace hg2 := ifF hbg2 hg2
   replace hg2 := Option.some.inj hg2; subst hg2
   try simp -dsimp -implicitDefEqProofs (maxDischargeDepth := 6) [hbg2]
   replace hg4 := ifF rfl hg4
   replace hg4 := Option.some.inj hg4; subst hg4
   try simp -dsimp -implicitDefEqProofs (maxDischargeDepth := 6) [hbg2]
   replace hg6 := ifF rfl hg6
   replace hg6 := Option.some.inj hg6; subst hg6
   try simp -dsimp -implicitDefEqProofs (maxDischargeDepth := 6) [hbg2]
   replace hg7 := ifF rfl hg7
   replace hg7 := Option.some.inj hg7; subst hg7
   try simp -dsimp -implicitDefEqProofs (maxDischargeDepth := 6) [hbg2]
   replace hg9 := ifF rfl hg9
   replace hg9 := Option.some.inj hg9; subst hg9
   try simp -dsimp -implicitDefEqProofs (maxDischargeDepth := 6) [hbg2]
   exact hK _ _ ⟨rfl, rfl⟩
  ·
   replace hg2 := ifT hbg2 hg2
   obtain ⟨r1, hr1, hg2⟩ := bindE hg2
   replace hg2 := Option.some.inj hg2; subst hg2
   try simp -dsimp -implicitDefEqProofs (maxDischargeDepth := 6) [hbg2]
   refine (c133 hr1).app ?_; try simp -dsimp -implicitDefEqProofs (maxDischargeDepth := 6) [hbg2]
   cases hbg4 : r1
   ·
    replace hg4 := ifF hbg4 hg4
    replace hg4 := Option.some.inj hg4; subst hg4
    try simp -dsimp -implicitDefEqProofs (maxDischargeDepth := 6) [hbg2, hbg4]
    replace hg6 := ifF rfl hg6
    replace hg6 := Option.some.inj hg6; subst hg6
    try simp -dsimp -implicitDefEqProofs (maxDischargeDepth := 6) [hbg2, hbg4]
    replace hg7 := ifF rfl hg7
    replace hg7 := Option.some.inj hg7; subst hg7
    try simp -dsimp -implicitDefEqProofs (maxDischargeDepth := 6) [hbg2, hbg4]
    replace hg9 := ifF rfl hg9
    replace hg9 := Option.some.inj hg9; subst hg9
    try simp -dsimp -implicitDefEqProofs (maxDischargeDepth := 6) [hbg2, hbg4]
    exact hK _ _ ⟨rfl, rfl⟩
   ·
    replace hg4 := ifT hbg4 hg4
    obtain ⟨v3, hv3, hg4⟩ := bindE hg4
    replace hg4 := Option.some.inj hg4; subst hg4
    try simp -dsimp -implicitDefEqProofs (maxDischargeDepth := 6) [hbg2, hbg4, ix24 hv3]
    cases hbg6 : (ieq v3 0)
    ·
     replace hg6 := ifF hbg6 hg6
     replace hg6 := Option.some.inj hg6; subst hg6
     try simp -dsimp -implicitDefEqProofs (maxDischargeDepth := 6) [hbg2, hbg4, ix24 hv3, hbg6]
     replace hg7 := ifF rfl hg7
     replace hg7 := Option.some.inj hg7; subst hg7
     try simp -dsimp -implicitDefEqProofs (maxDischargeDepth := 6) [hbg2, hbg4, ix24 hv3, hbg6]
     replace hg9 := ifF rfl hg9
     replace hg9 := Option.some.inj hg9; subst hg9
     try simp -dsimp -implicitDefEqProofs (maxDischargeDepth := 6) [hbg2, hbg4, ix24 hv3, hbg6]
     exact hK _ _ ⟨rfl, rfl⟩
    ·
     replace hg6 := ifT hbg6 hg6
     obtain ⟨r5, hr5, hg6⟩ := bindE hg6
     replace hg6 := Option.some.inj hg6; subst hg6
     try simp -dsimp -implicitDefEqProofs (maxDischargeDepth := 6) [hbg2, hbg4, ix24 hv3, hbg6]
     refine (c73 hr5).app ?_; try simp -dsimp -implicitDefEqProofs (maxDischargeDepth := 6) [hbg2, hbg4, ix24 hv3, hbg6]
     cases hbg7 : r5
     ·
      replace hg7 := ifF hbg7 hg7
      replace hg7 := Option.some.inj hg7; subst hg7
      try simp -dsimp -implicitDefEqProofs (maxDischargeDepth := 6) [hbg2, hbg4, ix24 hv3, hbg6, hbg7]
      replace hg9 := ifF rfl hg9
      replace hg9 := Option.some.inj hg9; subst hg9
      try simp -dsimp -implicitDefEqProofs (maxDischargeDepth := 6) [hbg2, hbg4, ix24 hv3, hbg6, hbg7]
      exact hK _ _ ⟨rfl, rfl⟩
     ·
      replace hg7 := ifT hbg7 hg7
      replace hg7 := Option.some.inj hg7; subst hg7
      try simp -dsimp -implicitDefEqProofs (maxDischargeDepth := 6) [hbg2, hbg4, ix24 hv3, hbg6, hbg7]
      cases hbg9 : (ile (ilen p0.Mem) 10000)
      ·
       replace hg9 := ifF hbg9 hg9
       replace hg9 := Option.some.inj hg9; subst hg9
       try simp -dsimp -implicitDefEqProofs (maxDischargeDepth := 6) [hbg2, hbg4, ix24 hv3, hbg6, hbg7, hbg9]
       exact hK _ _ ⟨rfl, rfl⟩
      ·
       replace hg9 := ifT hbg9 hg9
       obtain ⟨r8, hr8, hg9⟩ := bindE hg9
       replace hg9 := Option.some.inj hg9; subst hg9
       try simp -dsimp -implicitDefEqProofs (maxDischargeDepth := 6) [hbg2, hbg4, ix24 hv3, hbg6, hbg7, hbg9]
       refine (c133 hr8).app ?_; try simp -dsimp -implicitDefEqProofs (maxDischargeDepth := 6) [hbg2, hbg4, ix24 hv3, hbg6, hbg7, hbg9]
       exact hK _ _ ⟨rfl, rfl⟩
 rintro a σ ⟨rfl, rfl⟩
 replace H := Option.some.inj H; subst H
 refine AWP_kp [2] [(2, .bool g9)] rfl ?_
 refine AWP_ret ?_
 exact ⟨[.bool g9], by simp, 4, by simp [encL_nil]⟩
theorem c148 {p0 : gInstrRow} {p1 : Int} {p2 : Int} {r : Bool} (H : i_instrRow_matches p0 p1 p2 = some r) : APure Tryd.prog G 148 [.agg [.str p0.name, .int .i64 p0.opcode, .int .i64 p0.funct3, .int .i64 p0.funct7], .int .i64 p1, .int .i64 p2] (.bool r) := by
 refine APure_fn (fun N0 => ?_) (by simp)
 refine ACalls_fn tok Tryd.func148 (by kernel_rfl) rfl Tryd.ntmps148 Tryd.results148 rfl ?_
 simp only [argsA, Nat.reduceAdd, hp_next]
 unfold i_instrRow_matches at H
 refine AWP_sr tok [0] [1, 2, 3] (fun a σ => a = [(1, .int .i64 p1), (2, .int .i64 p2), (3, .fptr [.str p0.name, .int .i64 p0.opcode, .int .i64 p0.funct3, .int .i64 p0.funct7] 0)] ∧ σ = hp E0 [] (N0 + 2)) (fun K hK => ?_) ?_
 ·
  skip
  simp -dsimp -implicitDefEqProofs (maxDischargeDepth := 6)
  exact hK _ _ ⟨rfl, rfl⟩
 rintro a σ ⟨rfl, rfl⟩
 refine AWP_sq [1, 2, 3] fun K1 hK1 => ?_
 refine AWP_sr tok [] [1, 2, 3, 11] (fun a σ => a = [(1, .int .i64 p1), (2, .int .i64 p2), (3, .fptr [.str p0.name, .int .i64 p0.opcode, .int .i64 p0.funct3, .int .i64 p0.funct7] 0), (11, .bool (ine p0.opcode (iand .i64 p2 127)))] ∧ σ = hp E0 [] (N0 + 7)) (fun K hK => ?_) ?_
 ·
  skip
  simp -dsimp -implicitDefEqProofs (maxDischargeDepth := 6)
  exact hK _ _ ⟨rfl, rfl⟩
 rintro a σ ⟨rfl, rfl⟩
 refine AWP_cond (ine p0.opcode (iand .i64 p2 127)) rfl (fun C1 => ?_) (fun C1 => ?_)
 ·
  replace H := ifT C1 H
  refine AWP_sr tok [] [6] (fun a σ => a = [(6, .bool false)] ∧ σ = hp E0 [] (N0 + 8)) (fun K hK => ?_) ?_
  ·
   skip
   simp -dsimp -implicitDefEqProofs (maxDischargeDepth := 6)
   exact hK _ _ ⟨rfl, rfl⟩
  rintro a σ ⟨rfl, rfl⟩
  replace H := Option.some.inj H; subst H
  refine AWP_kp [6] [(6, .bool false)] rfl ?_
  refine AWP_ret ?_
  exact ⟨[.bool false], by simp, 4, by simp [encL_nil]⟩
 ·
  replace H := ifF C1 H
  refine AWP_skip ?_
  show K1 _ _
  refine keepE (l := [1, 2, 3]) (x := [(1, .int .i64 p1), (2, .int .i64 p2), (3, .fptr [.str p0.name, .int .i64 p0.opcode, .int .i64 p0.funct3, .int .i64 p0.funct7] 0)]) rfl fun a' ha => ?_
  refine hK1 _ _ ?_; rw [ha]
  refine Rc.mk ?_
  refine AWP_sq [] fun K2 hK2 => ?_
  obtain ⟨r1, hr1, H⟩ := bindE H
  refine AWP_sr tok [] [2, 3, 13] (fun a σ => a = [(2, .int .i64 p2), (3, .fptr [.str p0.name, .int .i64 p0.opcode, .int .i64 p0.funct3, .int .i64 p0.funct7] 0), (13, .int .u8 r1)] ∧ σ = hp E0 [] (N0 + 9)) (fun K hK => ?_) ?_
  ·
   skip
   simp -dsimp -implicitDefEqProofs (maxDischargeDepth := 6)
   refine (c86 hr1).app ?_; try simp -dsimp -implicitDefEqProofs (maxDischargeDepth := 6)
   exact hK _ _ ⟨rfl, rfl⟩
  rintro a σ ⟨rfl, rfl⟩
  refine AWP_block (AWP_thenB ?_)
  refine AWP_sr tok [] [2, 3, 13, 14] (fun a σ => a = [(2, .int .i64 p2), (3, .fptr [.str p0.name, .int .i64 p0.opcode, .int .i64 p0.funct3, .int .i64 p0.funct7] 0), (13, .int .u8 r1), (14, .bool (ieq r1 82))] ∧ σ = hp E0 [] (N0 + 11)) (fun K hK => ?_) ?_
  ·
   skip
   simp -dsimp -implicitDefEqProofs (maxDischargeDepth := 6)
   exact hK _ _ ⟨rfl, rfl⟩
  rintro a σ ⟨rfl, rfl⟩
  refine AWP_cond (ieq r1 82) rfl (fun C2 => ?_) (fun C2 => ?_)
  ·
   replace H := ifT C2 H
   obtain ⟨r2, hr2, H⟩ := bindE H
   obtain ⟨g4, hg4, H⟩ := bindE H
   refine AWP_sd tok tokM [] [] [0, 1, 2, 3, 4, 5, 6, 7, 8, 9, 10, 11, 12] [6] (fun a σ => a = [(6, .bool g4)] ∧ σ = hp E0 [] (N0 + 24)) (by decide) (fun K hK => ?_) ?_
   ·
    simp only [pickL, nthO_succ, nthO_zero]
    simp -dsimp -implicitDefEqProofs (maxDischargeDepth := 6)
    refine Pc.mk (c127 hr2) ?_; try simp -dsimp -implicitDefEqProofs (maxDischargeDepth := 6)
    cases hbg4 : ieq p0.funct3 r2
    ·
     replace hg4 := ifF hbg4 hg4
     replace hg4 := Option.some.inj hg4; subst hg4
     try simp -dsimp -implicitDefEqProofs (maxDischargeDepth := 6) [hbg4]
     exact hK _ _ ⟨rfl, rfl⟩
    ·
     replace hg4 := ifT hbg4 hg4
     obtain ⟨r3, hr3, hg4⟩ := bindE hg4
     replace hg4 := Option.some.inj hg4; subst hg4
     try simp -dsimp -implicitDefEqProofs (maxDischargeDepth := 6) [hbg4]
     refine Pc.mk (c127 hr3) ?_; try simp -dsimp -implicitDefEqProofs (maxDischargeDepth := 6) [hbg4]
     exact hK _ _ ⟨rfl, rfl⟩
   rintro a σ ⟨rfl, rfl⟩
   replace H := Option.some.inj H; subst H
   refine AWP_kp [6] [(6, .bool g4)] rfl ?_
   refine AWP_ret ?_
   exact ⟨[.bool g4], by simp, 4, by simp [encL_nil]⟩
  ·
   replace H := ifF C2 H
   obtain ⟨j1, hj1, H⟩ := bindE H
   refine AWP_seq (AWP_named fun K3 hK3 => ?_)
   have hJ1 : ∀ a σ, Rc G 37 N0 (fun a σ => ∃ M1 : Nat, N0 ≤ M1 ∧ a = [(2, .int .i64 p2), (3, .fptr [.str p0.name, .int .i64 p0.opcode, .int .i64 p0.funct3, .int .i64 p0.funct7] 0), (28, .bool j1)] ∧ σ = hp E0 [] M1) (a.keep [2, 3, 28]) σ → K3 a σ := by
    rintro a σ ⟨b, τ, hr, M1, fM1_0, rfl, rfl⟩
    refine hK3 _ _ (AWP_keep [2, 3, 28] (AWP_ref hr ?_))
    refine AWP_cond j1 rfl (fun C3 => ?_) (fun C3 => ?_)
    ·
     replace H := ifT C3 H
     obtain ⟨r6, hr6, H⟩ := bindE H
     refine AWP_sd tok tokM [] [] [0, 1, 2, 3, 4, 5] [6] (fun a σ => a = [(6, .bool (ieq p0.funct3 r6))] ∧ σ = hp E0 [] (M1 + 6)) (by decide) (fun K hK => ?_) ?_
     ·
      simp only [pickL, nthO_succ, nthO_zero]
      simp -dsimp -implicitDefEqProofs (maxDischargeDepth := 6)
      refine Pc.mk (c127 hr6) ?_; try simp -dsimp -implicitDefEqProofs (maxDischargeDepth := 6)
      exact hK _ _ ⟨rfl, rfl⟩
     rintro a σ ⟨rfl, rfl⟩
     replace H := Option.some.inj H; subst H
     refine AWP_kp [6] [(6, .bool (ieq p0.funct3 r6))] rfl ?_
     refine AWP_ret ?_
     exact ⟨[.bool (ieq p0.funct3 r6)], by simp, 4, by simp [encL_nil]⟩
    ·
     replace H := ifF C3 H
     refine AWP_skip ?_
     show K2 _ _
     refine keepE (l := []) (x := []) rfl fun a' ha => ?_
     refine hK2 _ _ ?_; rw [ha]
     refine Rc.mk ?_
     refine AWP_sr tok [] [6] (fun a σ => a = [(6, .bool true)] ∧ σ = hp E0 [] (M1 + 1)) (fun K hK => ?_) ?_
     ·
      skip
      simp -dsimp -implicitDefEqProofs (maxDischargeDepth := 6)
      exact hK _ _ ⟨rfl, rfl⟩
     rintro a σ ⟨rfl, rfl⟩
     replace H := Option.some.inj H; subst H
     refine AWP_kp [6] [(6, .bool true)] rfl ?_
     refine AWP_ret ?_
     exact ⟨[.bool true], by simp, 4, by simp [encL_nil]⟩
   replace H := hj1
   refine AWP_sr tok [] [2, 3, 13, 28] (fun a σ => a = [(2, .int .i64 p2), (3, .fptr [.str p0.name, .int .i64 p0.opcode, .int .i64 p0.funct3, .int .i64 p0.funct7] 0), (13, .int .u8 r1), (28, .bool (ieq r1 73))] ∧ σ = hp E0 [] (N0 + 13)) (fun K hK => ?_) ?_
   ·
    skip
    simp -dsimp -implicitDefEqProofs (maxDischargeDepth := 6)
    exact hK _ _ ⟨rfl, rfl⟩
   rintro a σ ⟨rfl, rfl⟩
   refine AWP_cond (ieq r1 73) rfl (fun C4 => ?_) (fun C4 => ?_)
   ·
    replace H := ifT C4 H
    refine AWP_skip ?_
    show K3 _ _
    refine keepE (l := [2, 3, 28]) (x := [(2, .int .i64 p2), (3, .fptr [.str p0.name, .int .i64 p0.opcode, .int .i64 p0.funct3, .int .i64 p0.funct7] 0), (28, .bool (ieq r1 73))]) rfl fun a' ha => ?_
    replace H := Option.some.inj H; subst H
    refine hJ1 _ _ ?_; rw [ha]
    exact Rc.fin (AHeap.Sub.refl _) ⟨N0 + 13, (by omega), rfl, rfl⟩
   ·
    replace H := ifF C4 H
    refine AWP_sr tok [] [2, 3, 13, 28] (fun a σ => a = [(2, .int .i64 p2), (3, .fptr [.str p0.name, .int .i64 p0.opcode, .int .i64 p0.funct3, .int .i64 p0.funct7] 0), (13, .int .u8 r1), (28, .bool (ieq r1 83))] ∧ σ = hp E0 [] (N0 + 15)) (fun K hK => ?_) ?_
    ·
     skip
     simp -dsimp -implicitDefEqProofs (maxDischargeDepth := 6)
     exact hK _ _ ⟨rfl, rfl⟩
    rintro a σ ⟨rfl, rfl⟩
    refine AWP_cond (ieq r1 83) rfl (fun C5 => ?_) (fun C5 => ?_)
    ·
     replace H := ifT C5 H
     refine AWP_skip ?_
     show K3 _ _
     refine keepE (l := [2, 3, 28]) (x := [(2, .int .i64 p2), (3, .fptr [.str p0.name, .int .i64 p0.opcode, .int .i64 p0.funct3, .int .i64 p0.funct7] 0), (28, .bool (ieq r1 83))]) rfl fun a' ha => ?_
     replace H := Option.some.inj H; subst H
     refine hJ1 _ _ ?_; rw [ha]
     exact Rc.fin (AHeap.Sub.refl _) ⟨N0 + 15, (by omega), rfl, rfl⟩
    ·
     replace H := ifF C5 H
     refine AWP_rt tok [] [2, 3, 28] (fun a σ => a = [(2, .int .i64 p2), (3, .fptr [.str p0.name, .int .i64 p0.opcode, .int .i64 p0.funct3, .int .i64 p0.funct7] 0), (28, .bool (ieq r1 66))] ∧ σ = hp E0 [] (N0 + 17)) (fun K hK => ?_) ?_
     ·
      skip
      simp -dsimp -implicitDefEqProofs (maxDischargeDepth := 6)
      exact hK _ _ ⟨rfl, rfl⟩
     rintro a σ ⟨ha, rfl⟩
     replace H := Option.some.inj H; subst H
     refine hJ1 _ _ ?_; rw [ha]
     exact Rc.fin (AHeap.Sub.refl _) ⟨N0 + 17, (by omega), rfl, rfl⟩
theorem c149 {p0 : Int} {p1 : Int} {r : gInstr} (H : i_decodeAs p0 p1 = some r) : APure Tryd.prog G 149 [.int .i64 p0, .int .i64 p1] (.agg [.int .i64 r.Op, .int .i64 r.Rd, .int .i64 r.Rs, .int .i64 r.Rt, .int .i64 r.Imm]) := by
 refine APure_fn (fun N0 => ?_) (by simp)
 refine ACalls_fn tok Tryd.func149 (by kernel_rfl) rfl Tryd.ntmps149 Tryd.results149 rfl ?_
 simp only [argsA, Nat.reduceAdd, hp_next]
 unfold i_decodeAs at H
 refine AWP_sr tok [] [0, 1, 4] (fun a σ => a = [(0, .int .i64 p0), (1, .int .i64 p1), (4, .ptr N0 0 0)] ∧ σ = hp E0 [(N0, some ⟨47, 5, [[.int .i64 0, .int .i64 0, .int .i64 0, .int .i64 0, .int .i64 0]]⟩)] (N0 + 1)) (fun K hK => ?_) ?_
 ·
  skip
  simp -dsimp -implicitDefEqProofs (maxDischargeDepth := 6)
  exact hK _ _ ⟨rfl, rfl⟩
 rintro a σ ⟨rfl, rfl⟩
 obtain ⟨r1, hr1, H⟩ := bindE H
 obtain ⟨r2, hr2, H⟩ := bindE H
 obtain ⟨r3, hr3, H⟩ := bindE H
 refine AWP_sr tok [] [0, 1, 4, 5, 6, 7] (fun a σ => a = [(0, .int .i64 p0), (1, .int .i64 p1), (4, .ptr N0 0 0), (5, .int .i64 r1), (6, .int .i64 r2), (7, .int .i64 r3)] ∧ σ = hp E0 [(N0, some ⟨47, 5, [[.int .i64 0, .int .i64 0, .int .i64 0, .int .i64 0, .int .i64 0]]⟩)] (N0 + 10)) (fun K hK => ?_) ?_
 ·
  skip
  simp -dsimp -implicitDefEqProofs (maxDischargeDepth := 6)
  refine (c127 hr1).app ?_; try simp -dsimp -implicitDefEqProofs (maxDischargeDepth := 6)
  refine (c127 hr2).app ?_; try simp -dsimp -implicitDefEqProofs (maxDischargeDepth := 6)
  refine (c127 hr3).app ?_; try simp -dsimp -implicitDefEqProofs (maxDischargeDepth := 6)
  exact hK _ _ ⟨rfl, rfl⟩
 rintro a σ ⟨rfl, rfl⟩
 refine AWP_sq [0, 4] fun K1 hK1 => ?_
 obtain ⟨r4, hr4, H⟩ := bindE H
 refine AWP_sr tok [] [0, 1, 4, 5, 6, 7, 17] (fun a σ => a = [(0, .int .i64 p0), (1, .int .i64 p1), (4, .ptr N0 0 0), (5, .int .i64 r1), (6, .int .i64 r2), (7, .int .i64 r3), (17, .int .u8 r4)] ∧ σ = hp E0 [(N0, some ⟨47, 5, [[.int .i64 0, .int .i64 0, .int .i64 0, .int .i64 0, .int .i64 0]]⟩)] (N0 + 12)) (fun K hK => ?_) ?_
 ·
  skip
  simp -dsimp -implicitDefEqProofs (maxDischargeDepth := 6)
  refine (c86 hr4).app ?_; try simp -dsimp -implicitDefEqProofs (maxDischargeDepth := 6)
  exact hK _ _ ⟨rfl, rfl⟩
 rintro a σ ⟨rfl, rfl⟩
 refine AWP_block (AWP_thenB ?_)
 refine AWP_sr tok [] [0, 1, 4, 5, 6, 7, 17, 18] (fun a σ => a = [(0, .int .i64 p0), (1, .int .i64 p1), (4, .ptr N0 0 0), (5, .int .i64 r1), (6, .int .i64 r2), (7, .int .i64 r3), (17, .int .u8 r4), (18, .bool (ieq r4 82))] ∧ σ = hp E0 [(N0, some ⟨47, 5, [[.int .i64 0, .int .i64 0, .int .i64 0, .int .i64 0, .int .i64 0]]⟩)] (N0 + 14)) (fun K hK => ?_) ?_
 ·
  skip
  simp -dsimp -implicitDefEqProofs (maxDischargeDepth := 6)
  exact hK _ _ ⟨rfl, rfl⟩
 rintro a σ ⟨rfl, rfl⟩
 refine AWP_cond (ieq r4 82) rfl (fun C1 => ?_) (fun C1 => ?_)
 ·
  replace H := ifT C1 H
  refine AWP_sr tok [] [4] (fun a σ => a = [(4, .ptr N0 0 0)] ∧ σ = hp E0 [(N0, some ⟨47, 5, [[.int .i64 p0, .int .i64 r1, .int .i64 r2, .int .i64 r3, .int .i64 0]]⟩)] (N0 + 20)) (fun K hK => ?_) ?_
  ·
   skip
   simp -dsimp -implicitDefEqProofs (maxDischargeDepth := 6)
   exact hK _ _ ⟨rfl, rfl⟩
  rintro a σ ⟨rfl, rfl⟩
  replace H := Option.some.inj H; subst H
  refine AWP_kp [4] [(4, .ptr N0 0 0)] rfl ?_
  refine AWP_ret ?_
  exact ⟨[.agg [.int .i64 p0, .int .i64 r1, .int .i64 r2, .int .i64 r3, .int .i64 0]], by simp, 4, by simp [encL_nil]⟩
 ·
  replace H := ifF C1 H
  refine AWP_sr tok [] [0, 1, 4, 5, 6, 7, 17, 25] (fun a σ => a = [(0, .int .i64 p0), (1, .int .i64 p1), (4, .ptr N0 0 0), (5, .int .i64 r1), (6, .int .i64 r2), (7, .int .i64 r3), (17, .int .u8 r4), (25, .bool (ieq r4 73))] ∧ σ = hp E0 [(N0, some ⟨47, 5, [[.int .i64 0, .int .i64 0, .int .i64 0, .int .i64 0, .int .i64 0]]⟩)] (N0 + 16)) (fun K hK => ?_) ?_
  ·
   skip
   simp -dsimp -implicitDefEqProofs (maxDischargeDepth := 6)
   exact hK _ _ ⟨rfl, rfl⟩
  rintro a σ ⟨rfl, rfl⟩
  refine AWP_cond (ieq r4 73) rfl (fun C2 => ?_) (fun C2 => ?_)
  ·
   replace H := ifT C2 H
   obtain ⟨r5, hr5, H⟩ := bindE H
   obtain ⟨r6, hr6, H⟩ := bindE H
   refine AWP_sr tok [] [4] (fun a σ => a = [(4, .ptr N0 0 0)] ∧ σ = hp E0 [(N0, some ⟨47, 5, [[.int .i64 p0, .int .i64 r1, .int .i64 r2, .int .i64 0, .int .i64 r6]]⟩)] (N0 + 24)) (fun K hK => ?_) ?_
   ·
    skip
    simp -dsimp -implicitDefEqProofs (maxDischargeDepth := 6)
    refine (c127 hr5).app ?_; try simp -dsimp -implicitDefEqProofs (maxDischargeDepth := 6)
    refine (c126 hr6).app ?_; try simp -dsimp -implicitDefEqProofs (maxDischargeDepth := 6)
    exact hK _ _ ⟨rfl, rfl⟩
   rintro a σ ⟨rfl, rfl⟩
   replace H := Option.some.inj H; subst H
   refine AWP_kp [4] [(4, .ptr N0 0 0)] rfl ?_
   refine AWP_ret ?_
   exact ⟨[.agg [.int .i64 p0, .int .i64 r1, .int .i64 r2, .int .i64 0, .int .i64 r6]], by simp, 4, by simp [encL_nil]⟩
  ·
   replace H := ifF C2 H
   refine AWP_sr tok [] [0, 1, 4, 5, 6, 7, 17, 34] (fun a σ => a = [(0, .int .i64 p0), (1, .int .i64 p1), (4, .ptr N0 0 0), (5, .int .i64 r1), (6, .int .i64 r2), (7, .int .i64 r3), (17, .int .u8 r4), (34, .bool (ieq r4 83))] ∧ σ = hp E0 [(N0, some ⟨47, 5, [[.int .i64 0, .int .i64 0, .int .i64 0, .int .i64 0, .int .i64 0]]⟩)] (N0 + 18)) (fun K hK => ?_) ?_
   ·
    skip
    simp -dsimp -implicitDefEqProofs (maxDischargeDepth := 6)
    exact hK _ _ ⟨rfl, rfl⟩
   rintro a σ ⟨rfl, rfl⟩
   refine AWP_cond (ieq r4 83) rfl (fun C3 => ?_) (fun C3 => ?_)
   ·
    replace H := ifT C3 H
    obtain ⟨r7, hr7, H⟩ := bindE H
    obtain ⟨v8, hv8, H⟩ := bindE H
    obtain ⟨r9, hr9, H⟩ := bindE H
    refine AWP_sr tok [] [4] (fun a σ => a = [(4, .ptr N0 0 0)] ∧ σ = hp E0 [(N0, some ⟨47, 5, [[.int .i64 p0, .int .i64 0, .int .i64 r2, .int .i64 r3, .int .i64 r9]]⟩)] (N0 + 29)) (fun K hK => ?_) ?_
    ·
     skip
     simp -dsimp -implicitDefEqProofs (maxDischargeDepth := 6) [hv8]
     refine (c127 hr7).app ?_; try simp -dsimp -implicitDefEqProofs (maxDischargeDepth := 6) [hv8]
     refine (c126 hr9).app ?_; try simp -dsimp -implicitDefEqProofs (maxDischargeDepth := 6) [hv8]
     exact hK _ _ ⟨rfl, rfl⟩
    rintro a σ ⟨rfl, rfl⟩
    replace H := Option.some.inj H; subst H
    refine AWP_kp [4] [(4, .ptr N0 0 0)] rfl ?_
    refine AWP_ret ?_
    exact ⟨[.agg [.int .i64 p0, .int .i64 0, .int .i64 r2, .int .i64 r3, .int .i64 r9]], by simp, 4, by simp [encL_nil]⟩
   ·
    replace H := ifF C3 H
    refine AWP_sr tok [] [0, 1, 4, 5, 6, 7, 17, 46] (fun a σ => a = [(0, .int .i64 p0), (1, .int .i64 p1), (4, .ptr N0 0 0), (5, .int .i64 r1), (6, .int .i64 r2), (7, .int .i64 r3), (17, .int .u8 r4), (46, .bool (ieq r4 66))] ∧ σ = hp E0 [(N0, some ⟨47, 5, [[.int .i64 0, .int .i64 0, .int .i64 0, .int .i64 0, .int .i64 0]]⟩)] (N0 + 20)) (fun K hK => ?_) ?_
    ·
     skip
     simp -dsimp -implicitDefEqProofs (maxDischargeDepth := 6)
     exact hK _ _ ⟨rfl, rfl⟩
    rintro a σ ⟨rfl, rfl⟩
    refine AWP_cond (ieq r4 66) rfl (fun C4 => ?_) (fun C4 => ?_)
    ·
     replace H := ifT C4 H
     obtain ⟨r10, hr10, H⟩ := bindE H
     obtain ⟨v11, hv11, H⟩ := bindE H
     obtain ⟨r12, hr12, H⟩ := bindE H
     obtain ⟨v13, hv13, H⟩ := bindE H
     obtain ⟨r14, hr14, H⟩ := bindE H
     obtain ⟨v15, hv15, H⟩ := bindE H
     obtain ⟨r16, hr16, H⟩ := bindE H
     obtain ⟨v17, hv17, H⟩ := bindE H
     refine AWP_sr tok [] [0, 4, 6, 7, 8] (fun a σ => a = [(0, .int .i64 p0), (4, .ptr N0 0 0), (6, .int .i64 r2), (7, .int .i64 r3), (8, .int .i64 (ior .i64 (ior .i64 (ior .i64 v11 v13) v15) v17))] ∧ σ = hp E0 [(N0, some ⟨47, 5, [[.int .i64 0, .int .i64 0, .int .i64 0, .int .i64 0, .int .i64 0]]⟩)] (N0 + 36)) (fun K hK => ?_) ?_
     ·
      skip
      simp -dsimp -implicitDefEqProofs (maxDischargeDepth := 6) [hv11, hv13, hv15, hv17]
      refine (c127 hr10).app ?_; try simp -dsimp -implicitDefEqProofs (maxDischargeDepth := 6) [hv11, hv13, hv15, hv17]
      refine (c127 hr12).app ?_; try simp -dsimp -implicitDefEqProofs (maxDischargeDepth := 6) [hv11, hv13, hv15, hv17]
      refine (c127 hr14).app ?_; try simp -dsimp -implicitDefEqProofs (maxDischargeDepth := 6) [hv11, hv13, hv15, hv17]
      refine (c127 hr16).app ?_; try simp -dsimp -implicitDefEqProofs (maxDischargeDepth := 6) [hv11, hv13, hv15, hv17]
      exact hK _ _ ⟨rfl, rfl⟩
     rintro a σ ⟨rfl, rfl⟩
     obtain ⟨r18, hr18, H⟩ := bindE H
     refine AWP_sr tok [] [4] (fun a σ => a = [(4, .ptr N0 0 0)] ∧ σ = hp E0 [(N0, some ⟨47, 5, [[.int .i64 p0, .int .i64 0, .int .i64 r2, .int .i64 r3, .int .i64 r18]]⟩)] (N0 + 43)) (fun K hK => ?_) ?_
     ·
      skip
      simp -dsimp -implicitDefEqProofs (maxDischargeDepth := 6)
      refine (c126 hr18).app ?_; try simp -dsimp -implicitDefEqProofs (maxDischargeDepth := 6)
      exact hK _ _ ⟨rfl, rfl⟩
     rintro a σ ⟨rfl, rfl⟩
     replace H := Option.some.inj H; subst H
     refine AWP_kp [4] [(4, .ptr N0 0 0)] rfl ?_
     refine AWP_ret ?_
     exact ⟨[.agg [.int .i64 p0, .int .i64 0, .int .i64 r2, .int .i64 r3, .int .i64 r18]], by simp, 4, by simp [encL_nil]⟩
    ·
     replace H := ifF C4 H
     refine AWP_sr tok [] [0, 1, 4, 5, 17, 69] (fun a σ => a = [(0, .int .i64 p0), (1, .int .i64 p1), (4, .ptr N0 0 0), (5, .int .i64 r1), (17, .int .u8 r4), (69, .bool (ieq r4 85))] ∧ σ = hp E0 [(N0, some ⟨47, 5, [[.int .i64 0, .int .i64 0, .int .i64 0, .int .i64 0, .int .i64 0]]⟩)] (N0 + 22)) (fun K hK => ?_) ?_
     ·
      skip
      simp -dsimp -implicitDefEqProofs (maxDischargeDepth := 6)
      exact hK _ _ ⟨rfl, rfl⟩
     rintro a σ ⟨rfl, rfl⟩
     refine AWP_cond (ieq r4 85) rfl (fun C5 => ?_) (fun C5 => ?_)
     ·
      replace H := ifT C5 H
      obtain ⟨r19, hr19, H⟩ := bindE H
      refine AWP_sr tok [] [4] (fun a σ => a = [(4, .ptr N0 0 0)] ∧ σ = hp E0 [(N0, some ⟨47, 5, [[.int .i64 p0, .int .i64 r1, .int .i64 0, .int .i64 0, .int .i64 r19]]⟩)] (N0 + 28)) (fun K hK => ?_) ?_
      ·
       skip
       simp -dsimp -implicitDefEqProofs (maxDischargeDepth := 6)
       refine (c127 hr19).app ?_; try simp -dsimp -implicitDefEqProofs (maxDischargeDepth := 6)
       exact hK _ _ ⟨rfl, rfl⟩
      rintro a σ ⟨rfl, rfl⟩
      replace H := Option.some.inj H; subst H
      refine AWP_kp [4] [(4, .ptr N0 0 0)] rfl ?_
      refine AWP_ret ?_
      exact ⟨[.agg [.int .i64 p0, .int .i64 r1, .int .i64 0, .int .i64 0, .int .i64 r19]], by simp, 4, by simp [encL_nil]⟩
     ·
      replace H := ifF C5 H
      refine AWP_sr tok [] [0, 1, 4, 5, 76] (fun a σ => a = [(0, .int .i64 p0), (1, .int .i64 p1), (4, .ptr N0 0 0), (5, .int .i64 r1), (76, .bool (ieq r4 74))] ∧ σ = hp E0 [(N0, some ⟨47, 5, [[.int .i64 0, .int .i64 0, .int .i64 0, .int .i64 0, .int .i64 0]]⟩)] (N0 + 24)) (fun K hK => ?_) ?_
      ·
       skip
       simp -dsimp -implicitDefEqProofs (maxDischargeDepth := 6)
       exact hK _ _ ⟨rfl, rfl⟩
      rintro a σ ⟨rfl, rfl⟩
      refine AWP_cond (ieq r4 74) rfl (fun C6 => ?_) (fun C6 => ?_)
      ·
       replace H := ifT C6 H
       obtain ⟨r20, hr20, H⟩ := bindE H
       obtain ⟨v21, hv21, H⟩ := bindE H
       obtain ⟨r22, hr22, H⟩ := bindE H
       obtain ⟨v23, hv23, H⟩ := bindE H
       obtain ⟨r24, hr24, H⟩ := bindE H
       obtain ⟨v25, hv25, H⟩ := bindE H
       obtain ⟨r26, hr26, H⟩ := bindE H
       obtain ⟨v27, hv27, H⟩ := bindE H
       refine AWP_sr tok [] [0, 4, 5, 9] (fun a σ => a = [(0, .int .i64 p0), (4, .ptr N0 0 0), (5, .int .i64 r1), (9, .int .i64 (ior .i64 (ior .i64 (ior .i64 v21 v23) v25) v27))] ∧ σ = hp E0 [(N0, some ⟨47, 5, [[.int .i64 0, .int .i64 0, .int .i64 0, .int .i64 0, .int .i64 0]]⟩)] (N0 + 40)) (fun K hK => ?_) ?_
       ·
        skip
        simp -dsimp -implicitDefEqProofs (maxDischargeDepth := 6) [hv21, hv23, hv25, hv27]
        refine (c127 hr20).app ?_; try simp -dsimp -implicitDefEqProofs (maxDischargeDepth := 6) [hv21, hv23, hv25, hv27]
        refine (c127 hr22).app ?_; try simp -dsimp -implicitDefEqProofs (maxDischargeDepth := 6) [hv21, hv23, hv25, hv27]
        refine (c127 hr24).app ?_; try simp -dsimp -implicitDefEqProofs (maxDischargeDepth := 6) [hv21, hv23, hv25, hv27]
        refine (c127 hr26).app ?_; try simp -dsimp -implicitDefEqProofs (maxDischargeDepth := 6) [hv21, hv23, hv25, hv27]
        exact hK _ _ ⟨rfl, rfl⟩
       rintro a σ ⟨rfl, rfl⟩
       obtain ⟨r28, hr28, H⟩ := bindE H
       refine AWP_sr tok [] [4] (fun a σ => a = [(4, .ptr N0 0 0)] ∧ σ = hp E0 [(N0, some ⟨47, 5, [[.int .i64 p0, .int .i64 r1, .int .i64 0, .int .i64 0, .int .i64 r28]]⟩)] (N0 + 46)) (fun K hK => ?_) ?_
       ·
        skip
        simp -dsimp -implicitDefEqProofs (maxDischargeDepth := 6)
        refine (c126 hr28).app ?_; try simp -dsimp -implicitDefEqProofs (maxDischargeDepth := 6)
        exact hK _ _ ⟨rfl, rfl⟩
       rintro a σ ⟨rfl, rfl⟩
       replace H := Option.some.inj H; subst H
       refine AWP_kp [4] [(4, .ptr N0 0 0)] rfl ?_
       refine AWP_ret ?_
       exact ⟨[.agg [.int .i64 p0, .int .i64 r1, .int .i64 0, .int .i64 0, .int .i64 r28]], by simp, 4, by simp [encL_nil]⟩
      ·
       replace H := ifF C6 H
       refine AWP_skip ?_
       show K1 _ _
       refine keepE (l := [0, 4]) (x := [(0, .int .i64 p0), (4, .ptr N0 0 0)]) rfl fun a' ha => ?_
       refine hK1 _ _ ?_; rw [ha]
       refine Rc.mk ?_
       refine AWP_sr tok [] [4] (fun a σ => a = [(4, .ptr N0 0 0)] ∧ σ = hp E0 [(N0, some ⟨47, 5, [[.int .i64 p0, .int .i64 0, .int .i64 0, .int .i64 0, .int .i64 0]]⟩)] (N0 + 27)) (fun K hK => ?_) ?_
       ·
        skip
        simp -dsimp -implicitDefEqProofs (maxDischargeDepth := 6)
        exact hK _ _ ⟨rfl, rfl⟩
       rintro a σ ⟨rfl, rfl⟩
       replace H := Option.some.inj H; subst H
       refine AWP_kp [4] [(4, .ptr N0 0 0)] rfl ?_
       refine AWP_ret ?_
       exact ⟨[.agg [.int .i64 p0, .int .i64 0, .int .i64 0, .int .i64 0, .int .i64 0]], by simp, 4, by simp [encL_nil]⟩
theorem c136 {p0 : Int} {r : gInstr × Bool} (H : i_InstrDecode p0 = some r) : APure Tryd.prog G 136 [.int .i64 p0] (.tup [.agg [.int .i64 r.1.Op, .int .i64 r.1.Rd, .int .i64 r.1.Rs, .int .i64 r.1.Rt, .int .i64 r.1.Imm], .bool r.2]) := by
 refine APure_fn (fun N0 => ?_) (by simp)
 refine ACalls_fn tok Tryd.func136 (by kernel_rfl) rfl Tryd.ntmps136 Tryd.results136 rfl ?_
 simp only [argsA, Nat.reduceAdd, hp_next]
 unfold i_InstrDecode at H
 refine AWP_sr tok [] [0, 2] (fun a σ => a = [(0, .int .i64 p0), (2, .ptr N0 0 0)] ∧ σ = hp E0 [(N0, some ⟨47, 5, [[.int .i64 0, .int .i64 0, .int .i64 0, .int .i64 0, .int .i64 0]]⟩)] (N0 + 2)) (fun K hK => ?_) ?_
 ·
  skip
  simp -dsimp -implicitDefEqProofs (maxDischargeDepth := 6)
  exact hK _ _ ⟨rfl, rfl⟩
 rintro a σ ⟨rfl, rfl⟩
 refine AWP_sq [0, 2] fun K1 hK1 => ?_
 obtain ⟨r1, hr1, H⟩ := bindE H
 refine AWP_sr tok [] [0, 2, 10] (fun a σ => a = [(0, .int .i64 p0), (2, .ptr N0 0 0), (10, .bool (bnot r1))] ∧ σ = hp E0 [(N0, some ⟨47, 5, [[.int .i64 0, .int .i64 0, .int .i64 0, .int .i64 0, .int .i64 0]]⟩)] (N0 + 5)) (fun K hK => ?_) ?_
 ·
  skip
  simp -dsimp -implicitDefEqProofs (maxDischargeDepth := 6)
  refine (c146 hr1).app ?_; try simp -dsimp -implicitDefEqProofs (maxDischargeDepth := 6)
  exact hK _ _ ⟨rfl, rfl⟩
 rintro a σ ⟨rfl, rfl⟩
 refine AWP_cond (bnot r1) rfl (fun C1 => ?_) (fun C1 => ?_)
 ·
  replace H := ifT C1 H
  refine AWP_sr tok [] [2, 3] (fun a σ => a = [(2, .ptr N0 0 0), (3, .bool false)] ∧ σ = hp E0 [(N0, some ⟨47, 5, [[.int .i64 0, .int .i64 0, .int .i64 0, .int .i64 0, .int .i64 0]]⟩)] (N0 + 8)) (fun K hK => ?_) ?_
  ·
   skip
   simp -dsimp -implicitDefEqProofs (maxDischargeDepth := 6)
   exact hK _ _ ⟨rfl, rfl⟩
  rintro a σ ⟨rfl, rfl⟩
  replace H := Option.some.inj H; subst H
  refine AWP_kp [2, 3] [(2, .ptr N0 0 0), (3, .bool false)] rfl ?_
  refine AWP_ret ?_
  exact ⟨[.agg [.int .i64 0, .int .i64 0, .int .i64 0, .int .i64 0, .int .i64 0], .bool false], by simp, 4, by simp [encL_nil]⟩
 ·
  replace H := ifF C1 H
  refine AWP_skip ?_
  show K1 _ _
  refine keepE (l := [0, 2]) (x := [(0, .int .i64 p0), (2, .ptr N0 0 0)]) rfl fun a' ha => ?_
  refine hK1 _ _ ?_; rw [ha]
  refine Rc.mk ?_
  refine AWP_sq [2] fun K2 hK2 => ?_
  refine AWP_sr tok [] [0, 2, 4] (fun a σ => a = [(0, .int .i64 p0), (2, .ptr N0 0 0), (4, .int .i64 1)] ∧ σ = hp E0 [(N0, some ⟨47, 5, [[.int .i64 0, .int .i64 0, .int .i64 0, .int .i64 0, .int .i64 0]]⟩)] (N0 + 6)) (fun K hK => ?_) ?_
  ·
   skip
   simp -dsimp -implicitDefEqProofs (maxDischargeDepth := 6)
   exact hK _ _ ⟨rfl, rfl⟩
  rintro a σ ⟨rfl, rfl⟩
  refine AWP_block (AWP_thenB ?_)
  obtain ⟨e1, hse1, H⟩ := bindE H
  refine AWP_lp [0, 2, 4] (fun s a σ => ∃ M1 o1 : Nat, N0 ≤ M1 ∧ N0 ≤ o1 ∧ o1 < M1 ∧ a = [(0, .int .i64 p0), (2, .ptr o1 0 0), (4, .int .i64 s.1)] ∧ σ = hp E0 [(o1, some ⟨47, 5, [[.int .i64 s.2.Op, .int .i64 s.2.Rd, .int .i64 s.2.Rs, .int .i64 s.2.Rt, .int .i64 s.2.Imm]]⟩)] M1) (fun e x a σ => match e with | .inl s => x = .exit 0 ∧ Rc G 40 N0 (fun a σ => ∃ M2 o2 : Nat, N0 ≤ M2 ∧ N0 ≤ o2 ∧ o2 < M2 ∧ a = [(2, .ptr o2 0 0)] ∧ σ = hp E0 [(o2, some ⟨47, 5, [[.int .i64 s.Op, .int .i64 s.Rd, .int .i64 s.Rs, .int .i64 s.Rt, .int .i64 s.Imm]]⟩)] M2) (AAct.keep a [2]) σ | .inr s => x = .ret ∧ ∃ vs, resA T σ a [.cell 2 47, .tmp 3] = some vs ∧ ∃ d, thawA (fun _ => true) σ d (tupA vs) = .tup [.agg [.int .i64 s.1.Op, .int .i64 s.1.Rd, .int .i64 s.1.Rs, .int .i64 s.1.Rt, .int .i64 s.1.Imm], .bool s.2]) hse1 ?_ ?_ ?_
  ·
   refine Rc.kp [0, 2, 4] [(0, .int .i64 p0), (2, .ptr N0 0 0), (4, .int .i64 1)] rfl ?_
   exact Rc.fin (AHeap.Sub.refl _) ⟨N0 + 6, N0, (by omega), (by omega), (by omega), rfl, rfl⟩
  ·
   clear H hse1
   rintro ⟨s2, s3⟩ fl a σ H ⟨M1, o1, fM1_0, fM1_1, fM1_2, rfl, rfl⟩ K3 O3 hK3 hO3
   unfold i_InstrDecode_L1 at H; dsimp only at H
   refine AWP_sq [0, 2, 4] fun K4 hK4 => ?_
   refine AWP_sr tok [] [0, 2, 4, 13] (fun a σ => a = [(0, .int .i64 p0), (2, .ptr o1 0 0), (4, .int .i64 s2), (13, .bool (ile s2 21))] ∧ σ = hp E0 [(o1, some ⟨47, 5, [[.int .i64 s3.Op, .int .i64 s3.Rd, .int .i64 s3.Rs, .int .i64 s3.Rt, .int .i64 s3.Imm]]⟩)] (M1 + 2)) (fun K hK => ?_) ?_
   ·
    skip
    simp -dsimp -implicitDefEqProofs (maxDischargeDepth := 6)
    exact hK _ _ ⟨rfl, rfl⟩
   rintro a σ ⟨rfl, rfl⟩
   refine AWP_cond (ile s2 21) rfl (fun C2 => ?_) (fun C2 => ?_)
   ·
    replace H := ifT C2 H
    refine AWP_skip ?_
    show K4 _ _
    refine keepE (l := [0, 2, 4]) (x := [(0, .int .i64 p0), (2, .ptr o1 0 0), (4, .int .i64 s2)]) rfl fun a' ha => ?_
    refine hK4 _ _ ?_; rw [ha]
    refine Rc.mk ?_
    refine AWP_sq [0, 2, 4] fun K5 hK5 => ?_
    refine AWP_block (AWP_thenB ?_)
    refine AWP_sq [0, 2, 4] fun K6 hK6 => ?_
    obtain ⟨v5, hv5, H⟩ := bindE H
    obtain ⟨r6, hr6, H⟩ := bindE H
    refine AWP_sr tok [] [0, 2, 4, 23] (fun a σ => a = [(0, .int .i64 p0), (2, .ptr o1 0 0), (4, .int .i64 s2), (23, .bool (bnot r6))] ∧ σ = hp E0 [(o1, some ⟨47, 5, [[.int .i64 s3.Op, .int .i64 s3.Rd, .int .i64 s3.Rs, .int .i64 s3.Rt, .int .i64 s3.Imm]]⟩)] (M1 + 10)) (fun K hK => ?_) ?_
    ·
     skip
     simp -dsimp -implicitDefEqProofs (maxDischargeDepth := 6) [gx142 hv5]
     refine (c148 hr6).app ?_; try simp -dsimp -implicitDefEqProofs (maxDischargeDepth := 6) [gx142 hv5]
     exact hK _ _ ⟨rfl, rfl⟩
    rintro a σ ⟨rfl, rfl⟩
    refine AWP_cond (bnot r6) rfl (fun C3 => ?_) (fun C3 => ?_)
    ·
     replace H := ifT C3 H
     refine AWP_exit ?_
     show K5 _ _
     refine keepE (l := [0, 2, 4]) (x := [(0, .int .i64 p0), (2, .ptr o1 0 0), (4, .int .i64 s2)]) rfl fun a' ha => ?_
     refine hK5 _ _ ?_; rw [ha]
     refine Rc.mk ?_
     refine AWP_rt tok [] [0, 2, 4] (fun a σ => a = [(0, .int .i64 p0), (2, .ptr o1 0 0), (4, .int .i64 (iadd .i64 s2 1))] ∧ σ = hp E0 [(o1, some ⟨47, 5, [[.int .i64 s3.Op, .int .i64 s3.Rd, .int .i64 s3.Rs, .int .i64 s3.Rt, .int .i64 s3.Imm]]⟩)] (M1 + 13)) (fun K hK => ?_) ?_
     ·
      skip
      simp -dsimp -implicitDefEqProofs (maxDischargeDepth := 6)
      exact hK _ _ ⟨rfl, rfl⟩
     rintro a σ ⟨ha, rfl⟩
     replace H := Option.some.inj H; subst H
     refine hK3 _ _ _ rfl ?_; rw [ha]
     exact Rc.fin (AHeap.Sub.refl _) ⟨M1 + 13, o1, (by omega), (by omega), (by omega), rfl, rfl⟩
    ·
     replace H := ifF C3 H
     refine AWP_skip ?_
     show K6 _ _
     refine keepE (l := [0, 2, 4]) (x := [(0, .int .i64 p0), (2, .ptr o1 0 0), (4, .int .i64 s2)]) rfl fun a' ha => ?_
     refine hK6 _ _ ?_; rw [ha]
     refine Rc.mk ?_
     obtain ⟨r7, hr7, H⟩ := bindE H
     refine AWP_sr tok [] [0, 2, 4, 5] (fun a σ => a = [(0, .int .i64 p0), (2, .ptr o1 0 0), (4, .int .i64 s2), (5, .ptr (M1 + 13) 0 0)] ∧ σ = hp E0 [(o1, some ⟨47, 5, [[.int .i64 s3.Op, .int .i64 s3.Rd, .int .i64 s3.Rs, .int .i64 s3.Rt, .int .i64 s3.Imm]]⟩), (M1 + 13, some ⟨47, 5, [[.int .i64 r7.Op, .int .i64 r7.Rd, .int .i64 r7.Rs, .int .i64 r7.Rt, .int .i64 r7.Imm]]⟩)] (M1 + 15)) (fun K hK => ?_) ?_
     ·
      skip
      have e0 := nq (a := o1) (b := M1 + 13) (by omega)
      simp -dsimp -implicitDefEqProofs (maxDischargeDepth := 6) [e0]
      refine (c149 hr7).app ?_; try simp -dsimp -implicitDefEqProofs (maxDischargeDepth := 6) [e0]
      exact hK _ _ ⟨rfl, rfl⟩
     rintro a σ ⟨rfl, rfl⟩
     obtain ⟨r8, hr8, H⟩ := bindE H
     refine AWP_sr tok [] [0, 2, 4, 5, 6, 7] (fun a σ => a = [(0, .int .i64 p0), (2, .ptr o1 0 0), (4, .int .i64 s2), (5, .ptr (M1 + 13) 0 0), (6, .int .i64 r8.1), (7, .bool r8.2)] ∧ σ = hp E0 [(o1, some ⟨47, 5, [[.int .i64 s3.Op, .int .i64 s3.Rd, .int .i64 s3.Rs, .int .i64 s3.Rt, .int .i64 s3.Imm]]⟩), (M1 + 13, some ⟨47, 5, [[.int .i64 r7.Op, .int .i64 r7.Rd, .int .i64 r7.Rs, .int .i64 r7.Rt, .int .i64 r7.Imm]]⟩)] (M1 + 22)) (fun K hK => ?_) ?_
     ·
      skip
      have e0 := nq (a := o1) (b := M1 + 13) (by omega)
      simp -dsimp -implicitDefEqProofs (maxDischargeDepth := 6) [e0]
      refine (c77 hr8).app ?_; try simp -dsimp -implicitDefEqProofs (maxDischargeDepth := 6) [e0]
      exact hK _ _ ⟨rfl, rfl⟩
     rintro a σ ⟨rfl, rfl⟩
     obtain ⟨g9, hg9, H⟩ := bindE H
     refine AWP_sr tok [] [0, 2, 4, 5, 37] (fun a σ => a = [(0, .int .i64 p0), (2, .ptr o1 0 0), (4, .int .i64 s2), (5, .ptr (M1 + 13) 0 0), (37, .bool g9)] ∧ σ = hp E0 [(o1, some ⟨47, 5, [[.int .i64 s3.Op, .int .i64 s3.Rd, .int .i64 s3.Rs, .int .i64 s3.Rt, .int .i64 s3.Imm]]⟩), (M1 + 13, some ⟨47, 5, [[.int .i64 r7.Op, .int .i64 r7.Rd, .int .i64 r7.Rs, .int .i64 r7.Rt, .int .i64 r7.Imm]]⟩)] (M1 + 28)) (fun K hK => ?_) ?_
     ·
      skip
      have e0 := nq (a := o1) (b := M1 + 13) (by omega)
      simp -dsimp -implicitDefEqProofs (maxDischargeDepth := 6) [e0]
      cases hbg9 : r8.2
      ·
       replace hg9 := ifF hbg9 hg9
       replace hg9 := Option.some.inj hg9; subst hg9
       try simp -dsimp -implicitDefEqProofs (maxDischargeDepth := 6) [e0, hbg9]
       exact hK _ _ ⟨rfl, rfl⟩
      ·
       replace hg9 := ifT hbg9 hg9
       replace hg9 := Option.some.inj hg9; subst hg9
       try simp -dsimp -implicitDefEqProofs (maxDischargeDepth := 6) [e0, hbg9]
       exact hK _ _ ⟨rfl, rfl⟩
     rintro a σ ⟨rfl, rfl⟩
     refine AWP_cond g9 rfl (fun C4 => ?_) (fun C4 => ?_)
     ·
      replace H := ifT C4 H
      refine AWP_sr tok [] [2, 3] (fun a σ => a = [(2, .ptr o1 0 0), (3, .bool true)] ∧ σ = hp E0 [(o1, some ⟨47, 5, [[.int .i64 r7.Op, .int .i64 r7.Rd, .int .i64 r7.Rs, .int .i64 r7.Rt, .int .i64 r7.Imm]]⟩), (M1 + 13, some ⟨47, 5, [[.int .i64 r7.Op, .int .i64 r7.Rd, .int .i64 r7.Rs, .int .i64 r7.Rt, .int .i64 r7.Imm]]⟩)] (M1 + 31)) (fun K hK => ?_) ?_
      ·
       skip
       have e0 := nq (a := o1) (b := M1 + 13) (by omega)
       simp -dsimp -implicitDefEqProofs (maxDischargeDepth := 6) [e0]
       exact hK _ _ ⟨rfl, rfl⟩
      rintro a σ ⟨rfl, rfl⟩
      replace H := Option.some.inj H; subst H
      refine AWP_kp [2, 3] [(2, .ptr o1 0 0), (3, .bool true)] rfl ?_
      have z0 := nq (a := o1) (b := M1 + 13) (by omega)
      refine AWP_ret (hO3 _ _ _ _ rfl ⟨rfl, ?_⟩)
      exact ⟨[.agg [.int .i64 r7.Op, .int .i64 r7.Rd, .int .i64 r7.Rs, .int .i64 r7.Rt, .int .i64 r7.Imm], .bool true], by simp [z0], 4, by simp [encL_nil, z0]⟩
     ·
      replace H := ifF C4 H
      refine AWP_skip ?_
      show K5 _ _
      refine keepE (l := [0, 2, 4]) (x := [(0, .int .i64 p0), (2, .ptr o1 0 0), (4, .int .i64 s2)]) rfl fun a' ha => ?_
      refine hK5 _ _ ?_; rw [ha]
      refine Rc.mk ?_
      refine AWP_rt tok [] [0, 2, 4] (fun a σ => a = [(0, .int .i64 p0), (2, .ptr o1 0 0), (4, .int .i64 (iadd .i64 s2 1))] ∧ σ = hp E0 [(o1, some ⟨47, 5, [[.int .i64 s3.Op, .int .i64 s3.Rd, .int .i64 s3.Rs, .int .i64 s3.Rt, .int .i64 s3.Imm]]⟩), (M1 + 13, some ⟨47, 5, [[.int .i64 r7.Op, .int .i64 r7.Rd, .int .i64 r7.Rs, .int .i64 r7.Rt, .int .i64 r7.Imm]]⟩)] (M1 + 31)) (fun K hK => ?_) ?_
      ·
       skip
       have e0 := nq (a := o1) (b := M1 + 13) (by omega)
       simp -dsimp -implicitDefEqProofs (maxDischargeDepth := 6) [e0]
       exact hK _ _ ⟨rfl, rfl⟩
      rintro a σ ⟨ha, rfl⟩
      replace H := Option.some.inj H; subst H
      refine hK3 _ _ _ rfl ?_; rw [ha]
      exact Rc.fin (hp_skip (AHeap.Sub.trans (AHeap.Sub.refl _) (hp_drop rfl (by simp; try omega)))) ⟨M1 + 31, o1, (by omega), (by omega), (by omega), rfl, rfl⟩
   ·
    replace H := ifF C2 H
    replace H := Option.some.inj H; subst H
    refine AWP_exit (hO3 _ _ _ _ rfl ⟨rfl, ?_⟩)
    refine Rc.rw (l := [2]) (X := [(2, .ptr o1 0 0)]) rfl ?_
    exact Rc.fin (AHeap.Sub.refl _) ⟨M1 + 2, o1, (by omega), (by omega), (by omega), rfl, rfl⟩
  ·
   intro x a σ hx
   rcases e1 with y4 | r0
   ·
    obtain ⟨rfl, b, τ, hr, M2, o2, fM2_0, fM2_1, fM2_2, rfl, rfl⟩ := hx
    dsimp only at H
    show K2 _ _
    refine hK2 _ _ (Rc_ref hr ?_)
    refine Rc.mk ?_
    refine AWP_sr tok [] [2, 3] (fun a σ => a = [(2, .ptr o2 0 0), (3, .bool false)] ∧ σ = hp E0 [(o2, some ⟨47, 5, [[.int .i64 0, .int .i64 0, .int .i64 0, .int .i64 0, .int .i64 0]]⟩)] (M2 + 3)) (fun K hK => ?_) ?_
    ·
     skip
     simp -dsimp -implicitDefEqProofs (maxDischargeDepth := 6)
     exact hK _ _ ⟨rfl, rfl⟩
    rintro a σ ⟨rfl, rfl⟩
    replace H := Option.some.inj H; subst H
    refine AWP_kp [2, 3] [(2, .ptr o2 0 0), (3, .bool false)] rfl ?_
    refine AWP_ret ?_
    exact ⟨[.agg [.int .i64 0, .int .i64 0, .int .i64 0, .int .i64 0, .int .i64 0], .bool false], by simp, 4, by simp [encL_nil]⟩
   ·
    obtain ⟨rfl, hx2⟩ := hx
    dsimp only at H
    replace H := Option.some.inj H; subst H; exact hx2
theorem c135_c0_2_moo {p0 : gMachine} {p1 : Int} {r : Option Int} (H : i_Machine_word_c0_2_moo p0 p1 = some r) {σ : AHeap} {w0 : Nat} {W0 : List (List AV)} {r0_ : Nat} {w0c2 : Nat} (q0 : σ.objs w0 = some ⟨26, 3, W0⟩) (g0 : W0[r0_]? = some [.osl 3 1 (encL rI p0.Regs), .int .i64 p0.Pc, .sl w0c2 0 p0.Mem.length]) (q0c2 : σ.objs w0c2 = some ⟨3, 1, encL rI p0.Mem⟩) (d0_1 : ¬ w0 = w0c2) : ACalls Tryd.prog G 135 [.ptr w0 r0_ 0, .int .i64 p1] σ (fun v σ' => ∃ M : Nat, σ.next ≤ M ∧ v = optp w0c2 r ∧ σ' = hp σ.objs [(w0, some ⟨26, 3, W0⟩), (w0c2, some ⟨3, 1, encL rI p0.Mem⟩)] M) := by
 refine ACalls_fr (L := [(w0, some ⟨26, 3, W0⟩), (w0c2, some ⟨3, 1, encL rI p0.Mem⟩)]) (Q1 := fun v σ' => ∃ M : Nat, σ.next ≤ M ∧ v = optp w0c2 r ∧ σ' = hp E0 [(w0, some ⟨26, 3, W0⟩), (w0c2, some ⟨3, 1, encL rI p0.Mem⟩)] M) (by simp [q0, q0c2]) (fun hlt => ?_) ?_ ⟨_, Tryd.func135, rfl, rfl⟩
 rotate_left
 ·
  rintro v σ1 ⟨M, h0, rfl, rfl⟩
  exact ⟨_, M, rfl, by simp, by simp; try omega, M, h0, rfl, rfl⟩
 generalize σ.next = N0 at hlt ⊢
 have lw0 : w0 < N0 := hlt _ (.head _) rfl
 have lw0c2 : w0c2 < N0 := hlt _ (.tail _ (.head _)) rfl
 have gs_W0 : ∀ x, (W0.set r0_ x)[r0_]? = some x := gsetW g0
 rw [show W0 = W0.set r0_ [.osl 3 1 (encL rI p0.Regs), .int .i64 p0.Pc, .sl w0c2 0 p0.Mem.length] from (set_same g0).symm]
 refine ACalls_fn tok Tryd.func135 (by kernel_rfl) rfl Tryd.ntmps135 Tryd.results135 rfl ?_
 simp only [argsA, Nat.reduceAdd, hp_next]
 unfold i_Machine_word_c0_2_moo at H
 refine AWP_sr tok [] [0, 1] (fun a σ => a = [(0, .ptr w0 r0_ 0), (1, .int .i64 p1)] ∧ σ = hp E0 [(w0, some ⟨26, 3, W0.set r0_ [.osl 3 1 (encL rI p0.Regs), .int .i64 p0.Pc, .sl w0c2 0 p0.Mem.length]⟩), (w0c2, some ⟨3, 1, encL rI p0.Mem⟩)] (N0 + 1)) (fun K hK => ?_) ?_
 ·
  skip
  have e0 := nq (a := w0) (b := w0c2) (by omega)
  simp -dsimp -implicitDefEqProofs (maxDischargeDepth := 6) [e0, gs_W0, List.set_set]
  exact hK _ _ ⟨rfl, rfl⟩
 rintro a σ ⟨rfl, rfl⟩
 refine AWP_sq [0, 1] fun K1 hK1 => ?_
 obtain ⟨g2, hg2, H⟩ := bindE H
 obtain ⟨g4, hg4, H⟩ := bindE H
 refine AWP_sr tok [] [0, 1, 21] (fun a σ => a = [(0, .ptr w0 r0_ 0), (1, .int .i64 p1), (21, .bool g4)] ∧ σ = hp E0 [(w0, some ⟨26, 3, W0.set r0_ [.osl 3 1 (encL rI p0.Regs), .int .i64 p0.Pc, .sl w0c2 0 p0.Mem.length]⟩), (w0c2, some ⟨3, 1, encL rI p0.Mem⟩)] (N0 + 18)) (fun K hK => ?_) ?_
 ·
  skip
  have e0 := nq (a := w0) (b := w0c2) (by omega)
  simp -dsimp -implicitDefEqProofs (maxDischargeDepth := 6) [e0, gs_W0, List.set_set]
  cases hbg2 : ilt p1 0
  ·
   replace hg2 := ifF hbg2 hg2
   obtain ⟨v1, hv1, hg2⟩ := bindE hg2
   replace hg2 := Option.some.inj hg2; subst hg2
   try simp -dsimp -implicitDefEqProofs (maxDischargeDepth := 6) [e0, gs_W0, List.set_set, hbg2, hv1]
   cases hbg4 : (ine v1 0)
   ·
    replace hg4 := ifF hbg4 hg4
    obtain ⟨v3, hv3, hg4⟩ := bindE hg4
    replace hg4 := Option.some.inj hg4; subst hg4
    try simp -dsimp -implicitDefEqProofs (maxDischargeDepth := 6) [e0, gs_W0, List.set_set, hbg2, hv1, hbg4, hv3]
    exact hK _ _ ⟨rfl, rfl⟩
   ·
    replace hg4 := ifT hbg4 hg4
    replace hg4 := Option.some.inj hg4; subst hg4
    try simp -dsimp -implicitDefEqProofs (maxDischargeDepth := 6) [e0, gs_W0, List.set_set, hbg2, hv1, hbg4]
    exact hK _ _ ⟨rfl, rfl⟩
  ·
   replace hg2 := ifT hbg2 hg2
   replace hg2 := Option.some.inj hg2; subst hg2
   try simp -dsimp -implicitDefEqProofs (maxDischargeDepth := 6) [e0, gs_W0, List.set_set, hbg2]
   replace hg4 := ifT rfl hg4
   replace hg4 := Option.some.inj hg4; subst hg4
   try simp -dsimp -implicitDefEqProofs (maxDischargeDepth := 6) [e0, gs_W0, List.set_set, hbg2]
   exact hK _ _ ⟨rfl, rfl⟩
 rintro a σ ⟨rfl, rfl⟩
 refine AWP_cond g4 rfl (fun C1 => ?_) (fun C1 => ?_)
 ·
  replace H := ifT C1 H
  refine AWP_sr tok [] [4] (fun a σ => a = [(4, .nilp)] ∧ σ = hp E0 [(w0, some ⟨26, 3, W0.set r0_ [.osl 3 1 (encL rI p0.Regs), .int .i64 p0.Pc, .sl w0c2 0 p0.Mem.length]⟩), (w0c2, some ⟨3, 1, encL rI p0.Mem⟩)] (N0 + 19)) (fun K hK => ?_) ?_
  ·
   skip
   have e0 := nq (a := w0) (b := w0c2) (by omega)
   simp -dsimp -implicitDefEqProofs (maxDischargeDepth := 6) [e0, gs_W0, List.set_set]
   exact hK _ _ ⟨rfl, rfl⟩
  rintro a σ ⟨rfl, rfl⟩
  replace H := Option.some.inj H; subst H
  refine AWP_kp [4] [(4, .nilp)] rfl ?_
  refine AWP_ret ?_
  refine ⟨[.nilp], by simp, N0 + 19, by omega, ?_, ?_⟩
  ·
   simp
  ·
   rw [set_same g0]
 ·
  replace H := ifF C1 H
  refine AWP_skip ?_
  show K1 _ _
  refine keepE (l := [0, 1]) (x := [(0, .ptr w0 r0_ 0), (1, .int .i64 p1)]) rfl fun a' ha => ?_
  refine hK1 _ _ ?_; rw [ha]
  refine Rc.mk ?_
  obtain ⟨v5, hv5, H⟩ := bindE H
  obtain ⟨v6, hv6, H⟩ := bindE H
  refine AWP_sr tok [] [4] (fun a σ => a = [(4, .ptr w0c2 v5.toNat 0)] ∧ σ = hp E0 [(w0, some ⟨26, 3, W0.set r0_ [.osl 3 1 (encL rI p0.Regs), .int .i64 p0.Pc, .sl w0c2 0 p0.Mem.length]⟩), (w0c2, some ⟨3, 1, encL rI p0.Mem⟩)] (N0 + 26)) (fun K hK => ?_) ?_
  ·
   skip
   have e0 := nq (a := w0) (b := w0c2) (by omega)
   simp -dsimp -implicitDefEqProofs (maxDischargeDepth := 6) [e0, gs_W0, List.set_set, hv5, ixo24 hv6, (idx_lt3 hv6).2.2]
   exact hK _ _ ⟨rfl, rfl⟩
  rintro a σ ⟨rfl, rfl⟩
  replace H := Option.some.inj H; subst H
  refine AWP_kp [4] [(4, .ptr w0c2 v5.toNat 0)] rfl ?_
  refine AWP_ret ?_
  refine ⟨[.ptr w0c2 v5.toNat 0], by simp, N0 + 26, by omega, ?_, ?_⟩
  ·
   simp
  ·
   rw [set_same g0]
theorem c137_moo {p0 : gMachine} {p1 : Int} {p2 : Int} {r : gMachine} (H : i_Machine_set_moo p0 p1 p2 = some r) {σ : AHeap} {w0 : Nat} {W0 : List (List AV)} {r0_ : Nat} (q0 : σ.objs w0 = some ⟨26, 3, W0⟩) (g0 : W0[r0_]? = some [.osl 3 1 (encL rI p0.Regs), .int .i64 p0.Pc, .osl 3 1 (encL rI p0.Mem)]) : ACalls Tryd.prog G 137 [.ptr w0 r0_ 0, .int .i64 p1, .int .i64 p2] σ (fun v σ' => ∃ M : Nat, σ.next ≤ M ∧ v = .tup [] ∧ σ' = hp σ.objs [(w0, some ⟨26, 3, W0.set r0_ [.osl 3 1 (encL rI r.Regs), .int .i64 r.Pc, .osl 3 1 (encL rI r.Mem)]⟩)] M) := by
 refine ACalls_fr (L := [(w0, some ⟨26, 3, W0⟩)]) (Q1 := fun v σ' => ∃ M : Nat, σ.next ≤ M ∧ v = .tup [] ∧ σ' = hp E0 [(w0, some ⟨26, 3, W0.set r0_ [.osl 3 1 (encL rI r.Regs), .int .i64 r.Pc, .osl 3 1 (encL rI r.Mem)]⟩)] M) (by simp [q0]) (fun hlt => ?_) ?_ ⟨_, Tryd.func137, rfl, rfl⟩
 rotate_left
 ·
  rintro v σ1 ⟨M, h0, rfl, rfl⟩
  exact ⟨_, M, rfl, by simp, by simp; try omega, M, h0, rfl, rfl⟩
 generalize σ.next = N0 at hlt ⊢
 have lw0 : w0 < N0 := hlt _ (.head _) rfl
 have gs_W0 : ∀ x, (W0.set r0_ x)[r0_]? = some x := gsetW g0
 rw [show W0 = W0.set r0_ [.osl 3 1 (encL rI p0.Regs), .int .i64 p0.Pc, .osl 3 1 (encL rI p0.Mem)] from (set_same g0).symm]
 refine ACalls_fn tok Tryd.func137 (by kernel_rfl) rfl Tryd.ntmps137 Tryd.results137 rfl ?_
 simp only [argsA, Nat.reduceAdd, hp_next]
 unfold i_Machine_set_moo at H
 refine AWP_end [] fun KE hKE => ?_
 refine AWP_sr tok [] [0, 1, 2, 7] (fun a σ => a = [(0, .ptr w0 r0_ 0), (1, .int .i64 p1), (2, .int .i64 p2), (7, .bool (ine p1 0))] ∧ σ = hp E0 [(w0, some ⟨26, 3, W0.set r0_ [.osl 3 1 (encL rI p0.Regs), .int .i64 p0.Pc, .osl 3 1 (encL rI p0.Mem)]⟩)] (N0 + 2)) (fun K hK => ?_) ?_
 ·
  skip
  simp -dsimp -implicitDefEqProofs (maxDischargeDepth := 6) [gs_W0, List.set_set]
  exact hK _ _ ⟨rfl, rfl⟩
 rintro a σ ⟨rfl, rfl⟩
 refine AWP_cond (ine p1 0) rfl (fun C1 => ?_) (fun C1 => ?_)
 ·
  replace H := ifT C1 H
  refine gUnp AWP_ref (ty := 3) (sz := 1) (es := encL rI p0.Regs) (o := w0) (ob := ⟨26, 3, W0.set r0_ [.osl 3 1 (encL rI p0.Regs), .int .i64 p0.Pc, .osl 3 1 (encL rI p0.Mem)]⟩) (row := [.osl 3 1 (encL rI p0.Regs), .int .i64 p0.Pc, .osl 3 1 (encL rI p0.Mem)]) (r := r0_) (i := 0) [(w0, some ⟨26, 3, W0.set r0_ [.sl (N0 + 2) 0 p0.Regs.length, .int .i64 p0.Pc, .osl 3 1 (encL rI p0.Mem)]⟩), (N0 + 2, some ⟨3, 1, encL rI p0.Regs⟩)] (by simp (disch := omega)) (by simp (disch := omega) [gs_W0]) rfl (by simp (disch := omega) [List.set_set]) ?_
  obtain ⟨v1, hv1, H⟩ := bindE H
  obtain ⟨l2, hl2, H⟩ := bindE H
  refine AWP_rt tok [] [] (fun a σ => a = [] ∧ σ = hp E0 [(w0, some ⟨26, 3, W0.set r0_ [.sl (N0 + 2) 0 p0.Regs.length, .int .i64 p0.Pc, .osl 3 1 (encL rI p0.Mem)]⟩), (N0 + 2, some ⟨3, 1, encL rI l2⟩)] (N0 + 11)) (fun K hK => ?_) ?_
  ·
   skip
   have e0 := nq (a := w0) (b := N0 + 2) (by omega)
   simp -dsimp -implicitDefEqProofs (maxDischargeDepth := 6) [e0, gs_W0, List.set_set, ixo24 hv1, (idx_lt3 hv1).2.2, (setx_iff.1 hl2).2.symm]
   exact hK _ _ ⟨rfl, rfl⟩
  rintro a σ ⟨ha, rfl⟩
  (try rw [← setx_len hl2] at ha); (try rw [← setx_len hl2])
  replace H := Option.some.inj H; subst H
  refine hKE _ _ ?_; rw [ha]
  refine Rc.kp [] [] rfl ?_
  refine gPk Rc_ref (k := l2.length) (o := w0) (ob := ⟨26, 3, W0.set r0_ [.sl (N0 + 2) 0 l2.length, .int .i64 p0.Pc, .osl 3 1 (encL rI p0.Mem)]⟩) (row := [.sl (N0 + 2) 0 l2.length, .int .i64 p0.Pc, .osl 3 1 (encL rI p0.Mem)]) (d := (N0 + 2)) (obd := ⟨3, 1, encL rI l2⟩) (r := r0_) (i := 0) [(w0, some ⟨26, 3, W0.set r0_ [.osl 3 1 (encL rI l2), .int .i64 p0.Pc, .osl 3 1 (encL rI p0.Mem)]⟩)] (by simp (disch := omega)) (by simp (disch := omega) [gs_W0]) rfl (by simp (disch := omega)) (by simp (disch := omega)) (by first | omega | simp) (by simp (disch := omega) [List.set_set, app_set] <;> omega) (by simp (disch := omega) [List.set_set, app_set]) ?_
  refine Rc.mk ?_
  refine ⟨[], by simp [gs_W0], N0 + 11, by omega, ?_, ?_⟩
  ·
   simp [encL_nil]
  ·
   first | rfl | simp [List.set_set]
 ·
  replace H := ifF C1 H
  refine AWP_skip ?_
  show KE _ _
  refine keepE (l := []) (x := []) rfl fun a' ha => ?_
  replace H := Option.some.inj H; subst H
  refine hKE _ _ ?_; rw [ha]
  refine Rc.kp [] [] rfl ?_
  refine Rc.mk ?_
  refine ⟨[], by simp [gs_W0], N0 + 2, by omega, ?_, ?_⟩
  ·
   simp [encL_nil]
  ·
   first | rfl | simp [List.set_set]
theorem c138 {p0 : Bool} {r : Int} (H : i_truth p0 = some r) : APure Tryd.prog G 138 [.bool p0] (.int .i64 r) := by
 refine APure_fn (fun N0 => ?_) (by simp)
 refine ACalls_fn tok Tryd.func138 (by kernel_rfl) rfl Tryd.ntmps138 Tryd.results138 rfl ?_
 simp only [argsA, Nat.reduceAdd, hp_next]
 unfold i_truth at H
 refine AWP_sr tok [] [0] (fun a σ => a = [(0, .bool p0)] ∧ σ = hp E0 [] (N0 + 1)) (fun K hK => ?_) ?_
 ·
  skip
  simp -dsimp -implicitDefEqProofs (maxDischargeDepth := 6)
  exact hK _ _ ⟨rfl, rfl⟩
 rintro a σ ⟨rfl, rfl⟩
 refine AWP_sq [] fun K1 hK1 => ?_
 refine AWP_sr tok [] [3] (fun a σ => a = [(3, .bool p0)] ∧ σ = hp E0 [] (N0 + 2)) (fun K hK => ?_) ?_
 ·
  skip
  simp -dsimp -implicitDefEqProofs (maxDischargeDepth := 6)
  exact hK _ _ ⟨rfl, rfl⟩
 rintro a σ ⟨rfl, rfl⟩
 refine AWP_cond p0 rfl (fun C1 => ?_) (fun C1 => ?_)
 ·
  replace H := ifT C1 H
  refine AWP_sr tok [] [2] (fun a σ => a = [(2, .int .i64 1)] ∧ σ = hp E0 [] (N0 + 3)) (fun K hK => ?_) ?_
  ·
   skip
   simp -dsimp -implicitDefEqProofs (maxDischargeDepth := 6)
   exact hK _ _ ⟨rfl, rfl⟩
  rintro a σ ⟨rfl, rfl⟩
  replace H := Option.some.inj H; subst H
  refine AWP_kp [2] [(2, .int .i64 1)] rfl ?_
  refine AWP_ret ?_
  exact ⟨[.int .i64 1], by simp, 4, by simp [encL_nil]⟩
 ·
  replace H := ifF C1 H
  refine AWP_skip ?_
  show K1 _ _
  refine keepE (l := []) (x := []) rfl fun a' ha => ?_
  refine hK1 _ _ ?_; rw [ha]
  refine Rc.mk ?_
  refine AWP_sr tok [] [2] (fun a σ => a = [(2, .int .i64 0)] ∧ σ = hp E0 [] (N0 + 3)) (fun K hK => ?_) ?_
  ·
   skip
   simp -dsimp -implicitDefEqProofs (maxDischargeDepth := 6)
   exact hK _ _ ⟨rfl, rfl⟩
  rintro a σ ⟨rfl, rfl⟩
  replace H := Option.some.inj H; subst H
  refine AWP_kp [2] [(2, .int .i64 0)] rfl ?_
  refine AWP_ret ?_
  exact ⟨[.int .i64 0], by simp, 4, by simp [encL_nil]⟩
theorem c137_c0_2_moo {p0 : gMachine} {p1 : Int} {p2 : Int} {r : gMachine} (H : i_Machine_set_c0_2_moo p0 p1 p2 = some r) {σ : AHeap} {w0 : Nat} {W0 : List (List AV)} {r0_ : Nat} {w0c2 : Nat} (q0 : σ.objs w0 = some ⟨26, 3, W0⟩) (g0 : W0[r0_]? = some [.osl 3 1 (encL rI p0.Regs), .int .i64 p0.Pc, .sl w0c2 0 p0.Mem.length]) (q0c2 : σ.objs w0c2 = some ⟨3, 1, encL rI p0.Mem⟩) (d0_1 : ¬ w0 = w0c2) : ACalls Tryd.prog G 137 [.ptr w0 r0_ 0, .int .i64 p1, .int .i64 p2] σ (fun v σ' => ∃ M : Nat, σ.next ≤ M ∧ v = .tup [] ∧ σ' = hp σ.objs [(w0, some ⟨26, 3, W0.set r0_ [.osl 3 1 (encL rI r.Regs), .int .i64 r.Pc, .osl 3 1 (encL rI r.Mem)]⟩), (w0c2, none)] M) := by
 refine ACalls_fr (L := [(w0, some ⟨26, 3, W0⟩), (w0c2, some ⟨3, 1, encL rI p0.Mem⟩)]) (Q1 := fun v σ' => ∃ M : Nat, σ.next ≤ M ∧ v = .tup [] ∧ σ' = hp E0 [(w0, some ⟨26, 3, W0.set r0_ [.osl 3 1 (encL rI r.Regs), .int .i64 r.Pc, .osl 3 1 (encL rI r.Mem)]⟩), (w0c2, none)] M) (by simp [q0, q0c2]) (fun hlt => ?_) ?_ ⟨_, Tryd.func137, rfl, rfl⟩
 rotate_left
 ·
  rintro v σ1 ⟨M, h0, rfl, rfl⟩
  exact ⟨_, M, rfl, by simp, by simp; try omega, M, h0, rfl, rfl⟩
 generalize σ.next = N0 at hlt ⊢
 have lw0 : w0 < N0 := hlt _ (.head _) rfl
 have lw0c2 : w0c2 < N0 := hlt _ (.tail _ (.head _)) rfl
 have gs_W0 : ∀ x, (W0.set r0_ x)[r0_]? = some x := gsetW g0
 rw [show W0 = W0.set r0_ [.osl 3 1 (encL rI p0.Regs), .int .i64 p0.Pc, .sl w0c2 0 p0.Mem.length] from (set_same g0).symm]
 refine ACalls_fn tok Tryd.func137 (by kernel_rfl) rfl Tryd.ntmps137 Tryd.results137 rfl ?_
 simp only [argsA, Nat.reduceAdd, hp_next]
 unfold i_Machine_set_c0_2_moo at H
 refine AWP_end [] fun KE hKE => ?_
 refine AWP_sr tok [] [0, 1, 2, 7] (fun a σ => a = [(0, .ptr w0 r0_ 0), (1, .int .i64 p1), (2, .int .i64 p2), (7, .bool (ine p1 0))] ∧ σ = hp E0 [(w0, some ⟨26, 3, W0.set r0_ [.osl 3 1 (encL rI p0.Regs), .int .i64 p0.Pc, .sl w0c2 0 p0.Mem.length]⟩), (w0c2, some ⟨3, 1, encL rI p0.Mem⟩)] (N0 + 2)) (fun K hK => ?_) ?_
 ·
  skip
  have e0 := nq (a := w0) (b := w0c2) (by omega)
  simp -dsimp -implicitDefEqProofs (maxDischargeDepth := 6) [e0, gs_W0, List.set_set]
  exact hK _ _ ⟨rfl, rfl⟩
 rintro a σ ⟨rfl, rfl⟩
 refine AWP_cond (ine p1 0) rfl (fun C1 => ?_) (fun C1 => ?_)
 ·
  replace H := ifT C1 H
  refine gUnp AWP_ref (ty := 3) (sz := 1) (es := encL rI p0.Regs) (o := w0) (ob := ⟨26, 3, W0.set r0_ [.osl 3 1 (encL rI p0.Regs), .int .i64 p0.Pc, .sl w0c2 0 p0.Mem.length]⟩) (row := [.osl 3 1 (encL rI p0.Regs), .int .i64 p0.Pc, .sl w0c2 0 p0.Mem.length]) (r := r0_) (i := 0) [(w0, some ⟨26, 3, W0.set r0_ [.sl (N0 + 2) 0 p0.Regs.length, .int .i64 p0.Pc, .sl w0c2 0 p0.Mem.length]⟩), (w0c2, some ⟨3, 1, encL rI p0.Mem⟩), (N0 + 2, some ⟨3, 1, encL rI p0.Regs⟩)] (by simp (disch := omega)) (by simp (disch := omega) [gs_W0]) rfl (by simp (disch := omega) [List.set_set]) ?_
  obtain ⟨v1, hv1, H⟩ := bindE H
  obtain ⟨l2, hl2, H⟩ := bindE H
  refine AWP_rt tok [] [] (fun a σ => a = [] ∧ σ = hp E0 [(w0, some ⟨26, 3, W0.set r0_ [.sl (N0 + 2) 0 p0.Regs.length, .int .i64 p0.Pc, .sl w0c2 0 p0.Mem.length]⟩), (w0c2, some ⟨3, 1, encL rI p0.Mem⟩), (N0 + 2, some ⟨3, 1, encL rI l2⟩)] (N0 + 11)) (fun K hK => ?_) ?_
  ·
   skip
   have e0 := nq (a := w0) (b := w0c2) (by omega)
   have e1 := nq (a := w0) (b := N0 + 2) (by omega)
   have e2 := nq (a := w0c2) (b := N0 + 2) (by omega)
   simp -dsimp -implicitDefEqProofs (maxDischargeDepth := 6) [e0, e1, e2, gs_W0, List.set_set, ixo24 hv1, (idx_lt3 hv1).2.2, (setx_iff.1 hl2).2.symm]
   exact hK _ _ ⟨rfl, rfl⟩
  rintro a σ ⟨ha, rfl⟩
  (try rw [← setx_len hl2] at ha); (try rw [← setx_len hl2])
  replace H := Option.some.inj H; subst H
  refine hKE _ _ ?_; rw [ha]
  refine Rc.kp [] [] rfl ?_
  refine gPk Rc_ref (k := l2.length) (o := w0) (ob := ⟨26, 3, W0.set r0_ [.sl (N0 + 2) 0 l2.length, .int .i64 p0.Pc, .sl w0c2 0 p0.Mem.length]⟩) (row := [.sl (N0 + 2) 0 l2.length, .int .i64 p0.Pc, .sl w0c2 0 p0.Mem.length]) (d := (N0 + 2)) (obd := ⟨3, 1, encL rI l2⟩) (r := r0_) (i := 0) [(w0, some ⟨26, 3, W0.set r0_ [.osl 3 1 (encL rI l2), .int .i64 p0.Pc, .sl w0c2 0 p0.Mem.length]⟩), (w0c2, some ⟨3, 1, encL rI p0.Mem⟩)] (by simp (disch := omega)) (by simp (disch := omega) [gs_W0]) rfl (by simp (disch := omega)) (by simp (disch := omega)) (by first | omega | simp) (by simp (disch := omega) [List.set_set, app_set] <;> omega) (by simp (disch := omega) [List.set_set, app_set]) ?_
  refine gPk Rc_ref (k := p0.Mem.length) (o := w0) (ob := ⟨26, 3, W0.set r0_ [.osl 3 1 (encL rI l2), .int .i64 p0.Pc, .sl w0c2 0 p0.Mem.length]⟩) (row := [.osl 3 1 (encL rI l2), .int .i64 p0.Pc, .sl w0c2 0 p0.Mem.length]) (d := w0c2) (obd := ⟨3, 1, encL rI p0.Mem⟩) (r := r0_) (i := 2) [(w0, some ⟨26, 3, W0.set r0_ [.osl 3 1 (encL rI l2), .int .i64 p0.Pc, .osl 3 1 (encL rI p0.Mem)]⟩)] (by simp (disch := omega)) (by simp (disch := omega) [gs_W0]) rfl (by simp (disch := omega)) (by simp (disch := omega)) (by first | omega | simp) (by simp (disch := omega) [List.set_set, app_set] <;> omega) (by simp (disch := omega) [List.set_set, app_set]) ?_
  refine Rc.mk ?_
  refine ⟨[], by simp [gs_W0], N0 + 11, by omega, ?_, ?_⟩
  ·
   simp [encL_nil]
  ·
   symm; first | exact hp_tail (L := [(w0, some ⟨26, 3, W0.set r0_ [.osl 3 1 (encL rI l2), .int .i64 p0.Pc, .osl 3 1 (encL rI p0.Mem)]⟩)]) | (simp only [List.set_set]; exact hp_tail (L := [(w0, some ⟨26, 3, W0.set r0_ [.osl 3 1 (encL rI l2), .int .i64 p0.Pc, .osl 3 1 (encL rI p0.Mem)]⟩)]))
 ·
  replace H := ifF C1 H
  refine AWP_skip ?_
  show KE _ _
  refine keepE (l := []) (x := []) rfl fun a' ha => ?_
  replace H := Option.some.inj H; subst H
  refine hKE _ _ ?_; rw [ha]
  refine Rc.kp [] [] rfl ?_
  refine gPk Rc_ref (k := p0.Mem.length) (o := w0) (ob := ⟨26, 3, W0.set r0_ [.osl 3 1 (encL rI p0.Regs), .int .i64 p0.Pc, .sl w0c2 0 p0.Mem.length]⟩) (row := [.osl 3 1 (encL rI p0.Regs), .int .i64 p0.Pc, .sl w0c2 0 p0.Mem.length]) (d := w0c2) (obd := ⟨3, 1, encL rI p0.Mem⟩) (r := r0_) (i := 2) [(w0, some ⟨26, 3, W0.set r0_ [.osl 3 1 (encL rI p0.Regs), .int .i64 p0.Pc, .osl 3 1 (encL rI p0.Mem)]⟩)] (by simp (disch := omega)) (by simp (disch := omega) [gs_W0]) rfl (by simp (disch := omega)) (by simp (disch := omega)) (by first | omega | simp) (by simp (disch := omega) [List.set_set, app_set] <;> omega) (by simp (disch := omega) [List.set_set, app_set]) ?_
  refine Rc.mk ?_
  refine ⟨[], by simp [gs_W0], N0 + 2, by omega, ?_, ?_⟩
  ·
   simp [encL_nil]
  ·
   symm; first | exact hp_tail (L := [(w0, some ⟨26, 3, W0.set r0_ [.osl 3 1 (encL rI p0.Regs), .int .i64 p0.Pc, .osl 3 1 (encL rI p0.Mem)]⟩)]) | (simp only [List.set_set]; exact hp_tail (L := [(w0, some ⟨26, 3, W0.set r0_ [.osl 3 1 (encL rI p0.Regs), .int .i64 p0.Pc, .osl 3 1 (encL rI p0.Mem)]⟩)]))
theorem c100 {p0 : Int} {p1 : Int} {p2 : Int} {r : Int} (H : i_apply p0 p1 p2 = some r) : APure Tryd.prog G 100 [.int .i64 p0, .int .i64 p1, .int .i64 p2] (.int .i64 r) := by
 refine APure_fn (fun N0 => ?_) (by simp)
 refine ACalls_fn tok Tryd.func100 (by kernel_rfl) rfl Tryd.ntmps100 Tryd.results100 rfl ?_
 simp only [argsA, Nat.reduceAdd, hp_next]
 unfold i_apply at H
 refine AWP_sr tok [] [0, 1, 2] (fun a σ => a = [(0, .int .i64 p0), (1, .int .i64 p1), (2, .int .i64 p2)] ∧ σ = hp E0 [] (N0 + 1)) (fun K hK => ?_) ?_
 ·
  skip
  simp -dsimp -implicitDefEqProofs (maxDischargeDepth := 6)
  exact hK _ _ ⟨rfl, rfl⟩
 rintro a σ ⟨rfl, rfl⟩
 refine AWP_sq [1, 2] fun K1 hK1 => ?_
 refine AWP_sr tok [] [1, 2, 7] (fun a σ => a = [(1, .int .i64 p1), (2, .int .i64 p2), (7, .int .i64 p0)] ∧ σ = hp E0 [] (N0 + 2)) (fun K hK => ?_) ?_
 ·
  skip
  simp -dsimp -implicitDefEqProofs (maxDischargeDepth := 6)
  exact hK _ _ ⟨rfl, rfl⟩
 rintro a σ ⟨rfl, rfl⟩
 refine AWP_block (AWP_thenB ?_)
 refine AWP_sr tok [] [1, 2, 7, 8] (fun a σ => a = [(1, .int .i64 p1), (2, .int .i64 p2), (7, .int .i64 p0), (8, .bool (ieq p0 1))] ∧ σ = hp E0 [] (N0 + 4)) (fun K hK => ?_) ?_
 ·
  skip
  simp -dsimp -implicitDefEqProofs (maxDischargeDepth := 6)
  exact hK _ _ ⟨rfl, rfl⟩
 rintro a σ ⟨rfl, rfl⟩
 refine AWP_cond (ieq p0 1) rfl (fun C1 => ?_) (fun C1 => ?_)
 ·
  replace H := ifT C1 H
  refine AWP_sr tok [] [6] (fun a σ => a = [(6, .int .i64 (ior .i64 p1 p2))] ∧ σ = hp E0 [] (N0 + 8)) (fun K hK => ?_) ?_
  ·
   skip
   simp -dsimp -implicitDefEqProofs (maxDischargeDepth := 6)
   exact hK _ _ ⟨rfl, rfl⟩
  rintro a σ ⟨rfl, rfl⟩
  replace H := Option.some.inj H; subst H
  refine AWP_kp [6] [(6, .int .i64 (ior .i64 p1 p2))] rfl ?_
  refine AWP_ret ?_
  exact ⟨[.int .i64 (ior .i64 p1 p2)], by simp, 4, by simp [encL_nil]⟩
 ·
  replace H := ifF C1 H
  refine AWP_sr tok [] [1, 2, 7, 13] (fun a σ => a = [(1, .int .i64 p1), (2, .int .i64 p2), (7, .int .i64 p0), (13, .bool (ieq p0 2))] ∧ σ = hp E0 [] (N0 + 6)) (fun K hK => ?_) ?_
  ·
   skip
   simp -dsimp -implicitDefEqProofs (maxDischargeDepth := 6)
   exact hK _ _ ⟨rfl, rfl⟩
  rintro a σ ⟨rfl, rfl⟩
  refine AWP_cond (ieq p0 2) rfl (fun C2 => ?_) (fun C2 => ?_)
  ·
   replace H := ifT C2 H
   refine AWP_sr tok [] [6] (fun a σ => a = [(6, .int .i64 (ixor .i64 p1 p2))] ∧ σ = hp E0 [] (N0 + 10)) (fun K hK => ?_) ?_
   ·
    skip
    simp -dsimp -implicitDefEqProofs (maxDischargeDepth := 6)
    exact hK _ _ ⟨rfl, rfl⟩
   rintro a σ ⟨rfl, rfl⟩
   replace H := Option.some.inj H; subst H
   refine AWP_kp [6] [(6, .int .i64 (ixor .i64 p1 p2))] rfl ?_
   refine AWP_ret ?_
   exact ⟨[.int .i64 (ixor .i64 p1 p2)], by simp, 4, by simp [encL_nil]⟩
  ·
   replace H := ifF C2 H
   refine AWP_sr tok [] [1, 2, 7, 18] (fun a σ => a = [(1, .int .i64 p1), (2, .int .i64 p2), (7, .int .i64 p0), (18, .bool (ieq p0 3))] ∧ σ = hp E0 [] (N0 + 8)) (fun K hK => ?_) ?_
   ·
    skip
    simp -dsimp -implicitDefEqProofs (maxDischargeDepth := 6)
    exact hK _ _ ⟨rfl, rfl⟩
   rintro a σ ⟨rfl, rfl⟩
   refine AWP_cond (ieq p0 3) rfl (fun C3 => ?_) (fun C3 => ?_)
   ·
    replace H := ifT C3 H
    refine AWP_sr tok [] [6] (fun a σ => a = [(6, .int .i64 (iand .i64 p1 p2))] ∧ σ = hp E0 [] (N0 + 12)) (fun K hK => ?_) ?_
    ·
     skip
     simp -dsimp -implicitDefEqProofs (maxDischargeDepth := 6)
     exact hK _ _ ⟨rfl, rfl⟩
    rintro a σ ⟨rfl, rfl⟩
    replace H := Option.some.inj H; subst H
    refine AWP_kp [6] [(6, .int .i64 (iand .i64 p1 p2))] rfl ?_
    refine AWP_ret ?_
    exact ⟨[.int .i64 (iand .i64 p1 p2)], by simp, 4, by simp [encL_nil]⟩
   ·
    replace H := ifF C3 H
    refine AWP_sr tok [] [1, 2, 7, 23] (fun a σ => a = [(1, .int .i64 p1), (2, .int .i64 p2), (7, .int .i64 p0), (23, .bool (ieq p0 4))] ∧ σ = hp E0 [] (N0 + 10)) (fun K hK => ?_) ?_
    ·
     skip
     simp -dsimp -implicitDefEqProofs (maxDischargeDepth := 6)
     exact hK _ _ ⟨rfl, rfl⟩
    rintro a σ ⟨rfl, rfl⟩
    refine AWP_cond (ieq p0 4) rfl (fun C4 => ?_) (fun C4 => ?_)
    ·
     replace H := ifT C4 H
     obtain ⟨r1, hr1, H⟩ := bindE H
     refine AWP_sr tok [] [6] (fun a σ => a = [(6, .int .i64 r1)] ∧ σ = hp E0 [] (N0 + 15)) (fun K hK => ?_) ?_
     ·
      skip
      simp -dsimp -implicitDefEqProofs (maxDischargeDepth := 6)
      refine (c138 hr1).app ?_; try simp -dsimp -implicitDefEqProofs (maxDischargeDepth := 6)
      exact hK _ _ ⟨rfl, rfl⟩
     rintro a σ ⟨rfl, rfl⟩
     replace H := Option.some.inj H; subst H
     refine AWP_kp [6] [(6, .int .i64 r1)] rfl ?_
     refine AWP_ret ?_
     exact ⟨[.int .i64 r1], by simp, 4, by simp [encL_nil]⟩
    ·
     replace H := ifF C4 H
     refine AWP_sr tok [] [1, 2, 7, 29] (fun a σ => a = [(1, .int .i64 p1), (2, .int .i64 p2), (7, .int .i64 p0), (29, .bool (ieq p0 5))] ∧ σ = hp E0 [] (N0 + 12)) (fun K hK => ?_) ?_
     ·
      skip
      simp -dsimp -implicitDefEqProofs (maxDischargeDepth := 6)
      exact hK _ _ ⟨rfl, rfl⟩
     rintro a σ ⟨rfl, rfl⟩
     refine AWP_cond (ieq p0 5) rfl (fun C5 => ?_) (fun C5 => ?_)
     ·
      replace H := ifT C5 H
      obtain ⟨r2, hr2, H⟩ := bindE H
      refine AWP_sr tok [] [6] (fun a σ => a = [(6, .int .i64 r2)] ∧ σ = hp E0 [] (N0 + 17)) (fun K hK => ?_) ?_
      ·
       skip
       simp -dsimp -implicitDefEqProofs (maxDischargeDepth := 6)
       refine (c138 hr2).app ?_; try simp -dsimp -implicitDefEqProofs (maxDischargeDepth := 6)
       exact hK _ _ ⟨rfl, rfl⟩
      rintro a σ ⟨rfl, rfl⟩
      replace H := Option.some.inj H; subst H
      refine AWP_kp [6] [(6, .int .i64 r2)] rfl ?_
      refine AWP_ret ?_
      exact ⟨[.int .i64 r2], by simp, 4, by simp [encL_nil]⟩
     ·
      replace H := ifF C5 H
      refine AWP_sr tok [] [1, 2, 7, 35] (fun a σ => a = [(1, .int .i64 p1), (2, .int .i64 p2), (7, .int .i64 p0), (35, .bool (ieq p0 6))] ∧ σ = hp E0 [] (N0 + 14)) (fun K hK => ?_) ?_
      ·
       skip
       simp -dsimp -implicitDefEqProofs (maxDischargeDepth := 6)
       exact hK _ _ ⟨rfl, rfl⟩
      rintro a σ ⟨rfl, rfl⟩
      refine AWP_cond (ieq p0 6) rfl (fun C6 => ?_) (fun C6 => ?_)
      ·
       replace H := ifT C6 H
       obtain ⟨v3, hv3, H⟩ := bindE H
       obtain ⟨r4, hr4, H⟩ := bindE H
       refine AWP_sr tok [] [6] (fun a σ => a = [(6, .int .i64 r4)] ∧ σ = hp E0 [] (N0 + 20)) (fun K hK => ?_) ?_
       ·
        skip
        simp -dsimp -implicitDefEqProofs (maxDischargeDepth := 6) [hv3]
        refine (c58 hr4).app ?_; try simp -dsimp -implicitDefEqProofs (maxDischargeDepth := 6) [hv3]
        exact hK _ _ ⟨rfl, rfl⟩
       rintro a σ ⟨rfl, rfl⟩
       replace H := Option.some.inj H; subst H
       refine AWP_kp [6] [(6, .int .i64 r4)] rfl ?_
       refine AWP_ret ?_
       exact ⟨[.int .i64 r4], by simp, 4, by simp [encL_nil]⟩
      ·
       replace H := ifF C6 H
       refine AWP_sr tok [] [1, 2, 7, 42] (fun a σ => a = [(1, .int .i64 p1), (2, .int .i64 p2), (7, .int .i64 p0), (42, .bool (ieq p0 7))] ∧ σ = hp E0 [] (N0 + 16)) (fun K hK => ?_) ?_
       ·
        skip
        simp -dsimp -implicitDefEqProofs (maxDischargeDepth := 6)
        exact hK _ _ ⟨rfl, rfl⟩
       rintro a σ ⟨rfl, rfl⟩
       refine AWP_cond (ieq p0 7) rfl (fun C7 => ?_) (fun C7 => ?_)
       ·
        replace H := ifT C7 H
        obtain ⟨v5, hv5, H⟩ := bindE H
        refine AWP_sr tok [] [6] (fun a σ => a = [(6, .int .i64 v5)] ∧ σ = hp E0 [] (N0 + 21)) (fun K hK => ?_) ?_
        ·
         skip
         simp -dsimp -implicitDefEqProofs (maxDischargeDepth := 6) [hv5]
         exact hK _ _ ⟨rfl, rfl⟩
        rintro a σ ⟨rfl, rfl⟩
        replace H := Option.some.inj H; subst H
        refine AWP_kp [6] [(6, .int .i64 v5)] rfl ?_
        refine AWP_ret ?_
        exact ⟨[.int .i64 v5], by simp, 4, by simp [encL_nil]⟩
       ·
        replace H := ifF C7 H
        refine AWP_sr tok [] [1, 2, 7, 48] (fun a σ => a = [(1, .int .i64 p1), (2, .int .i64 p2), (7, .int .i64 p0), (48, .bool (ieq p0 8))] ∧ σ = hp E0 [] (N0 + 18)) (fun K hK => ?_) ?_
        ·
         skip
         simp -dsimp -implicitDefEqProofs (maxDischargeDepth := 6)
         exact hK _ _ ⟨rfl, rfl⟩
        rintro a σ ⟨rfl, rfl⟩
        refine AWP_cond (ieq p0 8) rfl (fun C8 => ?_) (fun C8 => ?_)
        ·
         replace H := ifT C8 H
         obtain ⟨r6, hr6, H⟩ := bindE H
         refine AWP_sr tok [] [6] (fun a σ => a = [(6, .int .i64 r6)] ∧ σ = hp E0 [] (N0 + 23)) (fun K hK => ?_) ?_
         ·
          skip
          simp -dsimp -implicitDefEqProofs (maxDischargeDepth := 6)
          refine (c58 hr6).app ?_; try simp -dsimp -implicitDefEqProofs (maxDischargeDepth := 6)
          exact hK _ _ ⟨rfl, rfl⟩
         rintro a σ ⟨rfl, rfl⟩
         replace H := Option.some.inj H; subst H
         refine AWP_kp [6] [(6, .int .i64 r6)] rfl ?_
         refine AWP_ret ?_
         exact ⟨[.int .i64 r6], by simp, 4, by simp [encL_nil]⟩
        ·
         replace H := ifF C8 H
         refine AWP_sr tok [] [1, 2, 7, 54] (fun a σ => a = [(1, .int .i64 p1), (2, .int .i64 p2), (7, .int .i64 p0), (54, .bool (ieq p0 9))] ∧ σ = hp E0 [] (N0 + 20)) (fun K hK => ?_) ?_
         ·
          skip
          simp -dsimp -implicitDefEqProofs (maxDischargeDepth := 6)
          exact hK _ _ ⟨rfl, rfl⟩
         rintro a σ ⟨rfl, rfl⟩
         refine AWP_cond (ieq p0 9) rfl (fun C9 => ?_) (fun C9 => ?_)
         ·
          replace H := ifT C9 H
          obtain ⟨r7, hr7, H⟩ := bindE H
          refine AWP_sr tok [] [6] (fun a σ => a = [(6, .int .i64 r7)] ∧ σ = hp E0 [] (N0 + 25)) (fun K hK => ?_) ?_
          ·
           skip
           simp -dsimp -implicitDefEqProofs (maxDischargeDepth := 6)
           refine (c58 hr7).app ?_; try simp -dsimp -implicitDefEqProofs (maxDischargeDepth := 6)
           exact hK _ _ ⟨rfl, rfl⟩
          rintro a σ ⟨rfl, rfl⟩
          replace H := Option.some.inj H; subst H
          refine AWP_kp [6] [(6, .int .i64 r7)] rfl ?_
          refine AWP_ret ?_
          exact ⟨[.int .i64 r7], by simp, 4, by simp [encL_nil]⟩
         ·
          replace H := ifF C9 H
          refine AWP_sr tok [] [1, 2, 7, 60] (fun a σ => a = [(1, .int .i64 p1), (2, .int .i64 p2), (7, .int .i64 p0), (60, .bool (ieq p0 10))] ∧ σ = hp E0 [] (N0 + 22)) (fun K hK => ?_) ?_
          ·
           skip
           simp -dsimp -implicitDefEqProofs (maxDischargeDepth := 6)
           exact hK _ _ ⟨rfl, rfl⟩
          rintro a σ ⟨rfl, rfl⟩
          refine AWP_cond (ieq p0 10) rfl (fun C10 => ?_) (fun C10 => ?_)
          ·
           replace H := ifT C10 H
           obtain ⟨r8, hr8, H⟩ := bindE H
           refine AWP_sr tok [] [6] (fun a σ => a = [(6, .int .i64 r8)] ∧ σ = hp E0 [] (N0 + 27)) (fun K hK => ?_) ?_
           ·
            skip
            simp -dsimp -implicitDefEqProofs (maxDischargeDepth := 6)
            refine (c58 hr8).app ?_; try simp -dsimp -implicitDefEqProofs (maxDischargeDepth := 6)
            exact hK _ _ ⟨rfl, rfl⟩
           rintro a σ ⟨rfl, rfl⟩
           replace H := Option.some.inj H; subst H
           refine AWP_kp [6] [(6, .int .i64 r8)] rfl ?_
           refine AWP_ret ?_
           exact ⟨[.int .i64 r8], by simp, 4, by simp [encL_nil]⟩
          ·
           replace H := ifF C10 H
           refine AWP_sr tok [] [1, 2, 66] (fun a σ => a = [(1, .int .i64 p1), (2, .int .i64 p2), (66, .bool (ieq p0 11))] ∧ σ = hp E0 [] (N0 + 24)) (fun K hK => ?_) ?_
           ·
            skip
            simp -dsimp -implicitDefEqProofs (maxDischargeDepth := 6)
            exact hK _ _ ⟨rfl, rfl⟩
           rintro a σ ⟨rfl, rfl⟩
           refine AWP_cond (ieq p0 11) rfl (fun C11 => ?_) (fun C11 => ?_)
           ·
            replace H := ifT C11 H
            refine AWP_sq [1, 2] fun K2 hK2 => ?_
            refine AWP_sr tok [] [1, 2, 69] (fun a σ => a = [(1, .int .i64 p1), (2, .int .i64 p2), (69, .bool (ieq p2 0))] ∧ σ = hp E0 [] (N0 + 26)) (fun K hK => ?_) ?_
            ·
             skip
             simp -dsimp -implicitDefEqProofs (maxDischargeDepth := 6)
             exact hK _ _ ⟨rfl, rfl⟩
            rintro a σ ⟨rfl, rfl⟩
            refine AWP_cond (ieq p2 0) rfl (fun C12 => ?_) (fun C12 => ?_)
            ·
             replace H := ifT C12 H
             refine AWP_sr tok [] [6] (fun a σ => a = [(6, .int .i64 (-1))] ∧ σ = hp E0 [] (N0 + 27)) (fun K hK => ?_) ?_
             ·
              skip
              simp -dsimp -implicitDefEqProofs (maxDischargeDepth := 6)
              exact hK _ _ ⟨rfl, rfl⟩
             rintro a σ ⟨rfl, rfl⟩
             replace H := Option.some.inj H; subst H
             refine AWP_kp [6] [(6, .int .i64 (-1))] rfl ?_
             refine AWP_ret ?_
             exact ⟨[.int .i64 (-1)], by simp, 4, by simp [encL_nil]⟩
            ·
             replace H := ifF C12 H
             refine AWP_skip ?_
             show K2 _ _
             refine keepE (l := [1, 2]) (x := [(1, .int .i64 p1), (2, .int .i64 p2)]) rfl fun a' ha => ?_
             refine hK2 _ _ ?_; rw [ha]
             refine Rc.mk ?_
             obtain ⟨v9, hv9, H⟩ := bindE H
             obtain ⟨r10, hr10, H⟩ := bindE H
             refine AWP_sr tok [] [6] (fun a σ => a = [(6, .int .i64 r10)] ∧ σ = hp E0 [] (N0 + 31)) (fun K hK => ?_) ?_
             ·
              skip
              simp -dsimp -implicitDefEqProofs (maxDischargeDepth := 6) [hv9]
              refine (c58 hr10).app ?_; try simp -dsimp -implicitDefEqProofs (maxDischargeDepth := 6) [hv9]
              exact hK _ _ ⟨rfl, rfl⟩
             rintro a σ ⟨rfl, rfl⟩
             replace H := Option.some.inj H; subst H
             refine AWP_kp [6] [(6, .int .i64 r10)] rfl ?_
             refine AWP_ret ?_
             exact ⟨[.int .i64 r10], by simp, 4, by simp [encL_nil]⟩
           ·
            replace H := ifF C11 H
            refine AWP_skip ?_
            show K1 _ _
            refine keepE (l := [1, 2]) (x := [(1, .int .i64 p1), (2, .int .i64 p2)]) rfl fun a' ha => ?_
            refine hK1 _ _ ?_; rw [ha]
            refine Rc.mk ?_
            refine AWP_sq [1, 2] fun K3 hK3 => ?_
            refine AWP_sr tok [] [1, 2, 75] (fun a σ => a = [(1, .int .i64 p1), (2, .int .i64 p2), (75, .bool (ieq p2 0))] ∧ σ = hp E0 [] (N0 + 26)) (fun K hK => ?_) ?_
            ·
             skip
             simp -dsimp -implicitDefEqProofs (maxDischargeDepth := 6)
             exact hK _ _ ⟨rfl, rfl⟩
            rintro a σ ⟨rfl, rfl⟩
            refine AWP_cond (ieq p2 0) rfl (fun C13 => ?_) (fun C13 => ?_)
            ·
             replace H := ifT C13 H
             refine AWP_sr tok [] [6] (fun a σ => a = [(6, .int .i64 p1)] ∧ σ = hp E0 [] (N0 + 28)) (fun K hK => ?_) ?_
             ·
              skip
              simp -dsimp -implicitDefEqProofs (maxDischargeDepth := 6)
              exact hK _ _ ⟨rfl, rfl⟩
             rintro a σ ⟨rfl, rfl⟩
             replace H := Option.some.inj H; subst H
             refine AWP_kp [6] [(6, .int .i64 p1)] rfl ?_
             refine AWP_ret ?_
             exact ⟨[.int .i64 p1], by simp, 4, by simp [encL_nil]⟩
            ·
             replace H := ifF C13 H
             refine AWP_skip ?_
             show K3 _ _
             refine keepE (l := [1, 2]) (x := [(1, .int .i64 p1), (2, .int .i64 p2)]) rfl fun a' ha => ?_
             refine hK3 _ _ ?_; rw [ha]
             refine Rc.mk ?_
             obtain ⟨v11, hv11, H⟩ := bindE H
             refine AWP_sr tok [] [6] (fun a σ => a = [(6, .int .i64 v11)] ∧ σ = hp E0 [] (N0 + 30)) (fun K hK => ?_) ?_
             ·
              skip
              simp -dsimp -implicitDefEqProofs (maxDischargeDepth := 6) [hv11]
              exact hK _ _ ⟨rfl, rfl⟩
             rintro a σ ⟨rfl, rfl⟩
             replace H := Option.some.inj H; subst H
             refine AWP_kp [6] [(6, .int .i64 v11)] rfl ?_
             refine AWP_ret ?_
             exact ⟨[.int .i64 v11], by simp, 4, by simp [encL_nil]⟩
theorem c80 {p0 : gMachine} {r : Int × gMachine} (H : i_Machine_step p0 = some r) {σ : AHeap} {w0 : Nat} {W0 : List (List AV)} {r0_ : Nat} (q0 : σ.objs w0 = some ⟨26, 3, W0⟩) (g0 : W0[r0_]? = some [.osl 3 1 (encL rI p0.Regs), .int .i64 p0.Pc, .osl 3 1 (encL rI p0.Mem)]) : ACalls Tryd.prog G 80 [.ptr w0 r0_ 0] σ (fun v σ' => ∃ M : Nat, σ.next ≤ M ∧ v = .int .i64 r.1 ∧ σ' = hp σ.objs [(w0, some ⟨26, 3, W0.set r0_ [.osl 3 1 (encL rI r.2.Regs), .int .i64 r.2.Pc, .osl 3 1 (encL rI r.2.Mem)]⟩)] M) := by
 refine ACalls_fr (L := [(w0, some ⟨26, 3, W0⟩)]) (Q1 := fun v σ' => ∃ M : Nat, σ.next ≤ M ∧ v = .int .i64 r.1 ∧ σ' = hp E0 [(w0, some ⟨26, 3, W0.set r0_ [.osl 3 1 (encL rI r.2.Regs), .int .i64 r.2.Pc, .osl 3 1 (encL rI r.2.Mem)]⟩)] M) (by simp [q0]) (fun hlt => ?_) ?_ ⟨_, Tryd.func80, rfl, rfl⟩
 rotate_left
 ·
  rintro v σ1 ⟨M, h0, rfl, rfl⟩
  exact ⟨_, M, rfl, by simp, by simp; try omega, M, h0, rfl, rfl⟩
 generalize σ.next = N0 at hlt ⊢
 have lw0 : w0 < N0 := hlt _ (.head _) rfl
 have gs_W0 : ∀ x, (W0.set r0_ x)[r0_]? = some x := gsetW g0
 rw [show W0 = W0.set r0_ [.osl 3 1 (encL rI p0.Regs), .int .i64 p0.Pc, .osl 3 1 (encL rI p0.Mem)] from (set_same g0).symm]
 refine ACalls_fn tok Tryd.func80 (by kernel_rfl) rfl Tryd.ntmps80 Tryd.results80 rfl ?_
 simp only [argsA, Nat.reduceAdd, hp_next]
 unfold i_Machine_step at H
 refine AWP_sr tok [] [0] (fun a σ => a = [(0, .ptr w0 r0_ 0)] ∧ σ = hp E0 [(w0, some ⟨26, 3, W0.set r0_ [.osl 3 1 (encL rI p0.Regs), .int .i64 p0.Pc, .osl 3 1 (encL rI p0.Mem)]⟩)] (N0 + 1)) (fun K hK => ?_) ?_
 ·
  skip
  simp -dsimp -implicitDefEqProofs (maxDischargeDepth := 6) [gs_W0, List.set_set]
  exact hK _ _ ⟨rfl, rfl⟩
 rintro a σ ⟨rfl, rfl⟩
 refine gUnp AWP_ref (ty := 3) (sz := 1) (es := encL rI p0.Mem) (o := w0) (ob := ⟨26, 3, W0.set r0_ [.osl 3 1 (encL rI p0.Regs), .int .i64 p0.Pc, .osl 3 1 (encL rI p0.Mem)]⟩) (row := [.osl 3 1 (encL rI p0.Regs), .int .i64 p0.Pc, .osl 3 1 (encL rI p0.Mem)]) (r := r0_) (i := 2) [(w0, some ⟨26, 3, W0.set r0_ [.osl 3 1 (encL rI p0.Regs), .int .i64 p0.Pc, .sl (N0 + 1) 0 p0.Mem.length]⟩), (N0 + 1, some ⟨3, 1, encL rI p0.Mem⟩)] (by simp (disch := omega)) (by simp (disch := omega) [gs_W0]) rfl (by simp (disch := omega) [List.set_set]) ?_
 obtain ⟨r1, hr1, H⟩ := bindE H
 refine AWP_sr tok [] [0, 3] (fun a σ => ∃ M1 : Nat, N0 + 9 ≤ M1 ∧ a = [(0, .ptr w0 r0_ 0), (3, optp (N0 + 1) r1)] ∧ σ = hp E0 [(w0, some ⟨26, 3, W0.set r0_ [.osl 3 1 (encL rI p0.Regs), .int .i64 p0.Pc, .sl (N0 + 1) 0 p0.Mem.length]⟩), (N0 + 1, some ⟨3, 1, encL rI p0.Mem⟩)] M1) (fun K hK => ?_) ?_
 ·
  skip
  have e0 := nq (a := w0) (b := N0 + 1) (by omega)
  simp -dsimp -implicitDefEqProofs (maxDischargeDepth := 6) [e0, gs_W0, List.set_set]
  refine (c135_c0_2_moo (W0 := W0.set r0_ [.osl 3 1 (encL rI p0.Regs), .int .i64 p0.Pc, .sl (N0 + 1) 0 p0.Mem.length]) (r0_ := r0_) (w0c2 := N0 + 1) (H := hr1) (by simp [e0, gs_W0, List.set_set]) (by simp [e0, gs_W0, List.set_set]) (by simp [e0, gs_W0, List.set_set]) (by simp [e0, gs_W0, List.set_set])).mono ?_; rintro _ _ ⟨M1, fM1_0, rfl, rfl⟩; simp only [hp_next] at fM1_0
  try simp -dsimp -implicitDefEqProofs (maxDischargeDepth := 6) [e0, gs_W0, List.set_set, hp_over_some, hp_over_none]
  exact hK _ _ ⟨M1, (by omega), rfl, rfl⟩
 rintro a σ ⟨M1, fM1_0, rfl, rfl⟩
 refine AWP_sq [0, 3] fun K1 hK1 => ?_
 refine AWP_sr tok [] [0, 3, 17] (fun a σ => a = [(0, .ptr w0 r0_ 0), (3, optp (N0 + 1) r1), (17, .bool r1.isNone)] ∧ σ = hp E0 [(w0, some ⟨26, 3, W0.set r0_ [.osl 3 1 (encL rI p0.Regs), .int .i64 p0.Pc, .sl (N0 + 1) 0 p0.Mem.length]⟩), (N0 + 1, some ⟨3, 1, encL rI p0.Mem⟩)] (M1 + 2)) (fun K hK => ?_) ?_
 ·
  skip
  have e0 := nq (a := w0) (b := N0 + 1) (by omega)
  simp -dsimp -implicitDefEqProofs (maxDischargeDepth := 6) [e0, gs_W0, List.set_set, bin_optp (T := T) (t := 145) rfl]
  exact hK _ _ ⟨rfl, rfl⟩
 rintro a σ ⟨rfl, rfl⟩
 refine AWP_cond r1.isNone rfl (fun C1 => ?_) (fun C1 => ?_)
 ·
  replace H := ifT C1 H
  refine AWP_sr tok [] [2] (fun a σ => a = [(2, .int .i64 3)] ∧ σ = hp E0 [(w0, some ⟨26, 3, W0.set r0_ [.osl 3 1 (encL rI p0.Regs), .int .i64 p0.Pc, .sl (N0 + 1) 0 p0.Mem.length]⟩), (N0 + 1, some ⟨3, 1, encL rI p0.Mem⟩)] (M1 + 3)) (fun K hK => ?_) ?_
  ·
   skip
   have e0 := nq (a := w0) (b := N0 + 1) (by omega)
   simp -dsimp -implicitDefEqProofs (maxDischargeDepth := 6) [e0, gs_W0, List.set_set]
   exact hK _ _ ⟨rfl, rfl⟩
  rintro a σ ⟨rfl, rfl⟩
  replace H := Option.some.inj H; subst H
  refine AWP_kp [2] [(2, .int .i64 3)] rfl ?_
  refine gPk AWP_ref (k := p0.Mem.length) (o := w0) (ob := ⟨26, 3, W0.set r0_ [.osl 3 1 (encL rI p0.Regs), .int .i64 p0.Pc, .sl (N0 + 1) 0 p0.Mem.length]⟩) (row := [.osl 3 1 (encL rI p0.Regs), .int .i64 p0.Pc, .sl (N0 + 1) 0 p0.Mem.length]) (d := (N0 + 1)) (obd := ⟨3, 1, encL rI p0.Mem⟩) (r := r0_) (i := 2) [(w0, some ⟨26, 3, W0.set r0_ [.osl 3 1 (encL rI p0.Regs), .int .i64 p0.Pc, .osl 3 1 (encL rI p0.Mem)]⟩)] (by simp (disch := omega)) (by simp (disch := omega) [gs_W0]) rfl (by simp (disch := omega)) (by simp (disch := omega)) (by first | omega | simp) (by simp (disch := omega) [List.set_set, app_set] <;> omega) (by simp (disch := omega) [List.set_set, app_set]) ?_
  refine AWP_ret ?_
  refine ⟨[.int .i64 3], by simp [gs_W0], M1 + 3, by omega, ?_, ?_⟩
  ·
   simp [encL_nil]
  ·
   first | rfl | simp [List.set_set]
 ·
  replace H := ifF C1 H
  refine AWP_skip ?_
  show K1 _ _
  refine keepE (l := [0, 3]) (x := [(0, .ptr w0 r0_ 0), (3, optp (N0 + 1) r1)]) rfl fun a' ha => ?_
  refine hK1 _ _ ?_; rw [ha]
  refine Rc.mk ?_
  obtain ⟨i2, hi2, H⟩ := bindE H
  obtain ⟨v3, hv3, H⟩ := bindE H
  obtain ⟨r4, hr4, H⟩ := bindE H
  obtain ⟨r5, hr5, H⟩ := bindE H
  refine AWP_sr tok [] [0, 4, 5] (fun a σ => a = [(0, .ptr w0 r0_ 0), (4, .ptr (M1 + 10) 0 0), (5, .bool r5.2)] ∧ σ = hp E0 [(w0, some ⟨26, 3, W0.set r0_ [.osl 3 1 (encL rI p0.Regs), .int .i64 p0.Pc, .sl (N0 + 1) 0 p0.Mem.length]⟩), (N0 + 1, some ⟨3, 1, encL rI p0.Mem⟩), (M1 + 10, some ⟨47, 5, [[.int .i64 r5.1.Op, .int .i64 r5.1.Rd, .int .i64 r5.1.Rs, .int .i64 r5.1.Rt, .int .i64 r5.1.Imm]]⟩)] (M1 + 13)) (fun K hK => ?_) ?_
  ·
   skip
   have e0 := nq (a := w0) (b := N0 + 1) (by omega)
   have e1 := nq (a := w0) (b := M1 + 10) (by omega)
   have e2 := nq (a := N0 + 1) (b := M1 + 10) (by omega)
   have e3 := nq (a := N0) (b := M1 + 9) (by omega)
   simp -dsimp -implicitDefEqProofs (maxDischargeDepth := 6) [e0, e1, e2, e3, gs_W0, List.set_set, hi2, (idx_lt3 hv3).2.2]
   refine (c128 hr4).app ?_; try simp -dsimp -implicitDefEqProofs (maxDischargeDepth := 6) [e0, e1, e2, e3, gs_W0, List.set_set, hi2, (idx_lt3 hv3).2.2]
   refine (c136 hr5).app ?_; try simp -dsimp -implicitDefEqProofs (maxDischargeDepth := 6) [e0, e1, e2, e3, gs_W0, List.set_set, hi2, (idx_lt3 hv3).2.2]
   exact hK _ _ ⟨rfl, rfl⟩
  rintro a σ ⟨rfl, rfl⟩
  refine AWP_sq [0, 4] fun K2 hK2 => ?_
  refine AWP_sr tok [] [0, 4, 27] (fun a σ => a = [(0, .ptr w0 r0_ 0), (4, .ptr (M1 + 10) 0 0), (27, .bool (bnot r5.2))] ∧ σ = hp E0 [(w0, some ⟨26, 3, W0.set r0_ [.osl 3 1 (encL rI p0.Regs), .int .i64 p0.Pc, .sl (N0 + 1) 0 p0.Mem.length]⟩), (N0 + 1, some ⟨3, 1, encL rI p0.Mem⟩), (M1 + 10, some ⟨47, 5, [[.int .i64 r5.1.Op, .int .i64 r5.1.Rd, .int .i64 r5.1.Rs, .int .i64 r5.1.Rt, .int .i64 r5.1.Imm]]⟩)] (M1 + 15)) (fun K hK => ?_) ?_
  ·
   skip
   have e0 := nq (a := w0) (b := N0 + 1) (by omega)
   have e1 := nq (a := w0) (b := M1 + 10) (by omega)
   have e2 := nq (a := N0 + 1) (b := M1 + 10) (by omega)
   have e3 := nq (a := N0) (b := M1 + 9) (by omega)
   simp -dsimp -implicitDefEqProofs (maxDischargeDepth := 6) [e0, e1, e2, e3, gs_W0, List.set_set]
   exact hK _ _ ⟨rfl, rfl⟩
  rintro a σ ⟨rfl, rfl⟩
  refine AWP_cond (bnot r5.2) rfl (fun C2 => ?_) (fun C2 => ?_)
  ·
   replace H := ifT C2 H
   refine AWP_sr tok [] [2] (fun a σ => a = [(2, .int .i64 3)] ∧ σ = hp E0 [(w0, some ⟨26, 3, W0.set r0_ [.osl 3 1 (encL rI p0.Regs), .int .i64 p0.Pc, .sl (N0 + 1) 0 p0.Mem.length]⟩), (N0 + 1, some ⟨3, 1, encL rI p0.Mem⟩), (M1 + 10, some ⟨47, 5, [[.int .i64 r5.1.Op, .int .i64 r5.1.Rd, .int .i64 r5.1.Rs, .int .i64 r5.1.Rt, .int .i64 r5.1.Imm]]⟩)] (M1 + 16)) (fun K hK => ?_) ?_
   ·
    skip
    have e0 := nq (a := w0) (b := N0 + 1) (by omega)
    have e1 := nq (a := w0) (b := M1 + 10) (by omega)
    have e2 := nq (a := N0 + 1) (b := M1 + 10) (by omega)
    have e3 := nq (a := N0) (b := M1 + 9) (by omega)
    simp -dsimp -implicitDefEqProofs (maxDischargeDepth := 6) [e0, e1, e2, e3, gs_W0, List.set_set]
    exact hK _ _ ⟨rfl, rfl⟩
   rintro a σ ⟨rfl, rfl⟩
   replace H := Option.some.inj H; subst H
   refine AWP_kp [2] [(2, .int .i64 3)] rfl ?_
   refine gPk AWP_ref (k := p0.Mem.length) (o := w0) (ob := ⟨26, 3, W0.set r0_ [.osl 3 1 (encL rI p0.Regs), .int .i64 p0.Pc, .sl (N0 + 1) 0 p0.Mem.length]⟩) (row := [.osl 3 1 (encL rI p0.Regs), .int .i64 p0.Pc, .sl (N0 + 1) 0 p0.Mem.length]) (d := (N0 + 1)) (obd := ⟨3, 1, encL rI p0.Mem⟩) (r := r0_) (i := 2) [(w0, some ⟨26, 3, W0.set r0_ [.osl 3 1 (encL rI p0.Regs), .int .i64 p0.Pc, .osl 3 1 (encL rI p0.Mem)]⟩), (M1 + 10, some ⟨47, 5, [[.int .i64 r5.1.Op, .int .i64 r5.1.Rd, .int .i64 r5.1.Rs, .int .i64 r5.1.Rt, .int .i64 r5.1.Imm]]⟩)] (by simp (disch := omega)) (by simp (disch := omega) [gs_W0]) rfl (by simp (disch := omega)) (by simp (disch := omega)) (by first | omega | simp) (by simp (disch := omega) [List.set_set, app_set] <;> omega) (by simp (disch := omega) [List.set_set, app_set]) ?_
   have z0 := nq (a := w0) (b := M1 + 10) (by omega)
   refine gDrop AWP_ref [(w0, some ⟨26, 3, W0.set r0_ [.osl 3 1 (encL rI p0.Regs), .int .i64 p0.Pc, .osl 3 1 (encL rI p0.Mem)]⟩)] (hp_skip (AHeap.Sub.trans (AHeap.Sub.refl _) (hp_drop rfl (by simp; try omega)))) ?_
   refine AWP_ret ?_
   refine ⟨[.int .i64 3], by simp [z0, gs_W0], M1 + 16, by omega, ?_, ?_⟩
   ·
    simp [encL_nil]
   ·
    first | rfl | simp [List.set_set]
  ·
   replace H := ifF C2 H
   refine AWP_skip ?_
   show K2 _ _
   refine keepE (l := [0, 4]) (x := [(0, .ptr w0 r0_ 0), (4, .ptr (M1 + 10) 0 0)]) rfl fun a' ha => ?_
   refine hK2 _ _ ?_; rw [ha]
   refine Rc.mk ?_
   refine gUnp AWP_ref (ty := 3) (sz := 1) (es := encL rI p0.Regs) (o := w0) (ob := ⟨26, 3, W0.set r0_ [.osl 3 1 (encL rI p0.Regs), .int .i64 p0.Pc, .sl (N0 + 1) 0 p0.Mem.length]⟩) (row := [.osl 3 1 (encL rI p0.Regs), .int .i64 p0.Pc, .sl (N0 + 1) 0 p0.Mem.length]) (r := r0_) (i := 0) [(w0, some ⟨26, 3, W0.set r0_ [.sl (M1 + 15) 0 p0.Regs.length, .int .i64 p0.Pc, .sl (N0 + 1) 0 p0.Mem.length]⟩), (N0 + 1, some ⟨3, 1, encL rI p0.Mem⟩), (M1 + 10, some ⟨47, 5, [[.int .i64 r5.1.Op, .int .i64 r5.1.Rd, .int .i64 r5.1.Rs, .int .i64 r5.1.Rt, .int .i64 r5.1.Imm]]⟩), (M1 + 15, some ⟨3, 1, encL rI p0.Regs⟩)] (by simp (disch := omega)) (by simp (disch := omega) [gs_W0]) rfl (by simp (disch := omega) [List.set_set]) ?_
   obtain ⟨v6, hv6, H⟩ := bindE H
   obtain ⟨v7, hv7, H⟩ := bindE H
   refine AWP_sd tok tokM [] [3, 5, 6, 7, 11, 13, 14, 15] [0, 1, 2, 4, 8, 9, 10, 12, 3, 5, 6, 7, 16, 11, 13, 14, 15, 17] [0, 4, 6, 7] (fun a σ => a = [(0, .ptr w0 r0_ 0), (4, .ptr (M1 + 10) 0 0), (6, .int .i64 v6), (7, .int .i64 v7)] ∧ σ = hp E0 [(w0, some ⟨26, 3, W0.set r0_ [.sl (M1 + 15) 0 p0.Regs.length, .int .i64 p0.Pc, .sl (N0 + 1) 0 p0.Mem.length]⟩), (N0 + 1, some ⟨3, 1, encL rI p0.Mem⟩), (M1 + 10, some ⟨47, 5, [[.int .i64 r5.1.Op, .int .i64 r5.1.Rd, .int .i64 r5.1.Rs, .int .i64 r5.1.Rt, .int .i64 r5.1.Imm]]⟩), (M1 + 15, some ⟨3, 1, encL rI p0.Regs⟩)] (M1 + 34)) (by decide) (fun K hK => ?_) ?_
   ·
    simp only [pickL, nthO_succ, nthO_zero]
    have e0 := nq (a := w0) (b := N0 + 1) (by omega)
    have e1 := nq (a := w0) (b := M1 + 10) (by omega)
    have e2 := nq (a := w0) (b := M1 + 15) (by omega)
    have e3 := nq (a := N0 + 1) (b := M1 + 10) (by omega)
    have e4 := nq (a := N0) (b := M1 + 9) (by omega)
    have e5 := nq (a := N0 + 1) (b := M1 + 15) (by omega)
    have e6 := nq (a := N0) (b := M1 + 14) (by omega)
    simp -dsimp -implicitDefEqProofs (maxDischargeDepth := 6) [e0, e1, e2, e3, e4, e5, e6, gs_W0, List.set_set, ixo24 hv6, (idx_lt3 hv6).2.2, ixo24 hv7, (idx_lt3 hv7).2.2]
    exact hK _ _ ⟨rfl, rfl⟩
   rintro a σ ⟨rfl, rfl⟩
   refine gPk AWP_ref (k := p0.Regs.length) (o := w0) (ob := ⟨26, 3, W0.set r0_ [.sl (M1 + 15) 0 p0.Regs.length, .int .i64 p0.Pc, .sl (N0 + 1) 0 p0.Mem.length]⟩) (row := [.sl (M1 + 15) 0 p0.Regs.length, .int .i64 p0.Pc, .sl (N0 + 1) 0 p0.Mem.length]) (d := (M1 + 15)) (obd := ⟨3, 1, encL rI p0.Regs⟩) (r := r0_) (i := 0) [(w0, some ⟨26, 3, W0.set r0_ [.osl 3 1 (encL rI p0.Regs), .int .i64 p0.Pc, .sl (N0 + 1) 0 p0.Mem.length]⟩), (N0 + 1, some ⟨3, 1, encL rI p0.Mem⟩), (M1 + 10, some ⟨47, 5, [[.int .i64 r5.1.Op, .int .i64 r5.1.Rd, .int .i64 r5.1.Rs, .int .i64 r5.1.Rt, .int .i64 r5.1.Imm]]⟩)] (by simp (disch := omega)) (by simp (disch := omega) [gs_W0]) rfl (by simp (disch := omega)) (by simp (disch := omega)) (by first | omega | simp) (by simp (disch := omega) [List.set_set, app_set] <;> omega) (by simp (disch := omega) [List.set_set, app_set]) ?_
   refine gPk AWP_ref (k := p0.Mem.length) (o := w0) (ob := ⟨26, 3, W0.set r0_ [.osl 3 1 (encL rI p0.Regs), .int .i64 p0.Pc, .sl (N0 + 1) 0 p0.Mem.length]⟩) (row := [.osl 3 1 (encL rI p0.Regs), .int .i64 p0.Pc, .sl (N0 + 1) 0 p0.Mem.length]) (d := (N0 + 1)) (obd := ⟨3, 1, encL rI p0.Mem⟩) (r := r0_) (i := 2) [(w0, some ⟨26, 3, W0.set r0_ [.osl 3 1 (encL rI p0.Regs), .int .i64 p0.Pc, .osl 3 1 (encL rI p0.Mem)]⟩), (M1 + 10, some ⟨47, 5, [[.int .i64 r5.1.Op, .int .i64 r5.1.Rd, .int .i64 r5.1.Rs, .int .i64 r5.1.Rt, .int .i64 r5.1.Imm]]⟩)] (by simp (disch := omega)) (by simp (disch := omega) [gs_W0]) rfl (by simp (disch := omega)) (by simp (disch := omega)) (by first | omega | simp) (by simp (disch := omega) [List.set_set, app_set] <;> omega) (by simp (disch := omega) [List.set_set, app_set]) ?_
   obtain ⟨r8, hr8, H⟩ := bindE H
   refine AWP_sr tok [] [0, 4, 6, 7, 8] (fun a σ => a = [(0, .ptr w0 r0_ 0), (4, .ptr (M1 + 10) 0 0), (6, .int .i64 v6), (7, .int .i64 v7), (8, .int .i64 r8)] ∧ σ = hp E0 [(w0, some ⟨26, 3, W0.set r0_ [.osl 3 1 (encL rI p0.Regs), .int .i64 p0.Pc, .osl 3 1 (encL rI p0.Mem)]⟩), (M1 + 10, some ⟨47, 5, [[.int .i64 r5.1.Op, .int .i64 r5.1.Rd, .int .i64 r5.1.Rs, .int .i64 r5.1.Rt, .int .i64 r5.1.Imm]]⟩)] (M1 + 41)) (fun K hK => ?_) ?_
   ·
    skip
    have e0 := nq (a := w0) (b := M1 + 10) (by omega)
    simp -dsimp -implicitDefEqProofs (maxDischargeDepth := 6) [e0, gs_W0, List.set_set]
    refine (c58 hr8).app ?_; try simp -dsimp -implicitDefEqProofs (maxDischargeDepth := 6) [e0, gs_W0, List.set_set]
    exact hK _ _ ⟨rfl, rfl⟩
   rintro a σ ⟨rfl, rfl⟩
   obtain ⟨flj1, hflj1, H⟩ := bindE H
   refine AWP_seq (AWP_named fun K3 hK3 => ?_)
   have hJ1 : ∀ (j1 : Int × gMachine) a σ, flj1 = .next j1 → Rc G 175 N0 (fun a σ => ∃ M2 : Nat, N0 ≤ M2 ∧ a = [(0, .ptr w0 r0_ 0), (8, .int .i64 j1.1)] ∧ σ = hp E0 [(w0, some ⟨26, 3, W0.set r0_ [.osl 3 1 (encL rI j1.2.Regs), .int .i64 j1.2.Pc, .osl 3 1 (encL rI j1.2.Mem)]⟩)] M2) (AAct.keep a [0, 8]) σ → K3 a σ := by
    rintro j1 a σ hfl ⟨b, τ, hr, M2, fM2_0, rfl, rfl⟩
    subst hfl; dsimp only at H
    refine hK3 _ _ (AWP_keep [0, 8] (AWP_ref hr ?_))
    refine AWP_sr tok [] [] (fun a σ => a = [] ∧ σ = hp E0 [(w0, some ⟨26, 3, W0.set r0_ [.osl 3 1 (encL rI j1.2.Regs), .int .i64 j1.1, .osl 3 1 (encL rI j1.2.Mem)]⟩)] (M2 + 5)) (fun K hK => ?_) ?_
    ·
     skip
     simp -dsimp -implicitDefEqProofs (maxDischargeDepth := 6) [gs_W0, List.set_set]
     exact hK _ _ ⟨rfl, rfl⟩
    rintro a σ ⟨rfl, rfl⟩
    refine AWP_sr tok [] [2] (fun a σ => a = [(2, .int .i64 1)] ∧ σ = hp E0 [(w0, some ⟨26, 3, W0.set r0_ [.osl 3 1 (encL rI j1.2.Regs), .int .i64 j1.1, .osl 3 1 (encL rI j1.2.Mem)]⟩)] (M2 + 6)) (fun K hK => ?_) ?_
    ·
     skip
     simp -dsimp -implicitDefEqProofs (maxDischargeDepth := 6) [gs_W0, List.set_set]
     exact hK _ _ ⟨rfl, rfl⟩
    rintro a σ ⟨rfl, rfl⟩
    replace H := Option.some.inj H; subst H
    refine AWP_kp [2] [(2, .int .i64 1)] rfl ?_
    refine AWP_ret ?_
    refine ⟨[.int .i64 1], by simp [gs_W0], M2 + 6, by omega, ?_, ?_⟩
    ·
     simp [encL_nil]
    ·
     first | rfl | simp [List.set_set]
   have Gj1 := H; replace H := hflj1
   refine AWP_sr tok [] [0, 4, 6, 7, 8, 51] (fun a σ => a = [(0, .ptr w0 r0_ 0), (4, .ptr (M1 + 10) 0 0), (6, .int .i64 v6), (7, .int .i64 v7), (8, .int .i64 r8), (51, .int .i64 r5.1.Op)] ∧ σ = hp E0 [(w0, some ⟨26, 3, W0.set r0_ [.osl 3 1 (encL rI p0.Regs), .int .i64 p0.Pc, .osl 3 1 (encL rI p0.Mem)]⟩), (M1 + 10, some ⟨47, 5, [[.int .i64 r5.1.Op, .int .i64 r5.1.Rd, .int .i64 r5.1.Rs, .int .i64 r5.1.Rt, .int .i64 r5.1.Imm]]⟩)] (M1 + 43)) (fun K hK => ?_) ?_
   ·
    skip
    have e0 := nq (a := w0) (b := M1 + 10) (by omega)
    simp -dsimp -implicitDefEqProofs (maxDischargeDepth := 6) [e0, gs_W0, List.set_set]
    exact hK _ _ ⟨rfl, rfl⟩
   rintro a σ ⟨rfl, rfl⟩
   refine AWP_block (AWP_thenB ?_)
   refine AWP_sr tok [] [0, 4, 6, 7, 8, 51, 64] (fun a σ => a = [(0, .ptr w0 r0_ 0), (4, .ptr (M1 + 10) 0 0), (6, .int .i64 v6), (7, .int .i64 v7), (8, .int .i64 r8), (51, .int .i64 r5.1.Op), (64, .bool (ieq r5.1.Op 21))] ∧ σ = hp E0 [(w0, some ⟨26, 3, W0.set r0_ [.osl 3 1 (encL rI p0.Regs), .int .i64 p0.Pc, .osl 3 1 (encL rI p0.Mem)]⟩), (M1 + 10, some ⟨47, 5, [[.int .i64 r5.1.Op, .int .i64 r5.1.Rd, .int .i64 r5.1.Rs, .int .i64 r5.1.Rt, .int .i64 r5.1.Imm]]⟩)] (M1 + 45)) (fun K hK => ?_) ?_
   ·
    skip
    have e0 := nq (a := w0) (b := M1 + 10) (by omega)
    simp -dsimp -implicitDefEqProofs (maxDischargeDepth := 6) [e0, gs_W0, List.set_set]
    exact hK _ _ ⟨rfl, rfl⟩
   rintro a σ ⟨rfl, rfl⟩
   refine AWP_cond (ieq r5.1.Op 21) rfl (fun C3 => ?_) (fun C3 => ?_)
   ·
    replace H := ifT C3 H
    refine AWP_sr tok [] [2] (fun a σ => a = [(2, .int .i64 2)] ∧ σ = hp E0 [(w0, some ⟨26, 3, W0.set r0_ [.osl 3 1 (encL rI p0.Regs), .int .i64 p0.Pc, .osl 3 1 (encL rI p0.Mem)]⟩), (M1 + 10, some ⟨47, 5, [[.int .i64 r5.1.Op, .int .i64 r5.1.Rd, .int .i64 r5.1.Rs, .int .i64 r5.1.Rt, .int .i64 r5.1.Imm]]⟩)] (M1 + 46)) (fun K hK => ?_) ?_
    ·
     skip
     have e0 := nq (a := w0) (b := M1 + 10) (by omega)
     simp -dsimp -implicitDefEqProofs (maxDischargeDepth := 6) [e0, gs_W0, List.set_set]
     exact hK _ _ ⟨rfl, rfl⟩
    rintro a σ ⟨rfl, rfl⟩
    obtain ⟨z, hz, H⟩ := bindE H
    replace H := Option.some.inj H; subst H; dsimp only at Gj1; replace Gj1 := Option.some.inj Gj1; subst Gj1; have H := hz
    replace H := Option.some.inj H; subst H
    refine AWP_kp [2] [(2, .int .i64 2)] rfl ?_
    have z1 := nq (a := w0) (b := M1 + 10) (by omega)
    refine gDrop AWP_ref [(w0, some ⟨26, 3, W0.set r0_ [.osl 3 1 (encL rI p0.Regs), .int .i64 p0.Pc, .osl 3 1 (encL rI p0.Mem)]⟩)] (hp_skip (AHeap.Sub.trans (AHeap.Sub.refl _) (hp_drop rfl (by simp; try omega)))) ?_
    refine AWP_ret ?_
    refine ⟨[.int .i64 2], by simp [z1, gs_W0], M1 + 46, by omega, ?_, ?_⟩
    ·
     simp [encL_nil]
    ·
     first | rfl | simp [List.set_set]
   ·
    replace H := ifF C3 H
    refine AWP_sr tok [] [0, 4, 6, 7, 8, 51, 66] (fun a σ => a = [(0, .ptr w0 r0_ 0), (4, .ptr (M1 + 10) 0 0), (6, .int .i64 v6), (7, .int .i64 v7), (8, .int .i64 r8), (51, .int .i64 r5.1.Op), (66, .bool (ieq r5.1.Op 12))] ∧ σ = hp E0 [(w0, some ⟨26, 3, W0.set r0_ [.osl 3 1 (encL rI p0.Regs), .int .i64 p0.Pc, .osl 3 1 (encL rI p0.Mem)]⟩), (M1 + 10, some ⟨47, 5, [[.int .i64 r5.1.Op, .int .i64 r5.1.Rd, .int .i64 r5.1.Rs, .int .i64 r5.1.Rt, .int .i64 r5.1.Imm]]⟩)] (M1 + 47)) (fun K hK => ?_) ?_
    ·
     skip
     have e0 := nq (a := w0) (b := M1 + 10) (by omega)
     simp -dsimp -implicitDefEqProofs (maxDischargeDepth := 6) [e0, gs_W0, List.set_set]
     exact hK _ _ ⟨rfl, rfl⟩
    rintro a σ ⟨rfl, rfl⟩
    refine AWP_cond (ieq r5.1.Op 12) rfl (fun C4 => ?_) (fun C4 => ?_)
    ·
     replace H := ifT C4 H
     obtain ⟨r11, hr11, H⟩ := bindE H
     obtain ⟨r12, hr12, H⟩ := bindE H
     refine AWP_rd tok tokM [] [2, 5, 8] [0, 1, 3, 4, 5, 6, 7, 2, 8] [0, 8] (fun a σ => ∃ M3 : Nat, M1 + 56 ≤ M3 ∧ a = [(0, .ptr w0 r0_ 0), (8, .int .i64 r8)] ∧ σ = hp E0 [(w0, some ⟨26, 3, W0.set r0_ [.osl 3 1 (encL rI r12.Regs), .int .i64 r12.Pc, .osl 3 1 (encL rI r12.Mem)]⟩), (M1 + 10, some ⟨47, 5, [[.int .i64 r5.1.Op, .int .i64 r5.1.Rd, .int .i64 r5.1.Rs, .int .i64 r5.1.Rt, .int .i64 r5.1.Imm]]⟩)] M3) (by decide) (fun K hK => ?_) ?_
     ·
      simp only [pickL, nthO_succ, nthO_zero]
      have e0 := nq (a := w0) (b := M1 + 10) (by omega)
      simp -dsimp -implicitDefEqProofs (maxDischargeDepth := 6) [e0, gs_W0, List.set_set]
      refine Pc.mk (c58 hr11) ?_; try simp -dsimp -implicitDefEqProofs (maxDischargeDepth := 6) [e0, gs_W0, List.set_set]
      refine (c137_moo (W0 := W0.set r0_ [.osl 3 1 (encL rI p0.Regs), .int .i64 p0.Pc, .osl 3 1 (encL rI p0.Mem)]) (r0_ := r0_) (H := hr12) (by simp [e0, gs_W0, List.set_set]) (by simp [e0, gs_W0, List.set_set])).mono ?_; rintro _ _ ⟨M3, fM3_0, rfl, rfl⟩; simp only [hp_next] at fM3_0
      try simp -dsimp -implicitDefEqProofs (maxDischargeDepth := 6) [e0, gs_W0, List.set_set, hp_over_some, hp_over_none]
      exact hK _ _ ⟨M3, (by omega), rfl, rfl⟩
     rintro a σ ⟨M3, fM3_0, ha, rfl⟩
     replace H := Option.some.inj H
     refine hJ1 _ _ _ H.symm ?_; rw [ha]
     exact Rc.fin (hp_skip (AHeap.Sub.trans (AHeap.Sub.refl _) (hp_drop rfl (by simp; try omega)))) ⟨M3, (by omega), rfl, rfl⟩
    ·
     replace H := ifF C4 H
     refine AWP_sr tok [] [0, 4, 6, 7, 8, 51, 77] (fun a σ => a = [(0, .ptr w0 r0_ 0), (4, .ptr (M1 + 10) 0 0), (6, .int .i64 v6), (7, .int .i64 v7), (8, .int .i64 r8), (51, .int .i64 r5.1.Op), (77, .bool (ieq r5.1.Op 13))] ∧ σ = hp E0 [(w0, some ⟨26, 3, W0.set r0_ [.osl 3 1 (encL rI p0.Regs), .int .i64 p0.Pc, .osl 3 1 (encL rI p0.Mem)]⟩), (M1 + 10, some ⟨47, 5, [[.int .i64 r5.1.Op, .int .i64 r5.1.Rd, .int .i64 r5.1.Rs, .int .i64 r5.1.Rt, .int .i64 r5.1.Imm]]⟩)] (M1 + 49)) (fun K hK => ?_) ?_
     ·
      skip
      have e0 := nq (a := w0) (b := M1 + 10) (by omega)
      simp -dsimp -implicitDefEqProofs (maxDischargeDepth := 6) [e0, gs_W0, List.set_set]
      exact hK _ _ ⟨rfl, rfl⟩
     rintro a σ ⟨rfl, rfl⟩
     refine AWP_cond (ieq r5.1.Op 13) rfl (fun C5 => ?_) (fun C5 => ?_)
     ·
      replace H := ifT C5 H
      obtain ⟨r13, hr13, H⟩ := bindE H
      obtain ⟨r14, hr14, H⟩ := bindE H
      obtain ⟨r15, hr15, H⟩ := bindE H
      obtain ⟨r16, hr16, H⟩ := bindE H
      refine AWP_rd tok tokM [] [2, 6, 10] [0, 1, 3, 4, 5, 6, 7, 8, 9, 2, 10] [0, 8] (fun a σ => ∃ M4 : Nat, M1 + 60 ≤ M4 ∧ a = [(0, .ptr w0 r0_ 0), (8, .int .i64 r8)] ∧ σ = hp E0 [(w0, some ⟨26, 3, W0.set r0_ [.osl 3 1 (encL rI r16.Regs), .int .i64 r16.Pc, .osl 3 1 (encL rI r16.Mem)]⟩), (M1 + 10, some ⟨47, 5, [[.int .i64 r5.1.Op, .int .i64 r5.1.Rd, .int .i64 r5.1.Rs, .int .i64 r5.1.Rt, .int .i64 r5.1.Imm]]⟩)] M4) (by decide) (fun K hK => ?_) ?_
      ·
       simp only [pickL, nthO_succ, nthO_zero]
       have e0 := nq (a := w0) (b := M1 + 10) (by omega)
       simp -dsimp -implicitDefEqProofs (maxDischargeDepth := 6) [e0, gs_W0, List.set_set]
       refine Pc.mk (c128 hr13) ?_; try simp -dsimp -implicitDefEqProofs (maxDischargeDepth := 6) [e0, gs_W0, List.set_set]
       refine Pc.mk (c128 hr14) ?_; try simp -dsimp -implicitDefEqProofs (maxDischargeDepth := 6) [e0, gs_W0, List.set_set]
       refine Pc.mk (c138 hr15) ?_; try simp -dsimp -implicitDefEqProofs (maxDischargeDepth := 6) [e0, gs_W0, List.set_set]
       refine (c137_moo (W0 := W0.set r0_ [.osl 3 1 (encL rI p0.Regs), .int .i64 p0.Pc, .osl 3 1 (encL rI p0.Mem)]) (r0_ := r0_) (H := hr16) (by simp [e0, gs_W0, List.set_set]) (by simp [e0, gs_W0, List.set_set])).mono ?_; rintro _ _ ⟨M4, fM4_0, rfl, rfl⟩; simp only [hp_next] at fM4_0
       try simp -dsimp -implicitDefEqProofs (maxDischargeDepth := 6) [e0, gs_W0, List.set_set, hp_over_some, hp_over_none]
       exact hK _ _ ⟨M4, (by omega), rfl, rfl⟩
      rintro a σ ⟨M4, fM4_0, ha, rfl⟩
      replace H := Option.some.inj H
      refine hJ1 _ _ _ H.symm ?_; rw [ha]
      exact Rc.fin (hp_skip (AHeap.Sub.trans (AHeap.Sub.refl _) (hp_drop rfl (by simp; try omega)))) ⟨M4, (by omega), rfl, rfl⟩
     ·
      replace H := ifF C5 H
      obtain ⟨j2, hj2, H⟩ := bindE H
      refine AWP_seq (AWP_named fun K6 hK6 => ?_)
      have hJ2 : ∀ a σ, Rc G 175 N0 (fun a σ => ∃ M5 : Nat, N0 ≤ M5 ∧ M1 + 10 < M5 ∧ a = [(0, .ptr w0 r0_ 0), (4, .ptr (M1 + 10) 0 0), (6, .int .i64 v6), (7, .int .i64 v7), (8, .int .i64 r8), (51, .int .i64 r5.1.Op), (90, .bool j2)] ∧ σ = hp E0 [(w0, some ⟨26, 3, W0.set r0_ [.osl 3 1 (encL rI p0.Regs), .int .i64 p0.Pc, .osl 3 1 (encL rI p0.Mem)]⟩), (M1 + 10, some ⟨47, 5, [[.int .i64 r5.1.Op, .int .i64 r5.1.Rd, .int .i64 r5.1.Rs, .int .i64 r5.1.Rt, .int .i64 r5.1.Imm]]⟩)] M5) (a.keep [0, 4, 6, 7, 8, 51, 90]) σ → K6 a σ := by
       rintro a σ ⟨b, τ, hr, M5, fM5_0, fM5_1, rfl, rfl⟩
       refine hK6 _ _ (AWP_keep [0, 4, 6, 7, 8, 51, 90] (AWP_ref hr ?_))
       refine AWP_cond j2 rfl (fun C6 => ?_) (fun C6 => ?_)
       ·
        replace H := ifT C6 H
        refine gUnp AWP_ref (ty := 3) (sz := 1) (es := encL rI p0.Mem) (o := w0) (ob := ⟨26, 3, W0.set r0_ [.osl 3 1 (encL rI p0.Regs), .int .i64 p0.Pc, .osl 3 1 (encL rI p0.Mem)]⟩) (row := [.osl 3 1 (encL rI p0.Regs), .int .i64 p0.Pc, .osl 3 1 (encL rI p0.Mem)]) (r := r0_) (i := 2) [(w0, some ⟨26, 3, W0.set r0_ [.osl 3 1 (encL rI p0.Regs), .int .i64 p0.Pc, .sl M5 0 p0.Mem.length]⟩), (M1 + 10, some ⟨47, 5, [[.int .i64 r5.1.Op, .int .i64 r5.1.Rd, .int .i64 r5.1.Rs, .int .i64 r5.1.Rt, .int .i64 r5.1.Imm]]⟩), (M5, some ⟨3, 1, encL rI p0.Mem⟩)] (by simp (disch := omega)) (by simp (disch := omega) [gs_W0]) rfl (by simp (disch := omega) [List.set_set]) ?_
        obtain ⟨r19, hr19, H⟩ := bindE H
        obtain ⟨r20, hr20, H⟩ := bindE H
        refine AWP_sr tok [] [0, 4, 7, 8, 9] (fun a σ => ∃ M6 : Nat, M5 + 9 ≤ M6 ∧ a = [(0, .ptr w0 r0_ 0), (4, .ptr (M1 + 10) 0 0), (7, .int .i64 v7), (8, .int .i64 r8), (9, optp M5 r20)] ∧ σ = hp E0 [(w0, some ⟨26, 3, W0.set r0_ [.osl 3 1 (encL rI p0.Regs), .int .i64 p0.Pc, .sl M5 0 p0.Mem.length]⟩), (M1 + 10, some ⟨47, 5, [[.int .i64 r5.1.Op, .int .i64 r5.1.Rd, .int .i64 r5.1.Rs, .int .i64 r5.1.Rt, .int .i64 r5.1.Imm]]⟩), (M5, some ⟨3, 1, encL rI p0.Mem⟩)] M6) (fun K hK => ?_) ?_
        ·
         skip
         have e0 := nq (a := w0) (b := M1 + 10) (by omega)
         have e1 := nq (a := w0) (b := M5) (by omega)
         have e2 := nq (a := M1 + 10) (b := M5) (by omega)
         simp -dsimp -implicitDefEqProofs (maxDischargeDepth := 6) [e0, e1, e2, gs_W0, List.set_set]
         refine (c58 hr19).app ?_; try simp -dsimp -implicitDefEqProofs (maxDischargeDepth := 6) [e0, e1, e2, gs_W0, List.set_set]
         refine (c135_c0_2_moo (W0 := W0.set r0_ [.osl 3 1 (encL rI p0.Regs), .int .i64 p0.Pc, .sl M5 0 p0.Mem.length]) (r0_ := r0_) (w0c2 := M5) (H := hr20) (by simp [e0, e1, e2, gs_W0, List.set_set]) (by simp [e0, e1, e2, gs_W0, List.set_set]) (by simp [e0, e1, e2, gs_W0, List.set_set]) (by simp [e0, e1, e2, gs_W0, List.set_set])).mono ?_; rintro _ _ ⟨M6, fM6_0, rfl, rfl⟩; simp only [hp_next] at fM6_0
         try simp -dsimp -implicitDefEqProofs (maxDischargeDepth := 6) [e0, e1, e2, gs_W0, List.set_set, hp_over_some, hp_over_none]
         exact hK _ _ ⟨M6, (by omega), rfl, rfl⟩
        rintro a σ ⟨M6, fM6_0, rfl, rfl⟩
        refine AWP_sq [0, 4, 7, 8, 9] fun K4 hK4 => ?_
        refine AWP_sr tok [] [0, 4, 7, 8, 9, 101] (fun a σ => a = [(0, .ptr w0 r0_ 0), (4, .ptr (M1 + 10) 0 0), (7, .int .i64 v7), (8, .int .i64 r8), (9, optp M5 r20), (101, .bool r20.isNone)] ∧ σ = hp E0 [(w0, some ⟨26, 3, W0.set r0_ [.osl 3 1 (encL rI p0.Regs), .int .i64 p0.Pc, .sl M5 0 p0.Mem.length]⟩), (M1 + 10, some ⟨47, 5, [[.int .i64 r5.1.Op, .int .i64 r5.1.Rd, .int .i64 r5.1.Rs, .int .i64 r5.1.Rt, .int .i64 r5.1.Imm]]⟩), (M5, some ⟨3, 1, encL rI p0.Mem⟩)] (M6 + 2)) (fun K hK => ?_) ?_
        ·
         skip
         have e0 := nq (a := w0) (b := M1 + 10) (by omega)
         have e1 := nq (a := w0) (b := M5) (by omega)
         have e2 := nq (a := M1 + 10) (b := M5) (by omega)
         simp -dsimp -implicitDefEqProofs (maxDischargeDepth := 6) [e0, e1, e2, gs_W0, List.set_set, bin_optp (T := T) (t := 145) rfl]
         exact hK _ _ ⟨rfl, rfl⟩
        rintro a σ ⟨rfl, rfl⟩
        refine AWP_cond r20.isNone rfl (fun C7 => ?_) (fun C7 => ?_)
        ·
         replace H := ifT C7 H
         refine AWP_sr tok [] [2] (fun a σ => a = [(2, .int .i64 3)] ∧ σ = hp E0 [(w0, some ⟨26, 3, W0.set r0_ [.osl 3 1 (encL rI p0.Regs), .int .i64 p0.Pc, .sl M5 0 p0.Mem.length]⟩), (M1 + 10, some ⟨47, 5, [[.int .i64 r5.1.Op, .int .i64 r5.1.Rd, .int .i64 r5.1.Rs, .int .i64 r5.1.Rt, .int .i64 r5.1.Imm]]⟩), (M5, some ⟨3, 1, encL rI p0.Mem⟩)] (M6 + 3)) (fun K hK => ?_) ?_
         ·
          skip
          have e0 := nq (a := w0) (b := M1 + 10) (by omega)
          have e1 := nq (a := w0) (b := M5) (by omega)
          have e2 := nq (a := M1 + 10) (b := M5) (by omega)
          simp -dsimp -implicitDefEqProofs (maxDischargeDepth := 6) [e0, e1, e2, gs_W0, List.set_set]
          exact hK _ _ ⟨rfl, rfl⟩
         rintro a σ ⟨rfl, rfl⟩
         obtain ⟨z, hz, H⟩ := bindE H
         replace H := Option.some.inj H; subst H; dsimp only at Gj1; replace Gj1 := Option.some.inj Gj1; subst Gj1; have H := hz
         replace H := Option.some.inj H; subst H
         refine AWP_kp [2] [(2, .int .i64 3)] rfl ?_
         refine gPk AWP_ref (k := p0.Mem.length) (o := w0) (ob := ⟨26, 3, W0.set r0_ [.osl 3 1 (encL rI p0.Regs), .int .i64 p0.Pc, .sl M5 0 p0.Mem.length]⟩) (row := [.osl 3 1 (encL rI p0.Regs), .int .i64 p0.Pc, .sl M5 0 p0.Mem.length]) (d := M5) (obd := ⟨3, 1, encL rI p0.Mem⟩) (r := r0_) (i := 2) [(w0, some ⟨26, 3, W0.set r0_ [.osl 3 1 (encL rI p0.Regs), .int .i64 p0.Pc, .osl 3 1 (encL rI p0.Mem)]⟩), (M1 + 10, some ⟨47, 5, [[.int .i64 r5.1.Op, .int .i64 r5.1.Rd, .int .i64 r5.1.Rs, .int .i64 r5.1.Rt, .int .i64 r5.1.Imm]]⟩)] (by simp (disch := omega)) (by simp (disch := omega) [gs_W0]) rfl (by simp (disch := omega)) (by simp (disch := omega)) (by first | omega | simp) (by simp (disch := omega) [List.set_set, app_set] <;> omega) (by simp (disch := omega) [List.set_set, app_set]) ?_
         have z2 := nq (a := w0) (b := M1 + 10) (by omega)
         refine gDrop AWP_ref [(w0, some ⟨26, 3, W0.set r0_ [.osl 3 1 (encL rI p0.Regs), .int .i64 p0.Pc, .osl 3 1 (encL rI p0.Mem)]⟩)] (hp_skip (AHeap.Sub.trans (AHeap.Sub.refl _) (hp_drop rfl (by simp; try omega)))) ?_
         refine AWP_ret ?_
         refine ⟨[.int .i64 3], by simp [z2, gs_W0], M6 + 3, by omega, ?_, ?_⟩
         ·
          simp [encL_nil]
         ·
          first | rfl | simp [List.set_set]
        ·
         replace H := ifF C7 H
         refine AWP_skip ?_
         show K4 _ _
         refine keepE (l := [0, 4, 7, 8, 9]) (x := [(0, .ptr w0 r0_ 0), (4, .ptr (M1 + 10) 0 0), (7, .int .i64 v7), (8, .int .i64 r8), (9, optp M5 r20)]) rfl fun a' ha => ?_
         refine hK4 _ _ ?_; rw [ha]
         refine Rc.mk ?_
         refine AWP_sr tok [] [0, 4, 7, 8, 9, 104] (fun a σ => a = [(0, .ptr w0 r0_ 0), (4, .ptr (M1 + 10) 0 0), (7, .int .i64 v7), (8, .int .i64 r8), (9, optp M5 r20), (104, .bool (ieq r5.1.Op 16))] ∧ σ = hp E0 [(w0, some ⟨26, 3, W0.set r0_ [.osl 3 1 (encL rI p0.Regs), .int .i64 p0.Pc, .sl M5 0 p0.Mem.length]⟩), (M1 + 10, some ⟨47, 5, [[.int .i64 r5.1.Op, .int .i64 r5.1.Rd, .int .i64 r5.1.Rs, .int .i64 r5.1.Rt, .int .i64 r5.1.Imm]]⟩), (M5, some ⟨3, 1, encL rI p0.Mem⟩)] (M6 + 5)) (fun K hK => ?_) ?_
         ·
          skip
          have e0 := nq (a := w0) (b := M1 + 10) (by omega)
          have e1 := nq (a := w0) (b := M5) (by omega)
          have e2 := nq (a := M1 + 10) (b := M5) (by omega)
          simp -dsimp -implicitDefEqProofs (maxDischargeDepth := 6) [e0, e1, e2, gs_W0, List.set_set]
          exact hK _ _ ⟨rfl, rfl⟩
         rintro a σ ⟨rfl, rfl⟩
         refine AWP_cond (ieq r5.1.Op 16) rfl (fun C8 => ?_) (fun C8 => ?_)
         ·
          replace H := ifT C8 H
          obtain ⟨i21, hi21, H⟩ := bindE H
          obtain ⟨v22, hv22, H⟩ := bindE H
          obtain ⟨l23, hl23, H⟩ := bindE H
          refine AWP_rt tok [] [0, 8] (fun a σ => a = [(0, .ptr w0 r0_ 0), (8, .int .i64 r8)] ∧ σ = hp E0 [(w0, some ⟨26, 3, W0.set r0_ [.osl 3 1 (encL rI p0.Regs), .int .i64 p0.Pc, .sl M5 0 p0.Mem.length]⟩), (M1 + 10, some ⟨47, 5, [[.int .i64 r5.1.Op, .int .i64 r5.1.Rd, .int .i64 r5.1.Rs, .int .i64 r5.1.Rt, .int .i64 r5.1.Imm]]⟩), (M5, some ⟨3, 1, encL rI l23⟩)] (M6 + 9)) (fun K hK => ?_) ?_
          ·
           skip
           have e0 := nq (a := w0) (b := M1 + 10) (by omega)
           have e1 := nq (a := w0) (b := M5) (by omega)
           have e2 := nq (a := M1 + 10) (b := M5) (by omega)
           simp -dsimp -implicitDefEqProofs (maxDischargeDepth := 6) [e0, e1, e2, gs_W0, List.set_set, hi21, (idx_lt3 hv22).2.2, (setx_iff.1 hl23).2.symm]
           exact hK _ _ ⟨rfl, rfl⟩
          rintro a σ ⟨ha, rfl⟩
          (try rw [← setx_len hl23] at ha); (try rw [← setx_len hl23])
          replace H := Option.some.inj H
          refine hJ1 _ _ _ H.symm ?_; rw [ha]
          refine gPk Rc_ref (k := l23.length) (o := w0) (ob := ⟨26, 3, W0.set r0_ [.osl 3 1 (encL rI p0.Regs), .int .i64 p0.Pc, .sl M5 0 l23.length]⟩) (row := [.osl 3 1 (encL rI p0.Regs), .int .i64 p0.Pc, .sl M5 0 l23.length]) (d := M5) (obd := ⟨3, 1, encL rI l23⟩) (r := r0_) (i := 2) [(w0, some ⟨26, 3, W0.set r0_ [.osl 3 1 (encL rI p0.Regs), .int .i64 p0.Pc, .osl 3 1 (encL rI l23)]⟩), (M1 + 10, some ⟨47, 5, [[.int .i64 r5.1.Op, .int .i64 r5.1.Rd, .int .i64 r5.1.Rs, .int .i64 r5.1.Rt, .int .i64 r5.1.Imm]]⟩)] (by simp (disch := omega)) (by simp (disch := omega) [gs_W0]) rfl (by simp (disch := omega)) (by simp (disch := omega)) (by first | omega | simp) (by simp (disch := omega) [List.set_set, app_set] <;> omega) (by simp (disch := omega) [List.set_set, app_set]) ?_
          exact Rc.fin (hp_skip (AHeap.Sub.trans (AHeap.Sub.refl _) (hp_drop rfl (by simp; try omega)))) ⟨M6 + 9, (by omega), rfl, rfl⟩
         ·
          replace H := ifF C8 H
          obtain ⟨i24, hi24, H⟩ := bindE H
          obtain ⟨v25, hv25, H⟩ := bindE H
          obtain ⟨r26, hr26, H⟩ := bindE H
          refine AWP_rd tok tokM [] [2, 5, 6] [0, 1, 3, 4, 2, 5, 6] [0, 8] (fun a σ => ∃ M7 : Nat, M6 + 12 ≤ M7 ∧ a = [(0, .ptr w0 r0_ 0), (8, .int .i64 r8)] ∧ σ = hp E0 [(w0, some ⟨26, 3, W0.set r0_ [.osl 3 1 (encL rI r26.Regs), .int .i64 r26.Pc, .osl 3 1 (encL rI r26.Mem)]⟩), (M1 + 10, some ⟨47, 5, [[.int .i64 r5.1.Op, .int .i64 r5.1.Rd, .int .i64 r5.1.Rs, .int .i64 r5.1.Rt, .int .i64 r5.1.Imm]]⟩)] M7) (by decide) (fun K hK => ?_) ?_
          ·
           simp only [pickL, nthO_succ, nthO_zero]
           have e0 := nq (a := w0) (b := M1 + 10) (by omega)
           have e1 := nq (a := w0) (b := M5) (by omega)
           have e2 := nq (a := M1 + 10) (b := M5) (by omega)
           simp -dsimp -implicitDefEqProofs (maxDischargeDepth := 6) [e0, e1, e2, gs_W0, List.set_set, hi24, (idx_lt3 hv25).2.2]
           refine (c137_c0_2_moo (w0c2 := M5) (W0 := W0.set r0_ [.osl 3 1 (encL rI p0.Regs), .int .i64 p0.Pc, .sl M5 0 p0.Mem.length]) (r0_ := r0_) (H := hr26) (by simp [e0, e1, e2, gs_W0, List.set_set, hi24, (idx_lt3 hv25).2.2]) (by simp [e0, e1, e2, gs_W0, List.set_set, hi24, (idx_lt3 hv25).2.2]) (by simp [e0, e1, e2, gs_W0, List.set_set, hi24, (idx_lt3 hv25).2.2]) (by simp [e0, e1, e2, gs_W0, List.set_set, hi24, (idx_lt3 hv25).2.2])).mono ?_; rintro _ _ ⟨M7, fM7_0, rfl, rfl⟩; simp only [hp_next] at fM7_0
           try simp -dsimp -implicitDefEqProofs (maxDischargeDepth := 6) [e0, e1, e2, gs_W0, List.set_set, hi24, (idx_lt3 hv25).2.2, hp_over_some, hp_over_none]
           exact hK _ _ ⟨M7, (by omega), rfl, rfl⟩
          rintro a σ ⟨M7, fM7_0, ha, rfl⟩
          replace H := Option.some.inj H
          refine hJ1 _ _ _ H.symm ?_; rw [ha]
          exact Rc.fin (hp_skip (AHeap.Sub.trans (AHeap.Sub.refl _) (hp_drop rfl (by simp; try omega)))) ⟨M7, (by omega), rfl, rfl⟩
       ·
        replace H := ifF C6 H
        refine AWP_sr tok [] [0, 4, 6, 7, 8, 51, 115] (fun a σ => a = [(0, .ptr w0 r0_ 0), (4, .ptr (M1 + 10) 0 0), (6, .int .i64 v6), (7, .int .i64 v7), (8, .int .i64 r8), (51, .int .i64 r5.1.Op), (115, .bool (ieq r5.1.Op 15))] ∧ σ = hp E0 [(w0, some ⟨26, 3, W0.set r0_ [.osl 3 1 (encL rI p0.Regs), .int .i64 p0.Pc, .osl 3 1 (encL rI p0.Mem)]⟩), (M1 + 10, some ⟨47, 5, [[.int .i64 r5.1.Op, .int .i64 r5.1.Rd, .int .i64 r5.1.Rs, .int .i64 r5.1.Rt, .int .i64 r5.1.Imm]]⟩)] (M5 + 2)) (fun K hK => ?_) ?_
        ·
         skip
         have e0 := nq (a := w0) (b := M1 + 10) (by omega)
         simp -dsimp -implicitDefEqProofs (maxDischargeDepth := 6) [e0, gs_W0, List.set_set]
         exact hK _ _ ⟨rfl, rfl⟩
        rintro a σ ⟨rfl, rfl⟩
        refine AWP_cond (ieq r5.1.Op 15) rfl (fun C9 => ?_) (fun C9 => ?_)
        ·
         replace H := ifT C9 H
         obtain ⟨r27, hr27, H⟩ := bindE H
         refine AWP_sr tok [] [0, 4, 6] (fun a σ => ∃ M8 : Nat, M5 + 7 ≤ M8 ∧ a = [(0, .ptr w0 r0_ 0), (4, .ptr (M1 + 10) 0 0), (6, .int .i64 v6)] ∧ σ = hp E0 [(w0, some ⟨26, 3, W0.set r0_ [.osl 3 1 (encL rI r27.Regs), .int .i64 r27.Pc, .osl 3 1 (encL rI r27.Mem)]⟩), (M1 + 10, some ⟨47, 5, [[.int .i64 r5.1.Op, .int .i64 r5.1.Rd, .int .i64 r5.1.Rs, .int .i64 r5.1.Rt, .int .i64 r5.1.Imm]]⟩)] M8) (fun K hK => ?_) ?_
         ·
          skip
          have e0 := nq (a := w0) (b := M1 + 10) (by omega)
          simp -dsimp -implicitDefEqProofs (maxDischargeDepth := 6) [e0, gs_W0, List.set_set]
          refine (c137_moo (W0 := W0.set r0_ [.osl 3 1 (encL rI p0.Regs), .int .i64 p0.Pc, .osl 3 1 (encL rI p0.Mem)]) (r0_ := r0_) (H := hr27) (by simp [e0, gs_W0, List.set_set]) (by simp [e0, gs_W0, List.set_set])).mono ?_; rintro _ _ ⟨M8, fM8_0, rfl, rfl⟩; simp only [hp_next] at fM8_0
          try simp -dsimp -implicitDefEqProofs (maxDischargeDepth := 6) [e0, gs_W0, List.set_set, hp_over_some, hp_over_none]
          exact hK _ _ ⟨M8, (by omega), rfl, rfl⟩
         rintro a σ ⟨M8, fM8_0, rfl, rfl⟩
         obtain ⟨r28, hr28, H⟩ := bindE H
         refine AWP_rt tok [] [0, 8] (fun a σ => a = [(0, .ptr w0 r0_ 0), (8, .int .i64 (iandNot .i64 r28 1))] ∧ σ = hp E0 [(w0, some ⟨26, 3, W0.set r0_ [.osl 3 1 (encL rI r27.Regs), .int .i64 r27.Pc, .osl 3 1 (encL rI r27.Mem)]⟩), (M1 + 10, some ⟨47, 5, [[.int .i64 r5.1.Op, .int .i64 r5.1.Rd, .int .i64 r5.1.Rs, .int .i64 r5.1.Rt, .int .i64 r5.1.Imm]]⟩)] (M8 + 7)) (fun K hK => ?_) ?_
         ·
          skip
          have e0 := nq (a := w0) (b := M1 + 10) (by omega)
          simp -dsimp -implicitDefEqProofs (maxDischargeDepth := 6) [e0, gs_W0, List.set_set]
          refine (c58 hr28).app ?_; try simp -dsimp -implicitDefEqProofs (maxDischargeDepth := 6) [e0, gs_W0, List.set_set]
          exact hK _ _ ⟨rfl, rfl⟩
         rintro a σ ⟨ha, rfl⟩
         replace H := Option.some.inj H
         refine hJ1 _ _ _ H.symm ?_; rw [ha]
         exact Rc.fin (hp_skip (AHeap.Sub.trans (AHeap.Sub.refl _) (hp_drop rfl (by simp; try omega)))) ⟨M8 + 7, (by omega), rfl, rfl⟩
        ·
         replace H := ifF C9 H
         obtain ⟨j3, hj3, H⟩ := bindE H
         refine AWP_seq (AWP_named fun K5 hK5 => ?_)
         have hJ3 : ∀ a σ, Rc G 175 N0 (fun a σ => ∃ M9 : Nat, N0 ≤ M9 ∧ M1 + 10 < M9 ∧ a = [(0, .ptr w0 r0_ 0), (4, .ptr (M1 + 10) 0 0), (6, .int .i64 v6), (7, .int .i64 v7), (8, .int .i64 r8), (51, .int .i64 r5.1.Op), (128, .bool j3)] ∧ σ = hp E0 [(w0, some ⟨26, 3, W0.set r0_ [.osl 3 1 (encL rI p0.Regs), .int .i64 p0.Pc, .osl 3 1 (encL rI p0.Mem)]⟩), (M1 + 10, some ⟨47, 5, [[.int .i64 r5.1.Op, .int .i64 r5.1.Rd, .int .i64 r5.1.Rs, .int .i64 r5.1.Rt, .int .i64 r5.1.Imm]]⟩)] M9) (a.keep [0, 4, 6, 7, 8, 51, 128]) σ → K5 a σ := by
          rintro a σ ⟨b, τ, hr, M9, fM9_0, fM9_1, rfl, rfl⟩
          refine hK5 _ _ (AWP_keep [0, 4, 6, 7, 8, 51, 128] (AWP_ref hr ?_))
          refine AWP_cond j3 rfl (fun C10 => ?_) (fun C10 => ?_)
          ·
           replace H := ifT C10 H
           refine AWP_sr tok [] [0, 4, 8, 137] (fun a σ => a = [(0, .ptr w0 r0_ 0), (4, .ptr (M1 + 10) 0 0), (8, .int .i64 r8), (137, .bool (beqb (ieq v6 v7) (ieq r5.1.Op 17)))] ∧ σ = hp E0 [(w0, some ⟨26, 3, W0.set r0_ [.osl 3 1 (encL rI p0.Regs), .int .i64 p0.Pc, .osl 3 1 (encL rI p0.Mem)]⟩), (M1 + 10, some ⟨47, 5, [[.int .i64 r5.1.Op, .int .i64 r5.1.Rd, .int .i64 r5.1.Rs, .int .i64 r5.1.Rt, .int .i64 r5.1.Imm]]⟩)] (M9 + 7)) (fun K hK => ?_) ?_
           ·
            skip
            have e0 := nq (a := w0) (b := M1 + 10) (by omega)
            simp -dsimp -implicitDefEqProofs (maxDischargeDepth := 6) [e0, gs_W0, List.set_set]
            exact hK _ _ ⟨rfl, rfl⟩
           rintro a σ ⟨rfl, rfl⟩
           refine AWP_cond (beqb (ieq v6 v7) (ieq r5.1.Op 17)) rfl (fun C11 => ?_) (fun C11 => ?_)
           ·
            replace H := ifT C11 H
            obtain ⟨r30, hr30, H⟩ := bindE H
            refine AWP_rd tok tokM [] [3, 5] [0, 1, 2, 4, 3, 5, 6, 7, 8] [0, 8] (fun a σ => a = [(0, .ptr w0 r0_ 0), (8, .int .i64 r30)] ∧ σ = hp E0 [(w0, some ⟨26, 3, W0.set r0_ [.osl 3 1 (encL rI p0.Regs), .int .i64 p0.Pc, .osl 3 1 (encL rI p0.Mem)]⟩), (M1 + 10, some ⟨47, 5, [[.int .i64 r5.1.Op, .int .i64 r5.1.Rd, .int .i64 r5.1.Rs, .int .i64 r5.1.Rt, .int .i64 r5.1.Imm]]⟩)] (M9 + 16)) (by decide) (fun K hK => ?_) ?_
            ·
             simp only [pickL, nthO_succ, nthO_zero]
             have e0 := nq (a := w0) (b := M1 + 10) (by omega)
             simp -dsimp -implicitDefEqProofs (maxDischargeDepth := 6) [e0, gs_W0, List.set_set]
             refine Pc.mk (c58 hr30) ?_; try simp -dsimp -implicitDefEqProofs (maxDischargeDepth := 6) [e0, gs_W0, List.set_set]
             exact hK _ _ ⟨rfl, rfl⟩
            rintro a σ ⟨ha, rfl⟩
            replace H := Option.some.inj H
            refine hJ1 _ _ _ H.symm ?_; rw [ha]
            exact Rc.fin (hp_skip (AHeap.Sub.trans (AHeap.Sub.refl _) (hp_drop rfl (by simp; try omega)))) ⟨M9 + 16, (by omega), rfl, rfl⟩
           ·
            replace H := ifF C11 H
            refine AWP_skip ?_
            show K3 _ _
            refine keepE (l := [0, 8]) (x := [(0, .ptr w0 r0_ 0), (8, .int .i64 r8)]) rfl fun a' ha => ?_
            replace H := Option.some.inj H
            refine hJ1 _ _ _ H.symm ?_; rw [ha]
            exact Rc.fin (hp_skip (AHeap.Sub.trans (AHeap.Sub.refl _) (hp_drop rfl (by simp; try omega)))) ⟨M9 + 7, (by omega), rfl, rfl⟩
          ·
           replace H := ifF C10 H
           refine AWP_sr tok [] [0, 4, 6, 7, 8, 51, 146] (fun a σ => a = [(0, .ptr w0 r0_ 0), (4, .ptr (M1 + 10) 0 0), (6, .int .i64 v6), (7, .int .i64 v7), (8, .int .i64 r8), (51, .int .i64 r5.1.Op), (146, .bool (ieq r5.1.Op 19))] ∧ σ = hp E0 [(w0, some ⟨26, 3, W0.set r0_ [.osl 3 1 (encL rI p0.Regs), .int .i64 p0.Pc, .osl 3 1 (encL rI p0.Mem)]⟩), (M1 + 10, some ⟨47, 5, [[.int .i64 r5.1.Op, .int .i64 r5.1.Rd, .int .i64 r5.1.Rs, .int .i64 r5.1.Rt, .int .i64 r5.1.Imm]]⟩)] (M9 + 2)) (fun K hK => ?_) ?_
           ·
            skip
            have e0 := nq (a := w0) (b := M1 + 10) (by omega)
            simp -dsimp -implicitDefEqProofs (maxDischargeDepth := 6) [e0, gs_W0, List.set_set]
            exact hK _ _ ⟨rfl, rfl⟩
           rintro a σ ⟨rfl, rfl⟩
           refine AWP_cond (ieq r5.1.Op 19) rfl (fun C12 => ?_) (fun C12 => ?_)
           ·
            replace H := ifT C12 H
            obtain ⟨r31, hr31, H⟩ := bindE H
            obtain ⟨r32, hr32, H⟩ := bindE H
            refine AWP_rd tok tokM [] [2, 4, 7] [0, 1, 3, 4, 5, 6, 2, 7] [0, 8] (fun a σ => ∃ M10 : Nat, M9 + 10 ≤ M10 ∧ a = [(0, .ptr w0 r0_ 0), (8, .int .i64 r8)] ∧ σ = hp E0 [(w0, some ⟨26, 3, W0.set r0_ [.osl 3 1 (encL rI r32.Regs), .int .i64 r32.Pc, .osl 3 1 (encL rI r32.Mem)]⟩), (M1 + 10, some ⟨47, 5, [[.int .i64 r5.1.Op, .int .i64 r5.1.Rd, .int .i64 r5.1.Rs, .int .i64 r5.1.Rt, .int .i64 r5.1.Imm]]⟩)] M10) (by decide) (fun K hK => ?_) ?_
            ·
             simp only [pickL, nthO_succ, nthO_zero]
             have e0 := nq (a := w0) (b := M1 + 10) (by omega)
             simp -dsimp -implicitDefEqProofs (maxDischargeDepth := 6) [e0, gs_W0, List.set_set]
             refine Pc.mk (c58 hr31) ?_; try simp -dsimp -implicitDefEqProofs (maxDischargeDepth := 6) [e0, gs_W0, List.set_set]
             refine (c137_moo (W0 := W0.set r0_ [.osl 3 1 (encL rI p0.Regs), .int .i64 p0.Pc, .osl 3 1 (encL rI p0.Mem)]) (r0_ := r0_) (H := hr32) (by simp [e0, gs_W0, List.set_set]) (by simp [e0, gs_W0, List.set_set])).mono ?_; rintro _ _ ⟨M10, fM10_0, rfl, rfl⟩; simp only [hp_next] at fM10_0
             try simp -dsimp -implicitDefEqProofs (maxDischargeDepth := 6) [e0, gs_W0, List.set_set, hp_over_some, hp_over_none]
             exact hK _ _ ⟨M10, (by omega), rfl, rfl⟩
            rintro a σ ⟨M10, fM10_0, ha, rfl⟩
            replace H := Option.some.inj H
            refine hJ1 _ _ _ H.symm ?_; rw [ha]
            exact Rc.fin (hp_skip (AHeap.Sub.trans (AHeap.Sub.refl _) (hp_drop rfl (by simp; try omega)))) ⟨M10, (by omega), rfl, rfl⟩
           ·
            replace H := ifF C12 H
            refine AWP_sr tok [] [0, 4, 6, 7, 8, 156] (fun a σ => a = [(0, .ptr w0 r0_ 0), (4, .ptr (M1 + 10) 0 0), (6, .int .i64 v6), (7, .int .i64 v7), (8, .int .i64 r8), (156, .bool (ieq r5.1.Op 20))] ∧ σ = hp E0 [(w0, some ⟨26, 3, W0.set r0_ [.osl 3 1 (encL rI p0.Regs), .int .i64 p0.Pc, .osl 3 1 (encL rI p0.Mem)]⟩), (M1 + 10, some ⟨47, 5, [[.int .i64 r5.1.Op, .int .i64 r5.1.Rd, .int .i64 r5.1.Rs, .int .i64 r5.1.Rt, .int .i64 r5.1.Imm]]⟩)] (M9 + 4)) (fun K hK => ?_) ?_
            ·
             skip
             have e0 := nq (a := w0) (b := M1 + 10) (by omega)
             simp -dsimp -implicitDefEqProofs (maxDischargeDepth := 6) [e0, gs_W0, List.set_set]
             exact hK _ _ ⟨rfl, rfl⟩
            rintro a σ ⟨rfl, rfl⟩
            refine AWP_cond (ieq r5.1.Op 20) rfl (fun C13 => ?_) (fun C13 => ?_)
            ·
             replace H := ifT C13 H
             obtain ⟨r33, hr33, H⟩ := bindE H
             refine AWP_sr tok [] [0, 4] (fun a σ => ∃ M11 : Nat, M9 + 9 ≤ M11 ∧ a = [(0, .ptr w0 r0_ 0), (4, .ptr (M1 + 10) 0 0)] ∧ σ = hp E0 [(w0, some ⟨26, 3, W0.set r0_ [.osl 3 1 (encL rI r33.Regs), .int .i64 r33.Pc, .osl 3 1 (encL rI r33.Mem)]⟩), (M1 + 10, some ⟨47, 5, [[.int .i64 r5.1.Op, .int .i64 r5.1.Rd, .int .i64 r5.1.Rs, .int .i64 r5.1.Rt, .int .i64 r5.1.Imm]]⟩)] M11) (fun K hK => ?_) ?_
             ·
              skip
              have e0 := nq (a := w0) (b := M1 + 10) (by omega)
              simp -dsimp -implicitDefEqProofs (maxDischargeDepth := 6) [e0, gs_W0, List.set_set]
              refine (c137_moo (W0 := W0.set r0_ [.osl 3 1 (encL rI p0.Regs), .int .i64 p0.Pc, .osl 3 1 (encL rI p0.Mem)]) (r0_ := r0_) (H := hr33) (by simp [e0, gs_W0, List.set_set]) (by simp [e0, gs_W0, List.set_set])).mono ?_; rintro _ _ ⟨M11, fM11_0, rfl, rfl⟩; simp only [hp_next] at fM11_0
              try simp -dsimp -implicitDefEqProofs (maxDischargeDepth := 6) [e0, gs_W0, List.set_set, hp_over_some, hp_over_none]
              exact hK _ _ ⟨M11, (by omega), rfl, rfl⟩
             rintro a σ ⟨M11, fM11_0, rfl, rfl⟩
             obtain ⟨r34, hr34, H⟩ := bindE H
             refine AWP_rd tok tokM [] [3, 5] [0, 1, 2, 4, 3, 5, 6, 7, 8] [0, 8] (fun a σ => a = [(0, .ptr w0 r0_ 0), (8, .int .i64 r34)] ∧ σ = hp E0 [(w0, some ⟨26, 3, W0.set r0_ [.osl 3 1 (encL rI r33.Regs), .int .i64 r33.Pc, .osl 3 1 (encL rI r33.Mem)]⟩), (M1 + 10, some ⟨47, 5, [[.int .i64 r5.1.Op, .int .i64 r5.1.Rd, .int .i64 r5.1.Rs, .int .i64 r5.1.Rt, .int .i64 r5.1.Imm]]⟩)] (M11 + 9)) (by decide) (fun K hK => ?_) ?_
             ·
              simp only [pickL, nthO_succ, nthO_zero]
              have e0 := nq (a := w0) (b := M1 + 10) (by omega)
              simp -dsimp -implicitDefEqProofs (maxDischargeDepth := 6) [e0, gs_W0, List.set_set]
              refine Pc.mk (c58 hr34) ?_; try simp -dsimp -implicitDefEqProofs (maxDischargeDepth := 6) [e0, gs_W0, List.set_set]
              exact hK _ _ ⟨rfl, rfl⟩
             rintro a σ ⟨ha, rfl⟩
             replace H := Option.some.inj H
             refine hJ1 _ _ _ H.symm ?_; rw [ha]
             exact Rc.fin (hp_skip (AHeap.Sub.trans (AHeap.Sub.refl _) (hp_drop rfl (by simp; try omega)))) ⟨M11 + 9, (by omega), rfl, rfl⟩
            ·
             replace H := ifF C13 H
             obtain ⟨v35, hv35, H⟩ := bindE H
             obtain ⟨r36, hr36, H⟩ := bindE H
             obtain ⟨r37, hr37, H⟩ := bindE H
             refine AWP_rd tok tokM [] [2, 4, 11] [0, 1, 3, 8, 9, 4, 5, 6, 7, 10, 2, 11] [0, 8] (fun a σ => ∃ M12 : Nat, M9 + 16 ≤ M12 ∧ a = [(0, .ptr w0 r0_ 0), (8, .int .i64 r8)] ∧ σ = hp E0 [(w0, some ⟨26, 3, W0.set r0_ [.osl 3 1 (encL rI r37.Regs), .int .i64 r37.Pc, .osl 3 1 (encL rI r37.Mem)]⟩), (M1 + 10, some ⟨47, 5, [[.int .i64 r5.1.Op, .int .i64 r5.1.Rd, .int .i64 r5.1.Rs, .int .i64 r5.1.Rt, .int .i64 r5.1.Imm]]⟩)] M12) (by decide) (fun K hK => ?_) ?_
             ·
              simp only [pickL, nthO_succ, nthO_zero]
              have e0 := nq (a := w0) (b := M1 + 10) (by omega)
              simp -dsimp -implicitDefEqProofs (maxDischargeDepth := 6) [e0, gs_W0, List.set_set, gx151 hv35]
              refine Pc.mk (c100 hr36) ?_; try simp -dsimp -implicitDefEqProofs (maxDischargeDepth := 6) [e0, gs_W0, List.set_set, gx151 hv35]
              refine (c137_moo (W0 := W0.set r0_ [.osl 3 1 (encL rI p0.Regs), .int .i64 p0.Pc, .osl 3 1 (encL rI p0.Mem)]) (r0_ := r0_) (H := hr37) (by simp [e0, gs_W0, List.set_set, gx151 hv35]) (by simp [e0, gs_W0, List.set_set, gx151 hv35])).mono ?_; rintro _ _ ⟨M12, fM12_0, rfl, rfl⟩; simp only [hp_next] at fM12_0
              try simp -dsimp -implicitDefEqProofs (maxDischargeDepth := 6) [e0, gs_W0, List.set_set, gx151 hv35, hp_over_some, hp_over_none]
              exact hK _ _ ⟨M12, (by omega), rfl, rfl⟩
             rintro a σ ⟨M12, fM12_0, ha, rfl⟩
             replace H := Option.some.inj H
             refine hJ1 _ _ _ H.symm ?_; rw [ha]
             exact Rc.fin (hp_skip (AHeap.Sub.trans (AHeap.Sub.refl _) (hp_drop rfl (by simp; try omega)))) ⟨M12, (by omega), rfl, rfl⟩
         replace H := hj3
         refine AWP_sr tok [] [0, 4, 6, 7, 8, 51, 128] (fun a σ => a = [(0, .ptr w0 r0_ 0), (4, .ptr (M1 + 10) 0 0), (6, .int .i64 v6), (7, .int .i64 v7), (8, .int .i64 r8), (51, .int .i64 r5.1.Op), (128, .bool (ieq r5.1.Op 17))] ∧ σ = hp E0 [(w0, some ⟨26, 3, W0.set r0_ [.osl 3 1 (encL rI p0.Regs), .int .i64 p0.Pc, .osl 3 1 (encL rI p0.Mem)]⟩), (M1 + 10, some ⟨47, 5, [[.int .i64 r5.1.Op, .int .i64 r5.1.Rd, .int .i64 r5.1.Rs, .int .i64 r5.1.Rt, .int .i64 r5.1.Imm]]⟩)] (M5 + 4)) (fun K hK => ?_) ?_
         ·
          skip
          have e0 := nq (a := w0) (b := M1 + 10) (by omega)
          simp -dsimp -implicitDefEqProofs (maxDischargeDepth := 6) [e0, gs_W0, List.set_set]
          exact hK _ _ ⟨rfl, rfl⟩
         rintro a σ ⟨rfl, rfl⟩
         refine AWP_cond (ieq r5.1.Op 17) rfl (fun C14 => ?_) (fun C14 => ?_)
         ·
          replace H := ifT C14 H
          refine AWP_skip ?_
          show K5 _ _
          refine keepE (l := [0, 4, 6, 7, 8, 51, 128]) (x := [(0, .ptr w0 r0_ 0), (4, .ptr (M1 + 10) 0 0), (6, .int .i64 v6), (7, .int .i64 v7), (8, .int .i64 r8), (51, .int .i64 r5.1.Op), (128, .bool (ieq r5.1.Op 17))]) rfl fun a' ha => ?_
          replace H := Option.some.inj H; subst H
          refine hJ3 _ _ ?_; rw [ha]
          exact Rc.fin (AHeap.Sub.refl _) ⟨M5 + 4, (by omega), (by omega), rfl, rfl⟩
         ·
          replace H := ifF C14 H
          refine AWP_rt tok [] [0, 4, 6, 7, 8, 51, 128] (fun a σ => a = [(0, .ptr w0 r0_ 0), (4, .ptr (M1 + 10) 0 0), (6, .int .i64 v6), (7, .int .i64 v7), (8, .int .i64 r8), (51, .int .i64 r5.1.Op), (128, .bool (ieq r5.1.Op 18))] ∧ σ = hp E0 [(w0, some ⟨26, 3, W0.set r0_ [.osl 3 1 (encL rI p0.Regs), .int .i64 p0.Pc, .osl 3 1 (encL rI p0.Mem)]⟩), (M1 + 10, some ⟨47, 5, [[.int .i64 r5.1.Op, .int .i64 r5.1.Rd, .int .i64 r5.1.Rs, .int .i64 r5.1.Rt, .int .i64 r5.1.Imm]]⟩)] (M5 + 6)) (fun K hK => ?_) ?_
          ·
           skip
           have e0 := nq (a := w0) (b := M1 + 10) (by omega)
           simp -dsimp -implicitDefEqProofs (maxDischargeDepth := 6) [e0, gs_W0, List.set_set]
           exact hK _ _ ⟨rfl, rfl⟩
          rintro a σ ⟨ha, rfl⟩
          replace H := Option.some.inj H; subst H
          refine hJ3 _ _ ?_; rw [ha]
          exact Rc.fin (AHeap.Sub.refl _) ⟨M5 + 6, (by omega), (by omega), rfl, rfl⟩
      replace H := hj2
      refine AWP_sr tok [] [0, 4, 6, 7, 8, 51, 90] (fun a σ => a = [(0, .ptr w0 r0_ 0), (4, .ptr (M1 + 10) 0 0), (6, .int .i64 v6), (7, .int .i64 v7), (8, .int .i64 r8), (51, .int .i64 r5.1.Op), (90, .bool (ieq r5.1.Op 14))] ∧ σ = hp E0 [(w0, some ⟨26, 3, W0.set r0_ [.osl 3 1 (encL rI p0.Regs), .int .i64 p0.Pc, .osl 3 1 (encL rI p0.Mem)]⟩), (M1 + 10, some ⟨47, 5, [[.int .i64 r5.1.Op, .int .i64 r5.1.Rd, .int .i64 r5.1.Rs, .int .i64 r5.1.Rt, .int .i64 r5.1.Imm]]⟩)] (M1 + 51)) (fun K hK => ?_) ?_
      ·
       skip
       have e0 := nq (a := w0) (b := M1 + 10) (by omega)
       simp -dsimp -implicitDefEqProofs (maxDischargeDepth := 6) [e0, gs_W0, List.set_set]
       exact hK _ _ ⟨rfl, rfl⟩
      rintro a σ ⟨rfl, rfl⟩
      refine AWP_cond (ieq r5.1.Op 14) rfl (fun C15 => ?_) (fun C15 => ?_)
      ·
       replace H := ifT C15 H
       refine AWP_skip ?_
       show K6 _ _
       refine keepE (l := [0, 4, 6, 7, 8, 51, 90]) (x := [(0, .ptr w0 r0_ 0), (4, .ptr (M1 + 10) 0 0), (6, .int .i64 v6), (7, .int .i64 v7), (8, .int .i64 r8), (51, .int .i64 r5.1.Op), (90, .bool (ieq r5.1.Op 14))]) rfl fun a' ha => ?_
       replace H := Option.some.inj H; subst H
       refine hJ2 _ _ ?_; rw [ha]
       exact Rc.fin (AHeap.Sub.refl _) ⟨M1 + 51, (by omega), (by omega), rfl, rfl⟩
      ·
       replace H := ifF C15 H
       refine AWP_rt tok [] [0, 4, 6, 7, 8, 51, 90] (fun a σ => a = [(0, .ptr w0 r0_ 0), (4, .ptr (M1 + 10) 0 0), (6, .int .i64 v6), (7, .int .i64 v7), (8, .int .i64 r8), (51, .int .i64 r5.1.Op), (90, .bool (ieq r5.1.Op 16))] ∧ σ = hp E0 [(w0, some ⟨26, 3, W0.set r0_ [.osl 3 1 (encL rI p0.Regs), .int .i64 p0.Pc, .osl 3 1 (encL rI p0.Mem)]⟩), (M1 + 10, some ⟨47, 5, [[.int .i64 r5.1.Op, .int .i64 r5.1.Rd, .int .i64 r5.1.Rs, .int .i64 r5.1.Rt, .int .i64 r5.1.Imm]]⟩)] (M1 + 53)) (fun K hK => ?_) ?_
       ·
        skip
        have e0 := nq (a := w0) (b := M1 + 10) (by omega)
        simp -dsimp -implicitDefEqProofs (maxDischargeDepth := 6) [e0, gs_W0, List.set_set]
        exact hK _ _ ⟨rfl, rfl⟩
       rintro a σ ⟨ha, rfl⟩
       replace H := Option.some.inj H; subst H
       refine hJ2 _ _ ?_; rw [ha]
       exact Rc.fin (AHeap.Sub.refl _) ⟨M1 + 53, (by omega), (by omega), rfl, rfl⟩
end Go.Proofs.YtoklfbdcghgmlaaDoor
