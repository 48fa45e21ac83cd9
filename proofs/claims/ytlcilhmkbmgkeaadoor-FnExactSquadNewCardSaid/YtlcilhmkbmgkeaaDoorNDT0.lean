/- The contracts of functions of the program, part 0: each computes what its mirror computes. No conditions. -/
import Derived.Test.YtlcilhmkbmgkeaaDoorNDH
import Derived.Test.YtlcilhmkbmgkeaaDoorNDM
set_option linter.unusedSimpArgs false
set_option linter.unusedVariables false
set_option maxRecDepth 20000
set_option maxHeartbeats 4000000
namespace Go.Proofs.YtlcilhmkbmgkeaaDoor
open Go Go.Abs Go.RowKit

theorem c25 {p0 : (List gInstr)} {p1 : Int} {r : Int} (H : l_szInstrS p0 p1 = some r) : APure Tryd.prog G 25 [.fsl (encL rInstr p0), .int .i64 p1] (.int .i64 r) := by
 refine APure_fn (fun N0 => ?_) (by simp)
 refine ACalls_fn tok Tryd.func25 (by kernel_rfl) rfl Tryd.ntmps25 Tryd.results25 rfl ?_
 simp only [argsA, Nat.reduceAdd, hp_next]
 unfold l_szInstrS at H
 refine AWP_sr tok [] [0, 1] (fun a σ => a = [(0, .fsl (encL rInstr p0)), (1, .int .i64 p1)] ∧ σ = hp E0 [] (N0 + 1)) (fun K hK => ?_) ?_
 ·
  simp -dsimp -implicitDefEqProofs (maxDischargeDepth := 6)
  exact hK _ _ ⟨rfl, rfl⟩
 rintro a σ ⟨rfl, rfl⟩
 refine AWP_sr tok [] [1] (fun a σ => a = [(1, .int .i64 (isub .i64 p1 (ilen p0)))] ∧ σ = hp E0 [] (N0 + 6)) (fun K hK => ?_) ?_
 ·
  simp -dsimp -implicitDefEqProofs (maxDischargeDepth := 6)
  exact hK _ _ ⟨rfl, rfl⟩
 rintro a σ ⟨rfl, rfl⟩
 refine AWP_sq [1] fun K1 hK1 => ?_
 refine AWP_sr tok [] [1, 10] (fun a σ => a = [(1, .int .i64 (isub .i64 p1 (ilen p0))), (10, .bool (ilt (isub .i64 p1 (ilen p0)) 0))] ∧ σ = hp E0 [] (N0 + 8)) (fun K hK => ?_) ?_
 ·
  simp -dsimp -implicitDefEqProofs (maxDischargeDepth := 6)
  exact hK _ _ ⟨rfl, rfl⟩
 rintro a σ ⟨rfl, rfl⟩
 refine AWP_cond (ilt (isub .i64 p1 (ilen p0)) 0) rfl (fun C1 => ?_) (fun C1 => ?_)
 ·
  replace H := ifT C1 H
  refine AWP_sr tok [] [4] (fun a σ => a = [(4, .int .i64 (-1))] ∧ σ = hp E0 [] (N0 + 9)) (fun K hK => ?_) ?_
  ·
   simp -dsimp -implicitDefEqProofs (maxDischargeDepth := 6)
   exact hK _ _ ⟨rfl, rfl⟩
  rintro a σ ⟨rfl, rfl⟩
  replace H := Option.some.inj H; subst H
  refine AWP_kp [4] [(4, .int .i64 (-1))] rfl ?_
  refine AWP_ret ?_
  exact ⟨[.int .i64 (-1)], by simp, 4, by simp [encL_nil]⟩
 ·
  replace H := ifF C1 H
  refine AWP_skip ?_
  show K1 _ _
  refine keepE (l := [1]) (x := [(1, .int .i64 (isub .i64 p1 (ilen p0)))]) rfl fun a' ha => ?_
  refine hK1 _ _ ?_; rw [ha]
  refine Rc.mk ?_
  refine AWP_sr tok [] [4] (fun a σ => a = [(4, .int .i64 (isub .i64 p1 (ilen p0)))] ∧ σ = hp E0 [] (N0 + 10)) (fun K hK => ?_) ?_
  ·
   simp -dsimp -implicitDefEqProofs (maxDischargeDepth := 6)
   exact hK _ _ ⟨rfl, rfl⟩
  rintro a σ ⟨rfl, rfl⟩
  replace H := Option.some.inj H; subst H
  refine AWP_kp [4] [(4, .int .i64 (isub .i64 p1 (ilen p0)))] rfl ?_
  refine AWP_ret ?_
  exact ⟨[.int .i64 (isub .i64 p1 (ilen p0))], by simp, 4, by simp [encL_nil]⟩
theorem c5 {p0 : (List (List gInstr))} {p1 : Int} {r : Int} (H : l_szInstrSS p0 p1 = some r) : APure Tryd.prog G 5 [.fsl (encL rL_Instr p0), .int .i64 p1] (.int .i64 r) := by
 refine APure_fn (fun N0 => ?_) (by simp)
 refine ACalls_fn tok Tryd.func5 (by kernel_rfl) rfl Tryd.ntmps5 Tryd.results5 rfl ?_
 simp only [argsA, Nat.reduceAdd, hp_next]
 unfold l_szInstrSS at H
 refine AWP_sr tok [] [0, 1] (fun a σ => a = [(0, .fsl (encL rL_Instr p0)), (1, .int .i64 p1)] ∧ σ = hp E0 [] (N0 + 1)) (fun K hK => ?_) ?_
 ·
  simp -dsimp -implicitDefEqProofs (maxDischargeDepth := 6)
  exact hK _ _ ⟨rfl, rfl⟩
 rintro a σ ⟨rfl, rfl⟩
 refine AWP_sr tok [] [0, 1] (fun a σ => a = [(0, .fsl (encL rL_Instr p0)), (1, .int .i64 (isub .i64 p1 (ilen p0)))] ∧ σ = hp E0 [] (N0 + 6)) (fun K hK => ?_) ?_
 ·
  simp -dsimp -implicitDefEqProofs (maxDischargeDepth := 6)
  exact hK _ _ ⟨rfl, rfl⟩
 rintro a σ ⟨rfl, rfl⟩
 refine AWP_sq [0, 1] fun K1 hK1 => ?_
 refine AWP_sr tok [] [0, 1, 11] (fun a σ => a = [(0, .fsl (encL rL_Instr p0)), (1, .int .i64 (isub .i64 p1 (ilen p0))), (11, .bool (ilt (isub .i64 p1 (ilen p0)) 0))] ∧ σ = hp E0 [] (N0 + 8)) (fun K hK => ?_) ?_
 ·
  simp -dsimp -implicitDefEqProofs (maxDischargeDepth := 6)
  exact hK _ _ ⟨rfl, rfl⟩
 rintro a σ ⟨rfl, rfl⟩
 refine AWP_cond (ilt (isub .i64 p1 (ilen p0)) 0) rfl (fun C1 => ?_) (fun C1 => ?_)
 ·
  replace H := ifT C1 H
  refine AWP_sr tok [] [4] (fun a σ => a = [(4, .int .i64 (-1))] ∧ σ = hp E0 [] (N0 + 9)) (fun K hK => ?_) ?_
  ·
   simp -dsimp -implicitDefEqProofs (maxDischargeDepth := 6)
   exact hK _ _ ⟨rfl, rfl⟩
  rintro a σ ⟨rfl, rfl⟩
  replace H := Option.some.inj H; subst H
  refine AWP_kp [4] [(4, .int .i64 (-1))] rfl ?_
  refine AWP_ret ?_
  exact ⟨[.int .i64 (-1)], by simp, 4, by simp [encL_nil]⟩
 ·
  replace H := ifF C1 H
  refine AWP_skip ?_
  show K1 _ _
  refine keepE (l := [0, 1]) (x := [(0, .fsl (encL rL_Instr p0)), (1, .int .i64 (isub .i64 p1 (ilen p0)))]) rfl fun a' ha => ?_
  refine hK1 _ _ ?_; rw [ha]
  refine Rc.mk ?_
  refine AWP_sq [1] fun K2 hK2 => ?_
  refine AWP_sr tok [] [0, 1, 5] (fun a σ => a = [(0, .fsl (encL rL_Instr p0)), (1, .int .i64 (isub .i64 p1 (ilen p0))), (5, .int .i64 0)] ∧ σ = hp E0 [] (N0 + 9)) (fun K hK => ?_) ?_
  ·
   simp -dsimp -implicitDefEqProofs (maxDischargeDepth := 6)
   exact hK _ _ ⟨rfl, rfl⟩
  rintro a σ ⟨rfl, rfl⟩
  refine AWP_block (AWP_thenB ?_)
  obtain ⟨e1, hse1, H⟩ := bindE H
  refine AWP_lp [0, 1, 5] (fun s a σ => ∃ M1 : Nat, N0 ≤ M1 ∧ a = [(0, .fsl (encL rL_Instr p0)), (1, .int .i64 s.1), (5, .int .i64 s.2)] ∧ σ = hp E0 [] M1) (fun e x a σ => match e with | .inl s => x = .exit 0 ∧ Rc G 27 N0 (fun a σ => ∃ M2 : Nat, N0 ≤ M2 ∧ a = [(1, .int .i64 s)] ∧ σ = hp E0 [] M2) (AAct.keep a [1]) σ | .inr s => x = .ret ∧ ∃ vs, resA T σ a [.tmp 4] = some vs ∧ ∃ d, thawA (fun _ => true) σ d (tupA vs) = .int .i64 s) hse1 ?_ ?_ ?_
  ·
   refine Rc.kp [0, 1, 5] [(0, .fsl (encL rL_Instr p0)), (1, .int .i64 (isub .i64 p1 (ilen p0))), (5, .int .i64 0)] rfl ?_
   exact Rc.fin (AHeap.Sub.refl _) ⟨N0 + 9, (by omega), rfl, rfl⟩
  ·
   clear H hse1
   rintro ⟨s1, s2⟩ fl a σ H ⟨M1, fM1_0, rfl, rfl⟩ K3 O3 hK3 hO3
   unfold l_szInstrSS_L1 at H; dsimp only at H
   refine AWP_sq [0, 1, 5] fun K4 hK4 => ?_
   refine AWP_sr tok [] [0, 1, 5, 15] (fun a σ => a = [(0, .fsl (encL rL_Instr p0)), (1, .int .i64 s1), (5, .int .i64 s2), (15, .bool (ilt s2 (ilen p0)))] ∧ σ = hp E0 [] (M1 + 4)) (fun K hK => ?_) ?_
   ·
    simp -dsimp -implicitDefEqProofs (maxDischargeDepth := 6)
    exact hK _ _ ⟨rfl, rfl⟩
   rintro a σ ⟨rfl, rfl⟩
   refine AWP_cond (ilt s2 (ilen p0)) rfl (fun C2 => ?_) (fun C2 => ?_)
   ·
    replace H := ifT C2 H
    refine AWP_skip ?_
    show K4 _ _
    refine keepE (l := [0, 1, 5]) (x := [(0, .fsl (encL rL_Instr p0)), (1, .int .i64 s1), (5, .int .i64 s2)]) rfl fun a' ha => ?_
    refine hK4 _ _ ?_; rw [ha]
    refine Rc.mk ?_
    refine AWP_sq [0, 1, 5] fun K5 hK5 => ?_
    refine AWP_block (AWP_thenB ?_)
    obtain ⟨v4, hv4, H⟩ := bindE H
    obtain ⟨r5, hr5, H⟩ := bindE H
    refine AWP_sr tok [] [0, 1, 5] (fun a σ => a = [(0, .fsl (encL rL_Instr p0)), (1, .int .i64 r5), (5, .int .i64 s2)] ∧ σ = hp E0 [] (M1 + 11)) (fun K hK => ?_) ?_
    ·
     simp -dsimp -implicitDefEqProofs (maxDischargeDepth := 6) [ix23 hv4]
     refine (c25 hr5).app ?_; try simp -dsimp -implicitDefEqProofs (maxDischargeDepth := 6) [ix23 hv4]
     exact hK _ _ ⟨rfl, rfl⟩
    rintro a σ ⟨rfl, rfl⟩
    refine AWP_sr tok [] [0, 1, 5, 25] (fun a σ => a = [(0, .fsl (encL rL_Instr p0)), (1, .int .i64 r5), (5, .int .i64 s2), (25, .bool (ilt r5 0))] ∧ σ = hp E0 [] (M1 + 13)) (fun K hK => ?_) ?_
    ·
     simp -dsimp -implicitDefEqProofs (maxDischargeDepth := 6)
     exact hK _ _ ⟨rfl, rfl⟩
    rintro a σ ⟨rfl, rfl⟩
    refine AWP_cond (ilt r5 0) rfl (fun C3 => ?_) (fun C3 => ?_)
    ·
     replace H := ifT C3 H
     refine AWP_sr tok [] [4] (fun a σ => a = [(4, .int .i64 (-1))] ∧ σ = hp E0 [] (M1 + 14)) (fun K hK => ?_) ?_
     ·
      simp -dsimp -implicitDefEqProofs (maxDischargeDepth := 6)
      exact hK _ _ ⟨rfl, rfl⟩
     rintro a σ ⟨rfl, rfl⟩
     replace H := Option.some.inj H; subst H
     refine AWP_kp [4] [(4, .int .i64 (-1))] rfl ?_
     refine AWP_ret (hO3 _ _ _ _ rfl ⟨rfl, ?_⟩)
     exact ⟨[.int .i64 (-1)], by simp, 4, by simp [encL_nil]⟩
    ·
     replace H := ifF C3 H
     refine AWP_skip ?_
     show K5 _ _
     refine keepE (l := [0, 1, 5]) (x := [(0, .fsl (encL rL_Instr p0)), (1, .int .i64 r5), (5, .int .i64 s2)]) rfl fun a' ha => ?_
     refine hK5 _ _ ?_; rw [ha]
     refine Rc.mk ?_
     refine AWP_rt tok [] [0, 1, 5] (fun a σ => a = [(0, .fsl (encL rL_Instr p0)), (1, .int .i64 r5), (5, .int .i64 (iadd .i64 s2 1))] ∧ σ = hp E0 [] (M1 + 16)) (fun K hK => ?_) ?_
     ·
      simp -dsimp -implicitDefEqProofs (maxDischargeDepth := 6)
      exact hK _ _ ⟨rfl, rfl⟩
     rintro a σ ⟨ha, rfl⟩
     replace H := Option.some.inj H; subst H
     refine hK3 _ _ _ rfl ?_; rw [ha]
     exact Rc.fin (AHeap.Sub.refl _) ⟨M1 + 16, (by omega), rfl, rfl⟩
   ·
    replace H := ifF C2 H
    replace H := Option.some.inj H; subst H
    refine AWP_exit (hO3 _ _ _ _ rfl ⟨rfl, ?_⟩)
    refine Rc.rw (l := [1]) (X := [(1, .int .i64 s1)]) rfl ?_
    exact Rc.fin (AHeap.Sub.refl _) ⟨M1 + 4, (by omega), rfl, rfl⟩
  ·
   intro x a σ hx
   rcases e1 with y3 | r0
   ·
    obtain ⟨rfl, b, τ, hr, M2, fM2_0, rfl, rfl⟩ := hx
    dsimp only at H
    show K2 _ _
    refine hK2 _ _ (Rc_ref hr ?_)
    refine Rc.mk ?_
    refine AWP_sr tok [] [4] (fun a σ => a = [(4, .int .i64 y3)] ∧ σ = hp E0 [] (M2 + 2)) (fun K hK => ?_) ?_
    ·
     simp -dsimp -implicitDefEqProofs (maxDischargeDepth := 6)
     exact hK _ _ ⟨rfl, rfl⟩
    rintro a σ ⟨rfl, rfl⟩
    replace H := Option.some.inj H; subst H
    refine AWP_kp [4] [(4, .int .i64 y3)] rfl ?_
    refine AWP_ret ?_
    exact ⟨[.int .i64 y3], by simp, 4, by simp [encL_nil]⟩
   ·
    obtain ⟨rfl, hx2⟩ := hx
    dsimp only at H
    replace H := Option.some.inj H; subst H; exact hx2
theorem c7 {p0 : (List Int)} {r : (List Int)} (H : l_toIntS p0 = some r) : APure Tryd.prog G 7 [.fsl (encL rI p0)] (.fsl (encL rI r)) := by
 refine APure_fn (fun N0 => ?_) (by simp)
 refine ACalls_fn tok Tryd.func7 (by kernel_rfl) rfl Tryd.ntmps7 Tryd.results7 rfl ?_
 simp only [argsA, Nat.reduceAdd, hp_next]
 unfold l_toIntS at H
 refine AWP_sr tok [] [0] (fun a σ => a = [(0, .fsl (encL rI p0))] ∧ σ = hp E0 [] (N0 + 1)) (fun K hK => ?_) ?_
 ·
  simp -dsimp -implicitDefEqProofs (maxDischargeDepth := 6)
  exact hK _ _ ⟨rfl, rfl⟩
 rintro a σ ⟨rfl, rfl⟩
 obtain ⟨l1, hl1, H⟩ := bindE H
 refine AWP_sr tok [] [0, 3] (fun a σ => a = [(0, .fsl (encL rI p0)), (3, .sl (N0 + 3) 0 l1.length)] ∧ σ = hp E0 [(N0 + 3, some ⟨3, 1, encL rI l1⟩)] (N0 + 5)) (fun K hK => ?_) ?_
 ·
  simp -dsimp -implicitDefEqProofs (maxDischargeDepth := 6) [mak22 hl1]
  exact hK _ _ ⟨rfl, rfl⟩
 rintro a σ ⟨rfl, rfl⟩
 refine AWP_sq [3] fun K1 hK1 => ?_
 refine AWP_sr tok [] [0, 3, 4] (fun a σ => a = [(0, .fsl (encL rI p0)), (3, .sl (N0 + 3) 0 l1.length), (4, .int .i64 0)] ∧ σ = hp E0 [(N0 + 3, some ⟨3, 1, encL rI l1⟩)] (N0 + 6)) (fun K hK => ?_) ?_
 ·
  simp -dsimp -implicitDefEqProofs (maxDischargeDepth := 6)
  exact hK _ _ ⟨rfl, rfl⟩
 rintro a σ ⟨rfl, rfl⟩
 refine AWP_block (AWP_thenB ?_)
 obtain ⟨e1, hse1, H⟩ := bindE H
 refine AWP_lp [0, 3, 4] (fun s a σ => ∃ M1 o1 : Nat, N0 ≤ M1 ∧ N0 ≤ o1 ∧ o1 < M1 ∧ a = [(0, .fsl (encL rI p0)), (3, .sl o1 0 s.2.length), (4, .int .i64 s.1)] ∧ σ = hp E0 [(o1, some ⟨3, 1, encL rI s.2⟩)] M1) (fun s x a σ => x = .exit 0 ∧ Rc G 22 N0 (fun a σ => ∃ M2 o2 : Nat, N0 ≤ M2 ∧ N0 ≤ o2 ∧ o2 < M2 ∧ a = [(3, .sl o2 0 s.length)] ∧ σ = hp E0 [(o2, some ⟨3, 1, encL rI s⟩)] M2) (AAct.keep a [3]) σ) hse1 ?_ ?_ ?_
 ·
  refine Rc.kp [0, 3, 4] [(0, .fsl (encL rI p0)), (3, .sl (N0 + 3) 0 l1.length), (4, .int .i64 0)] rfl ?_
  exact Rc.fin (AHeap.Sub.refl _) ⟨N0 + 6, (N0 + 3), (by omega), (by omega), (by omega), rfl, rfl⟩
 ·
  clear H hse1
  rintro ⟨s2, s3⟩ fl a σ H ⟨M1, o1, fM1_0, fM1_1, fM1_2, rfl, rfl⟩ K2 O2 hK2 hO2
  unfold l_toIntS_L1 at H; dsimp only at H
  refine AWP_sq [0, 3, 4] fun K3 hK3 => ?_
  refine AWP_sr tok [] [0, 3, 4, 11] (fun a σ => a = [(0, .fsl (encL rI p0)), (3, .sl o1 0 s3.length), (4, .int .i64 s2), (11, .bool (ilt s2 (ilen p0)))] ∧ σ = hp E0 [(o1, some ⟨3, 1, encL rI s3⟩)] (M1 + 4)) (fun K hK => ?_) ?_
  ·
   simp -dsimp -implicitDefEqProofs (maxDischargeDepth := 6)
   exact hK _ _ ⟨rfl, rfl⟩
  rintro a σ ⟨rfl, rfl⟩
  refine AWP_cond (ilt s2 (ilen p0)) rfl (fun C1 => ?_) (fun C1 => ?_)
  ·
   replace H := ifT C1 H
   refine AWP_skip ?_
   show K3 _ _
   refine keepE (l := [0, 3, 4]) (x := [(0, .fsl (encL rI p0)), (3, .sl o1 0 s3.length), (4, .int .i64 s2)]) rfl fun a' ha => ?_
   refine hK3 _ _ ?_; rw [ha]
   refine Rc.mk ?_
   refine AWP_sq [0, 3, 4] fun K4 hK4 => ?_
   refine AWP_block (AWP_thenB ?_)
   obtain ⟨v5, hv5, H⟩ := bindE H
   obtain ⟨v6, hv6, H⟩ := bindE H
   obtain ⟨l7, hl7, H⟩ := bindE H
   refine AWP_rt tok [] [0, 3, 4] (fun a σ => a = [(0, .fsl (encL rI p0)), (3, .sl o1 0 s3.length), (4, .int .i64 s2)] ∧ σ = hp E0 [(o1, some ⟨3, 1, encL rI l7⟩)] (M1 + 12)) (fun K hK => ?_) ?_
   ·
    simp -dsimp -implicitDefEqProofs (maxDischargeDepth := 6) [ix22 hv5, ixo22 hv6, (idx_lt3 hv6).2.2, (setx_iff.1 hl7).2.symm]
    exact hK _ _ ⟨rfl, rfl⟩
   rintro a σ ⟨ha, rfl⟩
   (try rw [← setx_len hl7] at ha); (try rw [← setx_len hl7])
   refine hK4 _ _ ?_; rw [ha]
   refine Rc.mk ?_
   refine AWP_rt tok [] [0, 3, 4] (fun a σ => a = [(0, .fsl (encL rI p0)), (3, .sl o1 0 l7.length), (4, .int .i64 (iadd .i64 s2 1))] ∧ σ = hp E0 [(o1, some ⟨3, 1, encL rI l7⟩)] (M1 + 15)) (fun K hK => ?_) ?_
   ·
    simp -dsimp -implicitDefEqProofs (maxDischargeDepth := 6)
    exact hK _ _ ⟨rfl, rfl⟩
   rintro a σ ⟨ha, rfl⟩
   replace H := Option.some.inj H; subst H
   refine hK2 _ _ _ rfl ?_; rw [ha]
   exact Rc.fin (AHeap.Sub.refl _) ⟨M1 + 15, o1, (by omega), (by omega), (by omega), rfl, rfl⟩
  ·
   replace H := ifF C1 H
   replace H := Option.some.inj H; subst H
   refine AWP_exit (hO2 _ _ _ _ rfl ⟨rfl, ?_⟩)
   refine Rc.rw (l := [3]) (X := [(3, .sl o1 0 s3.length)]) rfl ?_
   exact Rc.fin (AHeap.Sub.refl _) ⟨M1 + 4, o1, (by omega), (by omega), (by omega), rfl, rfl⟩
 ·
  intro x a σ hx
  obtain ⟨y4, rfl⟩ : ∃ x, x = e1 := ⟨_, rfl⟩
  obtain ⟨rfl, b, τ, hr, M2, o2, fM2_0, fM2_1, fM2_2, rfl, rfl⟩ := hx
  dsimp only at H
  show K1 _ _
  refine hK1 _ _ (Rc_ref hr ?_)
  refine Rc.mk ?_
  refine AWP_sr tok [] [2] (fun a σ => a = [(2, .sl o2 0 y4.length)] ∧ σ = hp E0 [(o2, some ⟨3, 1, encL rI y4⟩)] (M2 + 2)) (fun K hK => ?_) ?_
  ·
   simp -dsimp -implicitDefEqProofs (maxDischargeDepth := 6)
   exact hK _ _ ⟨rfl, rfl⟩
  rintro a σ ⟨rfl, rfl⟩
  replace H := Option.some.inj H; subst H
  refine AWP_kp [2] [(2, .sl o2 0 y4.length)] rfl ?_
  refine AWP_ret ?_
  exact ⟨[.sl o2 0 y4.length], by simp, 4, by simp [encL_nil]⟩
theorem c58 {p0 : gInstr} {r : gInstr} (H : l_toInstr p0 = some r) : APure Tryd.prog G 58 [.agg [.int .i64 p0.Op, .int .i64 p0.Rd, .int .i64 p0.Rs, .int .i64 p0.Rt, .int .i64 p0.Imm]] (.agg [.int .i64 r.Op, .int .i64 r.Rd, .int .i64 r.Rs, .int .i64 r.Rt, .int .i64 r.Imm]) := by
 refine APure_fn (fun N0 => ?_) (by simp)
 refine ACalls_fn tok Tryd.func58 (by kernel_rfl) rfl Tryd.ntmps58 Tryd.results58 rfl ?_
 simp only [argsA, Nat.reduceAdd, hp_next]
 unfold l_toInstr at H
 refine AWP_sr tok [0] [1, 2] (fun a σ => a = [(1, .fptr [.int .i64 p0.Op, .int .i64 p0.Rd, .int .i64 p0.Rs, .int .i64 p0.Rt, .int .i64 p0.Imm] 0), (2, .ptr (N0 + 1) 0 0)] ∧ σ = hp E0 [(N0 + 1, some ⟨78, 5, [[.int .i64 0, .int .i64 0, .int .i64 0, .int .i64 0, .int .i64 0]]⟩)] (N0 + 2)) (fun K hK => ?_) ?_
 ·
  simp -dsimp -implicitDefEqProofs (maxDischargeDepth := 6)
  exact hK _ _ ⟨rfl, rfl⟩
 rintro a σ ⟨rfl, rfl⟩
 refine AWP_sr tok [] [1, 2, 3] (fun a σ => a = [(1, .fptr [.int .i64 p0.Op, .int .i64 p0.Rd, .int .i64 p0.Rs, .int .i64 p0.Rt, .int .i64 p0.Imm] 0), (2, .ptr (N0 + 1) 0 0), (3, .ptr (N0 + 2) 0 0)] ∧ σ = hp E0 [(N0 + 1, some ⟨78, 5, [[.int .i64 0, .int .i64 0, .int .i64 0, .int .i64 0, .int .i64 0]]⟩), (N0 + 2, some ⟨78, 5, [[.int .i64 0, .int .i64 0, .int .i64 0, .int .i64 0, .int .i64 0]]⟩)] (N0 + 3)) (fun K hK => ?_) ?_
 ·
  simp -dsimp -implicitDefEqProofs (maxDischargeDepth := 6)
  exact hK _ _ ⟨rfl, rfl⟩
 rintro a σ ⟨rfl, rfl⟩
 refine AWP_sr tok [] [1, 2, 3] (fun a σ => a = [(1, .fptr [.int .i64 p0.Op, .int .i64 p0.Rd, .int .i64 p0.Rs, .int .i64 p0.Rt, .int .i64 p0.Imm] 0), (2, .ptr (N0 + 1) 0 0), (3, .ptr (N0 + 2) 0 0)] ∧ σ = hp E0 [(N0 + 1, some ⟨78, 5, [[.int .i64 0, .int .i64 0, .int .i64 0, .int .i64 0, .int .i64 0]]⟩), (N0 + 2, some ⟨78, 5, [[.int .i64 p0.Op, .int .i64 0, .int .i64 0, .int .i64 0, .int .i64 0]]⟩)] (N0 + 7)) (fun K hK => ?_) ?_
 ·
  simp -dsimp -implicitDefEqProofs (maxDischargeDepth := 6)
  exact hK _ _ ⟨rfl, rfl⟩
 rintro a σ ⟨rfl, rfl⟩
 refine AWP_sr tok [] [1, 2, 3] (fun a σ => a = [(1, .fptr [.int .i64 p0.Op, .int .i64 p0.Rd, .int .i64 p0.Rs, .int .i64 p0.Rt, .int .i64 p0.Imm] 0), (2, .ptr (N0 + 1) 0 0), (3, .ptr (N0 + 2) 0 0)] ∧ σ = hp E0 [(N0 + 1, some ⟨78, 5, [[.int .i64 0, .int .i64 0, .int .i64 0, .int .i64 0, .int .i64 0]]⟩), (N0 + 2, some ⟨78, 5, [[.int .i64 p0.Op, .int .i64 p0.Rd, .int .i64 0, .int .i64 0, .int .i64 0]]⟩)] (N0 + 11)) (fun K hK => ?_) ?_
 ·
  simp -dsimp -implicitDefEqProofs (maxDischargeDepth := 6)
  exact hK _ _ ⟨rfl, rfl⟩
 rintro a σ ⟨rfl, rfl⟩
 refine AWP_sr tok [] [1, 2, 3] (fun a σ => a = [(1, .fptr [.int .i64 p0.Op, .int .i64 p0.Rd, .int .i64 p0.Rs, .int .i64 p0.Rt, .int .i64 p0.Imm] 0), (2, .ptr (N0 + 1) 0 0), (3, .ptr (N0 + 2) 0 0)] ∧ σ = hp E0 [(N0 + 1, some ⟨78, 5, [[.int .i64 0, .int .i64 0, .int .i64 0, .int .i64 0, .int .i64 0]]⟩), (N0 + 2, some ⟨78, 5, [[.int .i64 p0.Op, .int .i64 p0.Rd, .int .i64 p0.Rs, .int .i64 0, .int .i64 0]]⟩)] (N0 + 15)) (fun K hK => ?_) ?_
 ·
  simp -dsimp -implicitDefEqProofs (maxDischargeDepth := 6)
  exact hK _ _ ⟨rfl, rfl⟩
 rintro a σ ⟨rfl, rfl⟩
 refine AWP_sr tok [] [1, 2, 3] (fun a σ => a = [(1, .fptr [.int .i64 p0.Op, .int .i64 p0.Rd, .int .i64 p0.Rs, .int .i64 p0.Rt, .int .i64 p0.Imm] 0), (2, .ptr (N0 + 1) 0 0), (3, .ptr (N0 + 2) 0 0)] ∧ σ = hp E0 [(N0 + 1, some ⟨78, 5, [[.int .i64 0, .int .i64 0, .int .i64 0, .int .i64 0, .int .i64 0]]⟩), (N0 + 2, some ⟨78, 5, [[.int .i64 p0.Op, .int .i64 p0.Rd, .int .i64 p0.Rs, .int .i64 p0.Rt, .int .i64 0]]⟩)] (N0 + 19)) (fun K hK => ?_) ?_
 ·
  simp -dsimp -implicitDefEqProofs (maxDischargeDepth := 6)
  exact hK _ _ ⟨rfl, rfl⟩
 rintro a σ ⟨rfl, rfl⟩
 refine AWP_sr tok [] [2, 3] (fun a σ => a = [(2, .ptr (N0 + 1) 0 0), (3, .ptr (N0 + 2) 0 0)] ∧ σ = hp E0 [(N0 + 1, some ⟨78, 5, [[.int .i64 0, .int .i64 0, .int .i64 0, .int .i64 0, .int .i64 0]]⟩), (N0 + 2, some ⟨78, 5, [[.int .i64 p0.Op, .int .i64 p0.Rd, .int .i64 p0.Rs, .int .i64 p0.Rt, .int .i64 p0.Imm]]⟩)] (N0 + 23)) (fun K hK => ?_) ?_
 ·
  simp -dsimp -implicitDefEqProofs (maxDischargeDepth := 6)
  exact hK _ _ ⟨rfl, rfl⟩
 rintro a σ ⟨rfl, rfl⟩
 refine AWP_sr tok [] [2] (fun a σ => a = [(2, .ptr (N0 + 1) 0 0)] ∧ σ = hp E0 [(N0 + 1, some ⟨78, 5, [[.int .i64 p0.Op, .int .i64 p0.Rd, .int .i64 p0.Rs, .int .i64 p0.Rt, .int .i64 p0.Imm]]⟩), (N0 + 2, some ⟨78, 5, [[.int .i64 p0.Op, .int .i64 p0.Rd, .int .i64 p0.Rs, .int .i64 p0.Rt, .int .i64 p0.Imm]]⟩)] (N0 + 25)) (fun K hK => ?_) ?_
 ·
  simp -dsimp -implicitDefEqProofs (maxDischargeDepth := 6)
  exact hK _ _ ⟨rfl, rfl⟩
 rintro a σ ⟨rfl, rfl⟩
 replace H := Option.some.inj H; subst H
 refine AWP_kp [2] [(2, .ptr (N0 + 1) 0 0)] rfl ?_
 refine AWP_ret ?_
 exact ⟨[.agg [.int .i64 p0.Op, .int .i64 p0.Rd, .int .i64 p0.Rs, .int .i64 p0.Rt, .int .i64 p0.Imm]], by simp, 4, by simp [encL_nil]⟩
theorem c30 {p0 : (List gInstr)} {r : (List gInstr)} (H : l_toInstrS p0 = some r) : APure Tryd.prog G 30 [.fsl (encL rInstr p0)] (.fsl (encL rInstr r)) := by
 refine APure_fn (fun N0 => ?_) (by simp)
 refine ACalls_fn tok Tryd.func30 (by kernel_rfl) rfl Tryd.ntmps30 Tryd.results30 rfl ?_
 simp only [argsA, Nat.reduceAdd, hp_next]
 unfold l_toInstrS at H
 refine AWP_sr tok [] [0] (fun a σ => a = [(0, .fsl (encL rInstr p0))] ∧ σ = hp E0 [] (N0 + 1)) (fun K hK => ?_) ?_
 ·
  simp -dsimp -implicitDefEqProofs (maxDischargeDepth := 6)
  exact hK _ _ ⟨rfl, rfl⟩
 rintro a σ ⟨rfl, rfl⟩
 obtain ⟨l1, hl1, H⟩ := bindE H
 refine AWP_sr tok [] [0, 3] (fun a σ => a = [(0, .fsl (encL rInstr p0)), (3, .sl (N0 + 3) 0 l1.length)] ∧ σ = hp E0 [(N0 + 3, some ⟨78, 5, encL rInstr l1⟩)] (N0 + 5)) (fun K hK => ?_) ?_
 ·
  simp -dsimp -implicitDefEqProofs (maxDischargeDepth := 6) [mak46 hl1]
  exact hK _ _ ⟨rfl, rfl⟩
 rintro a σ ⟨rfl, rfl⟩
 refine AWP_sq [3] fun K1 hK1 => ?_
 refine AWP_sr tok [] [0, 3, 4] (fun a σ => a = [(0, .fsl (encL rInstr p0)), (3, .sl (N0 + 3) 0 l1.length), (4, .int .i64 0)] ∧ σ = hp E0 [(N0 + 3, some ⟨78, 5, encL rInstr l1⟩)] (N0 + 6)) (fun K hK => ?_) ?_
 ·
  simp -dsimp -implicitDefEqProofs (maxDischargeDepth := 6)
  exact hK _ _ ⟨rfl, rfl⟩
 rintro a σ ⟨rfl, rfl⟩
 refine AWP_block (AWP_thenB ?_)
 obtain ⟨e1, hse1, H⟩ := bindE H
 refine AWP_lp [0, 3, 4] (fun s a σ => ∃ M1 o1 : Nat, N0 ≤ M1 ∧ N0 ≤ o1 ∧ o1 < M1 ∧ a = [(0, .fsl (encL rInstr p0)), (3, .sl o1 0 s.2.length), (4, .int .i64 s.1)] ∧ σ = hp E0 [(o1, some ⟨78, 5, encL rInstr s.2⟩)] M1) (fun s x a σ => x = .exit 0 ∧ Rc G 23 N0 (fun a σ => ∃ M2 o2 : Nat, N0 ≤ M2 ∧ N0 ≤ o2 ∧ o2 < M2 ∧ a = [(3, .sl o2 0 s.length)] ∧ σ = hp E0 [(o2, some ⟨78, 5, encL rInstr s⟩)] M2) (AAct.keep a [3]) σ) hse1 ?_ ?_ ?_
 ·
  refine Rc.kp [0, 3, 4] [(0, .fsl (encL rInstr p0)), (3, .sl (N0 + 3) 0 l1.length), (4, .int .i64 0)] rfl ?_
  exact Rc.fin (AHeap.Sub.refl _) ⟨N0 + 6, (N0 + 3), (by omega), (by omega), (by omega), rfl, rfl⟩
 ·
  clear H hse1
  rintro ⟨s2, s3⟩ fl a σ H ⟨M1, o1, fM1_0, fM1_1, fM1_2, rfl, rfl⟩ K2 O2 hK2 hO2
  unfold l_toInstrS_L1 at H; dsimp only at H
  refine AWP_sq [0, 3, 4] fun K3 hK3 => ?_
  refine AWP_sr tok [] [0, 3, 4, 11] (fun a σ => a = [(0, .fsl (encL rInstr p0)), (3, .sl o1 0 s3.length), (4, .int .i64 s2), (11, .bool (ilt s2 (ilen p0)))] ∧ σ = hp E0 [(o1, some ⟨78, 5, encL rInstr s3⟩)] (M1 + 4)) (fun K hK => ?_) ?_
  ·
   simp -dsimp -implicitDefEqProofs (maxDischargeDepth := 6)
   exact hK _ _ ⟨rfl, rfl⟩
  rintro a σ ⟨rfl, rfl⟩
  refine AWP_cond (ilt s2 (ilen p0)) rfl (fun C1 => ?_) (fun C1 => ?_)
  ·
   replace H := ifT C1 H
   refine AWP_skip ?_
   show K3 _ _
   refine keepE (l := [0, 3, 4]) (x := [(0, .fsl (encL rInstr p0)), (3, .sl o1 0 s3.length), (4, .int .i64 s2)]) rfl fun a' ha => ?_
   refine hK3 _ _ ?_; rw [ha]
   refine Rc.mk ?_
   refine AWP_sq [0, 3, 4] fun K4 hK4 => ?_
   refine AWP_block (AWP_thenB ?_)
   obtain ⟨v5, hv5, H⟩ := bindE H
   obtain ⟨r6, hr6, H⟩ := bindE H
   obtain ⟨v7, hv7, H⟩ := bindE H
   obtain ⟨l8, hl8, H⟩ := bindE H
   refine AWP_rt tok [] [0, 3, 4] (fun a σ => a = [(0, .fsl (encL rInstr p0)), (3, .sl o1 0 s3.length), (4, .int .i64 s2)] ∧ σ = hp E0 [(o1, some ⟨78, 5, encL rInstr l8⟩)] (M1 + 13)) (fun K hK => ?_) ?_
   ·
    simp -dsimp -implicitDefEqProofs (maxDischargeDepth := 6) [ix60 hv5, ixo46 hv7, (idx_lt3 hv7).2.2, (setx_iff.1 hl8).2.symm]
    refine (c58 hr6).app ?_; try simp -dsimp -implicitDefEqProofs (maxDischargeDepth := 6) [ix60 hv5, ixo46 hv7, (idx_lt3 hv7).2.2, (setx_iff.1 hl8).2.symm]
    exact hK _ _ ⟨rfl, rfl⟩
   rintro a σ ⟨ha, rfl⟩
   (try rw [← setx_len hl8] at ha); (try rw [← setx_len hl8])
   refine hK4 _ _ ?_; rw [ha]
   refine Rc.mk ?_
   refine AWP_rt tok [] [0, 3, 4] (fun a σ => a = [(0, .fsl (encL rInstr p0)), (3, .sl o1 0 l8.length), (4, .int .i64 (iadd .i64 s2 1))] ∧ σ = hp E0 [(o1, some ⟨78, 5, encL rInstr l8⟩)] (M1 + 16)) (fun K hK => ?_) ?_
   ·
    simp -dsimp -implicitDefEqProofs (maxDischargeDepth := 6)
    exact hK _ _ ⟨rfl, rfl⟩
   rintro a σ ⟨ha, rfl⟩
   replace H := Option.some.inj H; subst H
   refine hK2 _ _ _ rfl ?_; rw [ha]
   exact Rc.fin (AHeap.Sub.refl _) ⟨M1 + 16, o1, (by omega), (by omega), (by omega), rfl, rfl⟩
  ·
   replace H := ifF C1 H
   replace H := Option.some.inj H; subst H
   refine AWP_exit (hO2 _ _ _ _ rfl ⟨rfl, ?_⟩)
   refine Rc.rw (l := [3]) (X := [(3, .sl o1 0 s3.length)]) rfl ?_
   exact Rc.fin (AHeap.Sub.refl _) ⟨M1 + 4, o1, (by omega), (by omega), (by omega), rfl, rfl⟩
 ·
  intro x a σ hx
  obtain ⟨y4, rfl⟩ : ∃ x, x = e1 := ⟨_, rfl⟩
  obtain ⟨rfl, b, τ, hr, M2, o2, fM2_0, fM2_1, fM2_2, rfl, rfl⟩ := hx
  dsimp only at H
  show K1 _ _
  refine hK1 _ _ (Rc_ref hr ?_)
  refine Rc.mk ?_
  refine AWP_sr tok [] [2] (fun a σ => a = [(2, .sl o2 0 y4.length)] ∧ σ = hp E0 [(o2, some ⟨78, 5, encL rInstr y4⟩)] (M2 + 2)) (fun K hK => ?_) ?_
  ·
   simp -dsimp -implicitDefEqProofs (maxDischargeDepth := 6)
   exact hK _ _ ⟨rfl, rfl⟩
  rintro a σ ⟨rfl, rfl⟩
  replace H := Option.some.inj H; subst H
  refine AWP_kp [2] [(2, .sl o2 0 y4.length)] rfl ?_
  refine AWP_ret ?_
  exact ⟨[.sl o2 0 y4.length], by simp, 4, by simp [encL_nil]⟩
theorem c8 {p0 : (List (List gInstr))} {r : (List (List gInstr))} (H : l_toInstrSS p0 = some r) : APure Tryd.prog G 8 [.fsl (encL rL_Instr p0)] (.fsl (encL rL_Instr r)) := by
 refine APure_fn (fun N0 => ?_) (by simp)
 refine ACalls_fn tok Tryd.func8 (by kernel_rfl) rfl Tryd.ntmps8 Tryd.results8 rfl ?_
 simp only [argsA, Nat.reduceAdd, hp_next]
 unfold l_toInstrSS at H
 refine AWP_sr tok [] [0] (fun a σ => a = [(0, .fsl (encL rL_Instr p0))] ∧ σ = hp E0 [] (N0 + 1)) (fun K hK => ?_) ?_
 ·
  simp -dsimp -implicitDefEqProofs (maxDischargeDepth := 6)
  exact hK _ _ ⟨rfl, rfl⟩
 rintro a σ ⟨rfl, rfl⟩
 obtain ⟨l1, hl1, H⟩ := bindE H
 refine AWP_sr tok [] [0, 3] (fun a σ => a = [(0, .fsl (encL rL_Instr p0)), (3, .sl (N0 + 3) 0 l1.length)] ∧ σ = hp E0 [(N0 + 3, some ⟨46, 1, List.replicate (Int.toNat (ilen p0)) [.nilsl]⟩)] (N0 + 5)) (fun K hK => ?_) ?_
 ·
  simp -dsimp -implicitDefEqProofs (maxDischargeDepth := 6) [makr32 hl1]
  exact hK _ _ ⟨rfl, rfl⟩
 rintro a σ ⟨rfl, rfl⟩
 refine AWP_sq [3] fun K1 hK1 => ?_
 refine gRep AWP_ref (o := (N0 + 3)) (ty := 46) (sz := 1) (m := Int.toNat (ilen p0)) (c := [.nilsl]) (c' := [.fsl []]) (.frz .nil) [(N0 + 3, some ⟨46, 1, encL rL_Instr l1⟩)] (by simp (disch := omega)) (by rw [mak_rep (f := rL_Instr) (c := [.fsl []]) hl1 rfl]; simp) ?_
 refine AWP_sr tok [] [0, 3, 4] (fun a σ => a = [(0, .fsl (encL rL_Instr p0)), (3, .sl (N0 + 3) 0 l1.length), (4, .int .i64 0)] ∧ σ = hp E0 [(N0 + 3, some ⟨46, 1, encL rL_Instr l1⟩)] (N0 + 6)) (fun K hK => ?_) ?_
 ·
  simp -dsimp -implicitDefEqProofs (maxDischargeDepth := 6)
  exact hK _ _ ⟨rfl, rfl⟩
 rintro a σ ⟨rfl, rfl⟩
 refine AWP_block (AWP_thenB ?_)
 obtain ⟨e1, hse1, H⟩ := bindE H
 refine AWP_lp [0, 3, 4] (fun s a σ => ∃ M1 o1 : Nat, N0 ≤ M1 ∧ N0 ≤ o1 ∧ o1 < M1 ∧ a = [(0, .fsl (encL rL_Instr p0)), (3, .sl o1 0 s.2.length), (4, .int .i64 s.1)] ∧ σ = hp E0 [(o1, some ⟨46, 1, encL rL_Instr s.2⟩)] M1) (fun s x a σ => x = .exit 0 ∧ Rc G 23 N0 (fun a σ => ∃ M2 o2 : Nat, N0 ≤ M2 ∧ N0 ≤ o2 ∧ o2 < M2 ∧ a = [(3, .sl o2 0 s.length)] ∧ σ = hp E0 [(o2, some ⟨46, 1, encL rL_Instr s⟩)] M2) (AAct.keep a [3]) σ) hse1 ?_ ?_ ?_
 ·
  refine Rc.kp [0, 3, 4] [(0, .fsl (encL rL_Instr p0)), (3, .sl (N0 + 3) 0 l1.length), (4, .int .i64 0)] rfl ?_
  exact Rc.fin (AHeap.Sub.refl _) ⟨N0 + 6, (N0 + 3), (by omega), (by omega), (by omega), rfl, rfl⟩
 ·
  clear H hse1
  rintro ⟨s2, s3⟩ fl a σ H ⟨M1, o1, fM1_0, fM1_1, fM1_2, rfl, rfl⟩ K2 O2 hK2 hO2
  unfold l_toInstrSS_L1 at H; dsimp only at H
  refine AWP_sq [0, 3, 4] fun K3 hK3 => ?_
  refine AWP_sr tok [] [0, 3, 4, 11] (fun a σ => a = [(0, .fsl (encL rL_Instr p0)), (3, .sl o1 0 s3.length), (4, .int .i64 s2), (11, .bool (ilt s2 (ilen p0)))] ∧ σ = hp E0 [(o1, some ⟨46, 1, encL rL_Instr s3⟩)] (M1 + 4)) (fun K hK => ?_) ?_
  ·
   simp -dsimp -implicitDefEqProofs (maxDischargeDepth := 6)
   exact hK _ _ ⟨rfl, rfl⟩
  rintro a σ ⟨rfl, rfl⟩
  refine AWP_cond (ilt s2 (ilen p0)) rfl (fun C1 => ?_) (fun C1 => ?_)
  ·
   replace H := ifT C1 H
   refine AWP_skip ?_
   show K3 _ _
   refine keepE (l := [0, 3, 4]) (x := [(0, .fsl (encL rL_Instr p0)), (3, .sl o1 0 s3.length), (4, .int .i64 s2)]) rfl fun a' ha => ?_
   refine hK3 _ _ ?_; rw [ha]
   refine Rc.mk ?_
   refine AWP_sq [0, 3, 4] fun K4 hK4 => ?_
   refine AWP_block (AWP_thenB ?_)
   obtain ⟨v5, hv5, H⟩ := bindE H
   obtain ⟨r6, hr6, H⟩ := bindE H
   obtain ⟨v7, hv7, H⟩ := bindE H
   obtain ⟨l8, hl8, H⟩ := bindE H
   refine AWP_rt tok [] [0, 3, 4] (fun a σ => a = [(0, .fsl (encL rL_Instr p0)), (3, .sl o1 0 s3.length), (4, .int .i64 s2)] ∧ σ = hp E0 [(o1, some ⟨46, 1, encL rL_Instr l8⟩)] (M1 + 13)) (fun K hK => ?_) ?_
   ·
    simp -dsimp -implicitDefEqProofs (maxDischargeDepth := 6) [ix23 hv5, ixo32 hv7, (idx_lt3 hv7).2.2, (setx_iff.1 hl8).2.symm]
    refine (c30 hr6).app ?_; try simp -dsimp -implicitDefEqProofs (maxDischargeDepth := 6) [ix23 hv5, ixo32 hv7, (idx_lt3 hv7).2.2, (setx_iff.1 hl8).2.symm]
    exact hK _ _ ⟨rfl, rfl⟩
   rintro a σ ⟨ha, rfl⟩
   (try rw [← setx_len hl8] at ha); (try rw [← setx_len hl8])
   refine hK4 _ _ ?_; rw [ha]
   refine Rc.mk ?_
   refine AWP_rt tok [] [0, 3, 4] (fun a σ => a = [(0, .fsl (encL rL_Instr p0)), (3, .sl o1 0 l8.length), (4, .int .i64 (iadd .i64 s2 1))] ∧ σ = hp E0 [(o1, some ⟨46, 1, encL rL_Instr l8⟩)] (M1 + 16)) (fun K hK => ?_) ?_
   ·
    simp -dsimp -implicitDefEqProofs (maxDischargeDepth := 6)
    exact hK _ _ ⟨rfl, rfl⟩
   rintro a σ ⟨ha, rfl⟩
   replace H := Option.some.inj H; subst H
   refine hK2 _ _ _ rfl ?_; rw [ha]
   exact Rc.fin (AHeap.Sub.refl _) ⟨M1 + 16, o1, (by omega), (by omega), (by omega), rfl, rfl⟩
  ·
   replace H := ifF C1 H
   replace H := Option.some.inj H; subst H
   refine AWP_exit (hO2 _ _ _ _ rfl ⟨rfl, ?_⟩)
   refine Rc.rw (l := [3]) (X := [(3, .sl o1 0 s3.length)]) rfl ?_
   exact Rc.fin (AHeap.Sub.refl _) ⟨M1 + 4, o1, (by omega), (by omega), (by omega), rfl, rfl⟩
 ·
  intro x a σ hx
  obtain ⟨y4, rfl⟩ : ∃ x, x = e1 := ⟨_, rfl⟩
  obtain ⟨rfl, b, τ, hr, M2, o2, fM2_0, fM2_1, fM2_2, rfl, rfl⟩ := hx
  dsimp only at H
  show K1 _ _
  refine hK1 _ _ (Rc_ref hr ?_)
  refine Rc.mk ?_
  refine AWP_sr tok [] [2] (fun a σ => a = [(2, .sl o2 0 y4.length)] ∧ σ = hp E0 [(o2, some ⟨46, 1, encL rL_Instr y4⟩)] (M2 + 2)) (fun K hK => ?_) ?_
  ·
   simp -dsimp -implicitDefEqProofs (maxDischargeDepth := 6)
   exact hK _ _ ⟨rfl, rfl⟩
  rintro a σ ⟨rfl, rfl⟩
  replace H := Option.some.inj H; subst H
  refine AWP_kp [2] [(2, .sl o2 0 y4.length)] rfl ?_
  refine AWP_ret ?_
  exact ⟨[.sl o2 0 y4.length], by simp, 4, by simp [encL_nil]⟩
theorem c27 {p0 : Int} {p1 : Int} {p2 : Int} {r : Bool} (H : s_l6In p0 p1 p2 = some r) : APure Tryd.prog G 27 [.int .i64 p0, .int .i64 p1, .int .i64 p2] (.bool r) := by
 refine APure_fn (fun N0 => ?_) (by simp)
 refine ACalls_fn tok Tryd.func27 (by kernel_rfl) rfl Tryd.ntmps27 Tryd.results27 rfl ?_
 simp only [argsA, Nat.reduceAdd, hp_next]
 unfold s_l6In at H
 refine AWP_sr tok [] [0, 1, 2] (fun a σ => a = [(0, .int .i64 p0), (1, .int .i64 p1), (2, .int .i64 p2)] ∧ σ = hp E0 [] (N0 + 1)) (fun K hK => ?_) ?_
 ·
  simp -dsimp -implicitDefEqProofs (maxDischargeDepth := 6)
  exact hK _ _ ⟨rfl, rfl⟩
 rintro a σ ⟨rfl, rfl⟩
 obtain ⟨g1, hg1, H⟩ := bindE H
 refine AWP_sr tok [] [6] (fun a σ => a = [(6, .bool g1)] ∧ σ = hp E0 [] (N0 + 10)) (fun K hK => ?_) ?_
 ·
  simp -dsimp -implicitDefEqProofs (maxDischargeDepth := 6)
  cases hbg1 : ige p0 p1
  ·
   replace hg1 := ifF hbg1 hg1
   replace hg1 := Option.some.inj hg1; subst hg1
   try simp -dsimp -implicitDefEqProofs (maxDischargeDepth := 6) [hbg1]
   exact hK _ _ ⟨rfl, rfl⟩
  ·
   replace hg1 := ifT hbg1 hg1
   replace hg1 := Option.some.inj hg1; subst hg1
   try simp -dsimp -implicitDefEqProofs (maxDischargeDepth := 6) [hbg1]
   exact hK _ _ ⟨rfl, rfl⟩
 rintro a σ ⟨rfl, rfl⟩
 replace H := Option.some.inj H; subst H
 refine AWP_kp [6] [(6, .bool g1)] rfl ?_
 refine AWP_ret ?_
 exact ⟨[.bool g1], by simp, 4, by simp [encL_nil]⟩
theorem c26 {p0 : (List Int)} {r : Bool} (H : s_l12Rooms p0 = some r) : APure Tryd.prog G 26 [.fsl (encL rI p0)] (.bool r) := by
 refine APure_fn (fun N0 => ?_) (by simp)
 refine ACalls_fn tok Tryd.func26 (by kernel_rfl) rfl Tryd.ntmps26 Tryd.results26 rfl ?_
 simp only [argsA, Nat.reduceAdd, hp_next]
 unfold s_l12Rooms at H
 refine AWP_sr tok [] [0] (fun a σ => a = [(0, .fsl (encL rI p0))] ∧ σ = hp E0 [] (N0 + 1)) (fun K hK => ?_) ?_
 ·
  simp -dsimp -implicitDefEqProofs (maxDischargeDepth := 6)
  exact hK _ _ ⟨rfl, rfl⟩
 rintro a σ ⟨rfl, rfl⟩
 refine AWP_sq [0] fun K1 hK1 => ?_
 refine AWP_sr tok [] [0, 3] (fun a σ => a = [(0, .fsl (encL rI p0)), (3, .int .i64 0)] ∧ σ = hp E0 [] (N0 + 2)) (fun K hK => ?_) ?_
 ·
  simp -dsimp -implicitDefEqProofs (maxDischargeDepth := 6)
  exact hK _ _ ⟨rfl, rfl⟩
 rintro a σ ⟨rfl, rfl⟩
 refine AWP_block (AWP_thenB ?_)
 obtain ⟨e1, hse1, H⟩ := bindE H
 refine AWP_lp [0, 3] (fun s a σ => ∃ M1 : Nat, N0 ≤ M1 ∧ a = [(0, .fsl (encL rI p0)), (3, .int .i64 s)] ∧ σ = hp E0 [] M1) (fun e x a σ => match e with | .inl s => x = .exit 0 ∧ Rc G 19 N0 (fun a σ => ∃ M2 : Nat, N0 ≤ M2 ∧ a = [(0, .fsl (encL rI p0))] ∧ σ = hp E0 [] M2) (AAct.keep a [0]) σ | .inr s => x = .ret ∧ ∃ vs, resA T σ a [.tmp 2] = some vs ∧ ∃ d, thawA (fun _ => true) σ d (tupA vs) = .bool s) hse1 ?_ ?_ ?_
 ·
  refine Rc.kp [0, 3] [(0, .fsl (encL rI p0)), (3, .int .i64 0)] rfl ?_
  exact Rc.fin (AHeap.Sub.refl _) ⟨N0 + 2, (by omega), rfl, rfl⟩
 ·
  clear H hse1
  rintro s1 fl a σ H ⟨M1, fM1_0, rfl, rfl⟩ K2 O2 hK2 hO2
  unfold s_l12Rooms_L1 at H; dsimp only at H
  refine AWP_sq [0, 3] fun K3 hK3 => ?_
  refine AWP_sr tok [] [0, 3, 7] (fun a σ => a = [(0, .fsl (encL rI p0)), (3, .int .i64 s1), (7, .bool (ilt s1 (ilen p0)))] ∧ σ = hp E0 [] (M1 + 4)) (fun K hK => ?_) ?_
  ·
   simp -dsimp -implicitDefEqProofs (maxDischargeDepth := 6)
   exact hK _ _ ⟨rfl, rfl⟩
  rintro a σ ⟨rfl, rfl⟩
  refine AWP_cond (ilt s1 (ilen p0)) rfl (fun C1 => ?_) (fun C1 => ?_)
  ·
   replace H := ifT C1 H
   refine AWP_skip ?_
   show K3 _ _
   refine keepE (l := [0, 3]) (x := [(0, .fsl (encL rI p0)), (3, .int .i64 s1)]) rfl fun a' ha => ?_
   refine hK3 _ _ ?_; rw [ha]
   refine Rc.mk ?_
   refine AWP_sq [0, 3] fun K4 hK4 => ?_
   refine AWP_block (AWP_thenB ?_)
   obtain ⟨v2, hv2, H⟩ := bindE H
   obtain ⟨r3, hr3, H⟩ := bindE H
   refine AWP_sr tok [] [0, 3, 15] (fun a σ => a = [(0, .fsl (encL rI p0)), (3, .int .i64 s1), (15, .bool (bnot r3))] ∧ σ = hp E0 [] (M1 + 10)) (fun K hK => ?_) ?_
   ·
    simp -dsimp -implicitDefEqProofs (maxDischargeDepth := 6) [ix22 hv2]
    refine (c27 hr3).app ?_; try simp -dsimp -implicitDefEqProofs (maxDischargeDepth := 6) [ix22 hv2]
    exact hK _ _ ⟨rfl, rfl⟩
   rintro a σ ⟨rfl, rfl⟩
   refine AWP_cond (bnot r3) rfl (fun C2 => ?_) (fun C2 => ?_)
   ·
    replace H := ifT C2 H
    refine AWP_sr tok [] [2] (fun a σ => a = [(2, .bool false)] ∧ σ = hp E0 [] (M1 + 11)) (fun K hK => ?_) ?_
    ·
     simp -dsimp -implicitDefEqProofs (maxDischargeDepth := 6)
     exact hK _ _ ⟨rfl, rfl⟩
    rintro a σ ⟨rfl, rfl⟩
    replace H := Option.some.inj H; subst H
    refine AWP_kp [2] [(2, .bool false)] rfl ?_
    refine AWP_ret (hO2 _ _ _ _ rfl ⟨rfl, ?_⟩)
    exact ⟨[.bool false], by simp, 4, by simp [encL_nil]⟩
   ·
    replace H := ifF C2 H
    refine AWP_skip ?_
    show K4 _ _
    refine keepE (l := [0, 3]) (x := [(0, .fsl (encL rI p0)), (3, .int .i64 s1)]) rfl fun a' ha => ?_
    refine hK4 _ _ ?_; rw [ha]
    refine Rc.mk ?_
    refine AWP_rt tok [] [0, 3] (fun a σ => a = [(0, .fsl (encL rI p0)), (3, .int .i64 (iadd .i64 s1 1))] ∧ σ = hp E0 [] (M1 + 13)) (fun K hK => ?_) ?_
    ·
     simp -dsimp -implicitDefEqProofs (maxDischargeDepth := 6)
     exact hK _ _ ⟨rfl, rfl⟩
    rintro a σ ⟨ha, rfl⟩
    replace H := Option.some.inj H; subst H
    refine hK2 _ _ _ rfl ?_; rw [ha]
    exact Rc.fin (AHeap.Sub.refl _) ⟨M1 + 13, (by omega), rfl, rfl⟩
  ·
   replace H := ifF C1 H
   replace H := Option.some.inj H; subst H
   refine AWP_exit (hO2 _ _ _ _ rfl ⟨rfl, ?_⟩)
   refine Rc.rw (l := [0]) (X := [(0, .fsl (encL rI p0))]) rfl ?_
   exact Rc.fin (AHeap.Sub.refl _) ⟨M1 + 4, (by omega), rfl, rfl⟩
 ·
  intro x a σ hx
  rcases e1 with ⟨⟩ | r0
  ·
   obtain ⟨rfl, b, τ, hr, M2, fM2_0, rfl, rfl⟩ := hx
   dsimp only at H
   show K1 _ _
   refine hK1 _ _ (Rc_ref hr ?_)
   refine Rc.mk ?_
   refine AWP_sr tok [] [2] (fun a σ => a = [(2, .bool (ile (ilen p0) 3))] ∧ σ = hp E0 [] (M2 + 4)) (fun K hK => ?_) ?_
   ·
    simp -dsimp -implicitDefEqProofs (maxDischargeDepth := 6)
    exact hK _ _ ⟨rfl, rfl⟩
   rintro a σ ⟨rfl, rfl⟩
   replace H := Option.some.inj H; subst H
   refine AWP_kp [2] [(2, .bool (ile (ilen p0) 3))] rfl ?_
   refine AWP_ret ?_
   exact ⟨[.bool (ile (ilen p0) 3)], by simp, 4, by simp [encL_nil]⟩
  ·
   obtain ⟨rfl, hx2⟩ := hx
   dsimp only at H
   replace H := Option.some.inj H; subst H; exact hx2
theorem c28 {p0 : (List Int)} {r : (List gBox)} (H : s_l16Empty p0 = some r) : APure Tryd.prog G 28 [.fsl (encL rI p0)] (.fsl (encL rBox r)) := by
 refine APure_fn (fun N0 => ?_) (by simp)
 refine ACalls_fn tok Tryd.func28 (by kernel_rfl) rfl Tryd.ntmps28 Tryd.results28 rfl ?_
 simp only [argsA, Nat.reduceAdd, hp_next]
 unfold s_l16Empty at H
 refine AWP_sr tok [] [0] (fun a σ => a = [(0, .fsl (encL rI p0))] ∧ σ = hp E0 [] (N0 + 1)) (fun K hK => ?_) ?_
 ·
  simp -dsimp -implicitDefEqProofs (maxDischargeDepth := 6)
  exact hK _ _ ⟨rfl, rfl⟩
 rintro a σ ⟨rfl, rfl⟩
 have q0 : ∀ σ i, buildSliceA T 26 true i 0 [] σ = some (.esl, σ) := fun _ _ => rfl
 refine AWP_sr tok [0] [0, 3] (fun a σ => a = [(0, .fsl (encL rI p0)), (3, .esl)] ∧ σ = hp E0 [] (N0 + 3)) (fun K hK => ?_) ?_
 ·
  simp -dsimp -implicitDefEqProofs (maxDischargeDepth := 6) [q0]
  exact hK _ _ ⟨rfl, rfl⟩
 rintro a σ ⟨rfl, rfl⟩
 refine AWP_sq [3] fun K1 hK1 => ?_
 refine AWP_sr tok [] [0, 3, 4] (fun a σ => a = [(0, .fsl (encL rI p0)), (3, .esl), (4, .int .i64 0)] ∧ σ = hp E0 [] (N0 + 4)) (fun K hK => ?_) ?_
 ·
  simp -dsimp -implicitDefEqProofs (maxDischargeDepth := 6)
  exact hK _ _ ⟨rfl, rfl⟩
 rintro a σ ⟨rfl, rfl⟩
 refine AWP_block (AWP_thenB ?_)
 obtain ⟨e1, hse1, H⟩ := bindE H
 refine AWP_lp [0, 3, 4] (fun s a σ => ∃ M1 o1 : Nat, N0 ≤ M1 ∧ N0 ≤ o1 ∧ o1 < M1 ∧ a = [(0, .fsl (encL rI p0)), (3, .sl o1 0 s.2.length), (4, .int .i64 s.1)] ∧ σ = hp E0 [(o1, some ⟨86, 2, encL rBox s.2⟩)] M1) (fun s x a σ => x = .exit 0 ∧ Rc G 22 N0 (fun a σ => ∃ M2 o2 : Nat, N0 ≤ M2 ∧ N0 ≤ o2 ∧ o2 < M2 ∧ a = [(3, .sl o2 0 s.length)] ∧ σ = hp E0 [(o2, some ⟨86, 2, encL rBox s⟩)] M2) (AAct.keep a [3]) σ) hse1 ?_ ?_ ?_
 ·
  refine Rc.kp [0, 3, 4] [(0, .fsl (encL rI p0)), (3, .esl), (4, .int .i64 0)] rfl ?_
  refine gNilS Rc_ref 3 86 2 [(N0 + 4, some ⟨86, 2, encL rBox ([] : List gBox)⟩)] [(0, .fsl (encL rI p0)), (3, .sl (N0 + 4) 0 ([] : List gBox).length), (4, .int .i64 0)] (by simp (disch := omega)) (by simp (disch := omega) [encL_nil]) [0, 3, 4] rfl ?_
  exact Rc.fin (AHeap.Sub.refl _) ⟨N0 + 5, (N0 + 4), (by omega), (by omega), (by omega), rfl, rfl⟩
 ·
  clear H hse1
  rintro ⟨s1, s2⟩ fl a σ H ⟨M1, o1, fM1_0, fM1_1, fM1_2, rfl, rfl⟩ K2 O2 hK2 hO2
  unfold s_l16Empty_L1 at H; dsimp only at H
  refine AWP_sq [0, 3, 4] fun K3 hK3 => ?_
  refine AWP_sr tok [] [0, 3, 4, 9] (fun a σ => a = [(0, .fsl (encL rI p0)), (3, .sl o1 0 s2.length), (4, .int .i64 s1), (9, .bool (ilt s1 (ilen p0)))] ∧ σ = hp E0 [(o1, some ⟨86, 2, encL rBox s2⟩)] (M1 + 4)) (fun K hK => ?_) ?_
  ·
   simp -dsimp -implicitDefEqProofs (maxDischargeDepth := 6)
   exact hK _ _ ⟨rfl, rfl⟩
  rintro a σ ⟨rfl, rfl⟩
  refine AWP_cond (ilt s1 (ilen p0)) rfl (fun C1 => ?_) (fun C1 => ?_)
  ·
   replace H := ifT C1 H
   refine AWP_skip ?_
   show K3 _ _
   refine keepE (l := [0, 3, 4]) (x := [(0, .fsl (encL rI p0)), (3, .sl o1 0 s2.length), (4, .int .i64 s1)]) rfl fun a' ha => ?_
   refine hK3 _ _ ?_; rw [ha]
   refine Rc.mk ?_
   refine AWP_sq [0, 3, 4] fun K4 hK4 => ?_
   refine AWP_block (AWP_thenB ?_)
   obtain ⟨v4, hv4, H⟩ := bindE H
   obtain ⟨l5, hl5, H⟩ := bindE H
   have q1 : ∀ σ i, buildSliceA T 22 true i 0 [] σ = some (.esl, σ) := fun _ _ => rfl
   have q2 : ∀ σ i, buildSliceA T 26 true i 1 [(0, .agg [.int .i64 v4, .fsl []])] σ = some (.fsl (encL rBox ([(⟨v4, ([] : List Int)⟩ : gBox)] : List gBox)), σ) := fun _ _ => rfl
   refine AWP_rt tok [5, 7] [0, 3, 4] (fun a σ => a = [(0, .fsl (encL rI p0)), (3, .sl (M1 + 12) 0 l5.length), (4, .int .i64 s1)] ∧ σ = hp E0 [(M1 + 12, some ⟨86, 2, encL rBox l5⟩)] (M1 + 14)) (fun K hK => ?_) ?_
   ·
    have e0 := nq (a := o1) (b := M1 + 12) (by omega)
    simp -dsimp -implicitDefEqProofs (maxDischargeDepth := 6) [e0, ix22 hv4, q1, q2, app26 hl5]
    exact hK _ _ ⟨rfl, rfl⟩
   rintro a σ ⟨ha, rfl⟩
   refine hK4 _ _ ?_; rw [ha]
   refine Rc.mk ?_
   refine AWP_rt tok [] [0, 3, 4] (fun a σ => a = [(0, .fsl (encL rI p0)), (3, .sl (M1 + 12) 0 l5.length), (4, .int .i64 (iadd .i64 s1 1))] ∧ σ = hp E0 [(M1 + 12, some ⟨86, 2, encL rBox l5⟩)] (M1 + 17)) (fun K hK => ?_) ?_
   ·
    simp -dsimp -implicitDefEqProofs (maxDischargeDepth := 6)
    exact hK _ _ ⟨rfl, rfl⟩
   rintro a σ ⟨ha, rfl⟩
   replace H := Option.some.inj H; subst H
   refine hK2 _ _ _ rfl ?_; rw [ha]
   exact Rc.fin (AHeap.Sub.refl _) ⟨M1 + 17, (M1 + 12), (by omega), (by omega), (by omega), rfl, rfl⟩
  ·
   replace H := ifF C1 H
   replace H := Option.some.inj H; subst H
   refine AWP_exit (hO2 _ _ _ _ rfl ⟨rfl, ?_⟩)
   refine Rc.rw (l := [3]) (X := [(3, .sl o1 0 s2.length)]) rfl ?_
   exact Rc.fin (AHeap.Sub.refl _) ⟨M1 + 4, o1, (by omega), (by omega), (by omega), rfl, rfl⟩
 ·
  intro x a σ hx
  obtain ⟨y3, rfl⟩ : ∃ x, x = e1 := ⟨_, rfl⟩
  obtain ⟨rfl, b, τ, hr, M2, o2, fM2_0, fM2_1, fM2_2, rfl, rfl⟩ := hx
  dsimp only at H
  show K1 _ _
  refine hK1 _ _ (Rc_ref hr ?_)
  refine Rc.mk ?_
  refine AWP_sr tok [] [2] (fun a σ => a = [(2, .sl o2 0 y3.length)] ∧ σ = hp E0 [(o2, some ⟨86, 2, encL rBox y3⟩)] (M2 + 2)) (fun K hK => ?_) ?_
  ·
   simp -dsimp -implicitDefEqProofs (maxDischargeDepth := 6)
   exact hK _ _ ⟨rfl, rfl⟩
  rintro a σ ⟨rfl, rfl⟩
  replace H := Option.some.inj H; subst H
  refine AWP_kp [2] [(2, .sl o2 0 y3.length)] rfl ?_
  refine AWP_ret ?_
  exact ⟨[.sl o2 0 y3.length], by simp, 4, by simp [encL_nil]⟩
theorem c118 {p0 : gInstr} {p1 : Int} {p2 : Int} {p3 : Int} {r : Bool} (H : s_l42Regs p0 p1 p2 p3 = some r) : APure Tryd.prog G 118 [.agg [.int .i64 p0.Op, .int .i64 p0.Rd, .int .i64 p0.Rs, .int .i64 p0.Rt, .int .i64 p0.Imm], .int .i64 p1, .int .i64 p2, .int .i64 p3] (.bool r) := by
 refine APure_fn (fun N0 => ?_) (by simp)
 refine ACalls_fn tok Tryd.func118 (by kernel_rfl) rfl Tryd.ntmps118 Tryd.results118 rfl ?_
 simp only [argsA, Nat.reduceAdd, hp_next]
 unfold s_l42Regs at H
 refine AWP_sr tok [0] [1, 2, 3, 4] (fun a σ => a = [(1, .int .i64 p1), (2, .int .i64 p2), (3, .int .i64 p3), (4, .fptr [.int .i64 p0.Op, .int .i64 p0.Rd, .int .i64 p0.Rs, .int .i64 p0.Rt, .int .i64 p0.Imm] 0)] ∧ σ = hp E0 [] (N0 + 2)) (fun K hK => ?_) ?_
 ·
  simp -dsimp -implicitDefEqProofs (maxDischargeDepth := 6)
  exact hK _ _ ⟨rfl, rfl⟩
 rintro a σ ⟨rfl, rfl⟩
 obtain ⟨r1, hr1, H⟩ := bindE H
 obtain ⟨g3, hg3, H⟩ := bindE H
 obtain ⟨g5, hg5, H⟩ := bindE H
 refine AWP_sr tok [] [8] (fun a σ => a = [(8, .bool g5)] ∧ σ = hp E0 [] (N0 + 22)) (fun K hK => ?_) ?_
 ·
  simp -dsimp -implicitDefEqProofs (maxDischargeDepth := 6)
  refine (c27 hr1).app ?_; try simp -dsimp -implicitDefEqProofs (maxDischargeDepth := 6)
  cases hbg3 : r1
  ·
   replace hg3 := ifF hbg3 hg3
   replace hg3 := Option.some.inj hg3; subst hg3
   try simp -dsimp -implicitDefEqProofs (maxDischargeDepth := 6) [hbg3]
   replace hg5 := ifF rfl hg5
   replace hg5 := Option.some.inj hg5; subst hg5
   try simp -dsimp -implicitDefEqProofs (maxDischargeDepth := 6) [hbg3]
   exact hK _ _ ⟨rfl, rfl⟩
  ·
   replace hg3 := ifT hbg3 hg3
   obtain ⟨r2, hr2, hg3⟩ := bindE hg3
   replace hg3 := Option.some.inj hg3; subst hg3
   try simp -dsimp -implicitDefEqProofs (maxDischargeDepth := 6) [hbg3]
   refine (c27 hr2).app ?_; try simp -dsimp -implicitDefEqProofs (maxDischargeDepth := 6) [hbg3]
   cases hbg5 : r2
   ·
    replace hg5 := ifF hbg5 hg5
    replace hg5 := Option.some.inj hg5; subst hg5
    try simp -dsimp -implicitDefEqProofs (maxDischargeDepth := 6) [hbg3, hbg5]
    exact hK _ _ ⟨rfl, rfl⟩
   ·
    replace hg5 := ifT hbg5 hg5
    obtain ⟨r4, hr4, hg5⟩ := bindE hg5
    replace hg5 := Option.some.inj hg5; subst hg5
    try simp -dsimp -implicitDefEqProofs (maxDischargeDepth := 6) [hbg3, hbg5]
    refine (c27 hr4).app ?_; try simp -dsimp -implicitDefEqProofs (maxDischargeDepth := 6) [hbg3, hbg5]
    exact hK _ _ ⟨rfl, rfl⟩
 rintro a σ ⟨rfl, rfl⟩
 replace H := Option.some.inj H; subst H
 refine AWP_kp [8] [(8, .bool g5)] rfl ?_
 refine AWP_ret ?_
 exact ⟨[.bool g5], by simp, 4, by simp [encL_nil]⟩
theorem c119 {p0 : Int} {p1 : Int} {p2 : Int} {r : Bool} (H : s_l42Even p0 p1 p2 = some r) : APure Tryd.prog G 119 [.int .i64 p0, .int .i64 p1, .int .i64 p2] (.bool r) := by
 refine APure_fn (fun N0 => ?_) (by simp)
 refine ACalls_fn tok Tryd.func119 (by kernel_rfl) rfl Tryd.ntmps119 Tryd.results119 rfl ?_
 simp only [argsA, Nat.reduceAdd, hp_next]
 unfold s_l42Even at H
 refine AWP_sr tok [] [0, 1, 2] (fun a σ => a = [(0, .int .i64 p0), (1, .int .i64 p1), (2, .int .i64 p2)] ∧ σ = hp E0 [] (N0 + 1)) (fun K hK => ?_) ?_
 ·
  simp -dsimp -implicitDefEqProofs (maxDischargeDepth := 6)
  exact hK _ _ ⟨rfl, rfl⟩
 rintro a σ ⟨rfl, rfl⟩
 obtain ⟨r1, hr1, H⟩ := bindE H
 obtain ⟨g3, hg3, H⟩ := bindE H
 refine AWP_sr tok [] [6] (fun a σ => a = [(6, .bool g3)] ∧ σ = hp E0 [] (N0 + 11)) (fun K hK => ?_) ?_
 ·
  simp -dsimp -implicitDefEqProofs (maxDischargeDepth := 6)
  refine (c27 hr1).app ?_; try simp -dsimp -implicitDefEqProofs (maxDischargeDepth := 6)
  cases hbg3 : r1
  ·
   replace hg3 := ifF hbg3 hg3
   replace hg3 := Option.some.inj hg3; subst hg3
   try simp -dsimp -implicitDefEqProofs (maxDischargeDepth := 6) [hbg3]
   exact hK _ _ ⟨rfl, rfl⟩
  ·
   replace hg3 := ifT hbg3 hg3
   obtain ⟨v2, hv2, hg3⟩ := bindE hg3
   replace hg3 := Option.some.inj hg3; subst hg3
   try simp -dsimp -implicitDefEqProofs (maxDischargeDepth := 6) [hbg3, hv2]
   exact hK _ _ ⟨rfl, rfl⟩
 rintro a σ ⟨rfl, rfl⟩
 replace H := Option.some.inj H; subst H
 refine AWP_kp [6] [(6, .bool g3)] rfl ?_
 refine AWP_ret ?_
 exact ⟨[.bool g3], by simp, 4, by simp [encL_nil]⟩
theorem c115 {p0 : gInstr} {r : Bool} (H : s_InstrValid p0 = some r) : APure Tryd.prog G 115 [.agg [.int .i64 p0.Op, .int .i64 p0.Rd, .int .i64 p0.Rs, .int .i64 p0.Rt, .int .i64 p0.Imm]] (.bool r) := by
 refine APure_fn (fun N0 => ?_) (by simp)
 refine ACalls_fn tok Tryd.func115 (by kernel_rfl) rfl Tryd.ntmps115 Tryd.results115 rfl ?_
 simp only [argsA, Nat.reduceAdd, hp_next]
 unfold s_InstrValid at H
 refine AWP_sr tok [0] [1] (fun a σ => a = [(1, .fptr [.int .i64 p0.Op, .int .i64 p0.Rd, .int .i64 p0.Rs, .int .i64 p0.Rt, .int .i64 p0.Imm] 0)] ∧ σ = hp E0 [] (N0 + 2)) (fun K hK => ?_) ?_
 ·
  simp -dsimp -implicitDefEqProofs (maxDischargeDepth := 6)
  exact hK _ _ ⟨rfl, rfl⟩
 rintro a σ ⟨rfl, rfl⟩
 refine AWP_sq [1] fun K1 hK1 => ?_
 refine AWP_block (AWP_thenB ?_)
 obtain ⟨r1, hr1, H⟩ := bindE H
 refine AWP_sr tok [] [1, 3] (fun a σ => a = [(1, .fptr [.int .i64 p0.Op, .int .i64 p0.Rd, .int .i64 p0.Rs, .int .i64 p0.Rt, .int .i64 p0.Imm] 0), (3, .bool r1)] ∧ σ = hp E0 [] (N0 + 6)) (fun K hK => ?_) ?_
 ·
  simp -dsimp -implicitDefEqProofs (maxDischargeDepth := 6)
  refine (c27 hr1).app ?_; try simp -dsimp -implicitDefEqProofs (maxDischargeDepth := 6)
  exact hK _ _ ⟨rfl, rfl⟩
 rintro a σ ⟨rfl, rfl⟩
 refine AWP_cond r1 rfl (fun C1 => ?_) (fun C1 => ?_)
 ·
  replace H := ifT C1 H
  obtain ⟨r2, hr2, H⟩ := bindE H
  obtain ⟨g3, hg3, H⟩ := bindE H
  refine AWP_sr tok [] [2] (fun a σ => a = [(2, .bool g3)] ∧ σ = hp E0 [] (N0 + 14)) (fun K hK => ?_) ?_
  ·
   simp -dsimp -implicitDefEqProofs (maxDischargeDepth := 6)
   refine (c118 hr2).app ?_; try simp -dsimp -implicitDefEqProofs (maxDischargeDepth := 6)
   cases hbg3 : r2
   ·
    replace hg3 := ifF hbg3 hg3
    replace hg3 := Option.some.inj hg3; subst hg3
    try simp -dsimp -implicitDefEqProofs (maxDischargeDepth := 6) [hbg3]
    exact hK _ _ ⟨rfl, rfl⟩
   ·
    replace hg3 := ifT hbg3 hg3
    replace hg3 := Option.some.inj hg3; subst hg3
    try simp -dsimp -implicitDefEqProofs (maxDischargeDepth := 6) [hbg3]
    exact hK _ _ ⟨rfl, rfl⟩
  rintro a σ ⟨rfl, rfl⟩
  replace H := Option.some.inj H; subst H
  refine AWP_kp [2] [(2, .bool g3)] rfl ?_
  refine AWP_ret ?_
  exact ⟨[.bool g3], by simp, 4, by simp [encL_nil]⟩
 ·
  replace H := ifF C1 H
  obtain ⟨r4, hr4, H⟩ := bindE H
  refine AWP_sr tok [] [1, 14] (fun a σ => a = [(1, .fptr [.int .i64 p0.Op, .int .i64 p0.Rd, .int .i64 p0.Rs, .int .i64 p0.Rt, .int .i64 p0.Imm] 0), (14, .bool r4)] ∧ σ = hp E0 [] (N0 + 10)) (fun K hK => ?_) ?_
  ·
   simp -dsimp -implicitDefEqProofs (maxDischargeDepth := 6)
   refine (c27 hr4).app ?_; try simp -dsimp -implicitDefEqProofs (maxDischargeDepth := 6)
   exact hK _ _ ⟨rfl, rfl⟩
  rintro a σ ⟨rfl, rfl⟩
  refine AWP_cond r4 rfl (fun C2 => ?_) (fun C2 => ?_)
  ·
   replace H := ifT C2 H
   obtain ⟨r5, hr5, H⟩ := bindE H
   obtain ⟨g7, hg7, H⟩ := bindE H
   refine AWP_sr tok [] [2] (fun a σ => a = [(2, .bool g7)] ∧ σ = hp E0 [] (N0 + 18)) (fun K hK => ?_) ?_
   ·
    simp -dsimp -implicitDefEqProofs (maxDischargeDepth := 6)
    refine (c118 hr5).app ?_; try simp -dsimp -implicitDefEqProofs (maxDischargeDepth := 6)
    cases hbg7 : r5
    ·
     replace hg7 := ifF hbg7 hg7
     replace hg7 := Option.some.inj hg7; subst hg7
     try simp -dsimp -implicitDefEqProofs (maxDischargeDepth := 6) [hbg7]
     exact hK _ _ ⟨rfl, rfl⟩
    ·
     replace hg7 := ifT hbg7 hg7
     obtain ⟨r6, hr6, hg7⟩ := bindE hg7
     replace hg7 := Option.some.inj hg7; subst hg7
     try simp -dsimp -implicitDefEqProofs (maxDischargeDepth := 6) [hbg7]
     refine (c27 hr6).app ?_; try simp -dsimp -implicitDefEqProofs (maxDischargeDepth := 6) [hbg7]
     exact hK _ _ ⟨rfl, rfl⟩
   rintro a σ ⟨rfl, rfl⟩
   replace H := Option.some.inj H; subst H
   refine AWP_kp [2] [(2, .bool g7)] rfl ?_
   refine AWP_ret ?_
   exact ⟨[.bool g7], by simp, 4, by simp [encL_nil]⟩
  ·
   replace H := ifF C2 H
   refine AWP_sr tok [] [1, 25] (fun a σ => a = [(1, .fptr [.int .i64 p0.Op, .int .i64 p0.Rd, .int .i64 p0.Rs, .int .i64 p0.Rt, .int .i64 p0.Imm] 0), (25, .bool (ieq p0.Op 16))] ∧ σ = hp E0 [] (N0 + 14)) (fun K hK => ?_) ?_
   ·
    simp -dsimp -implicitDefEqProofs (maxDischargeDepth := 6)
    exact hK _ _ ⟨rfl, rfl⟩
   rintro a σ ⟨rfl, rfl⟩
   refine AWP_cond (ieq p0.Op 16) rfl (fun C3 => ?_) (fun C3 => ?_)
   ·
    replace H := ifT C3 H
    obtain ⟨r8, hr8, H⟩ := bindE H
    obtain ⟨g10, hg10, H⟩ := bindE H
    refine AWP_sr tok [] [2] (fun a σ => a = [(2, .bool g10)] ∧ σ = hp E0 [] (N0 + 22)) (fun K hK => ?_) ?_
    ·
     simp -dsimp -implicitDefEqProofs (maxDischargeDepth := 6)
     refine (c118 hr8).app ?_; try simp -dsimp -implicitDefEqProofs (maxDischargeDepth := 6)
     cases hbg10 : r8
     ·
      replace hg10 := ifF hbg10 hg10
      replace hg10 := Option.some.inj hg10; subst hg10
      try simp -dsimp -implicitDefEqProofs (maxDischargeDepth := 6) [hbg10]
      exact hK _ _ ⟨rfl, rfl⟩
     ·
      replace hg10 := ifT hbg10 hg10
      obtain ⟨r9, hr9, hg10⟩ := bindE hg10
      replace hg10 := Option.some.inj hg10; subst hg10
      try simp -dsimp -implicitDefEqProofs (maxDischargeDepth := 6) [hbg10]
      refine (c27 hr9).app ?_; try simp -dsimp -implicitDefEqProofs (maxDischargeDepth := 6) [hbg10]
      exact hK _ _ ⟨rfl, rfl⟩
    rintro a σ ⟨rfl, rfl⟩
    replace H := Option.some.inj H; subst H
    refine AWP_kp [2] [(2, .bool g10)] rfl ?_
    refine AWP_ret ?_
    exact ⟨[.bool g10], by simp, 4, by simp [encL_nil]⟩
   ·
    replace H := ifF C3 H
    obtain ⟨g11, hg11, H⟩ := bindE H
    refine AWP_sr tok [] [1, 36] (fun a σ => a = [(1, .fptr [.int .i64 p0.Op, .int .i64 p0.Rd, .int .i64 p0.Rs, .int .i64 p0.Rt, .int .i64 p0.Imm] 0), (36, .bool g11)] ∧ σ = hp E0 [] (N0 + 23)) (fun K hK => ?_) ?_
    ·
     simp -dsimp -implicitDefEqProofs (maxDischargeDepth := 6)
     cases hbg11 : ieq p0.Op 17
     ·
      replace hg11 := ifF hbg11 hg11
      replace hg11 := Option.some.inj hg11; subst hg11
      try simp -dsimp -implicitDefEqProofs (maxDischargeDepth := 6) [hbg11]
      exact hK _ _ ⟨rfl, rfl⟩
     ·
      replace hg11 := ifT hbg11 hg11
      replace hg11 := Option.some.inj hg11; subst hg11
      try simp -dsimp -implicitDefEqProofs (maxDischargeDepth := 6) [hbg11]
      exact hK _ _ ⟨rfl, rfl⟩
    rintro a σ ⟨rfl, rfl⟩
    refine AWP_cond g11 rfl (fun C4 => ?_) (fun C4 => ?_)
    ·
     replace H := ifT C4 H
     obtain ⟨r12, hr12, H⟩ := bindE H
     obtain ⟨g14, hg14, H⟩ := bindE H
     refine AWP_sr tok [] [2] (fun a σ => a = [(2, .bool g14)] ∧ σ = hp E0 [] (N0 + 31)) (fun K hK => ?_) ?_
     ·
      simp -dsimp -implicitDefEqProofs (maxDischargeDepth := 6)
      refine (c118 hr12).app ?_; try simp -dsimp -implicitDefEqProofs (maxDischargeDepth := 6)
      cases hbg14 : r12
      ·
       replace hg14 := ifF hbg14 hg14
       replace hg14 := Option.some.inj hg14; subst hg14
       try simp -dsimp -implicitDefEqProofs (maxDischargeDepth := 6) [hbg14]
       exact hK _ _ ⟨rfl, rfl⟩
      ·
       replace hg14 := ifT hbg14 hg14
       obtain ⟨r13, hr13, hg14⟩ := bindE hg14
       replace hg14 := Option.some.inj hg14; subst hg14
       try simp -dsimp -implicitDefEqProofs (maxDischargeDepth := 6) [hbg14]
       refine (c119 hr13).app ?_; try simp -dsimp -implicitDefEqProofs (maxDischargeDepth := 6) [hbg14]
       exact hK _ _ ⟨rfl, rfl⟩
     rintro a σ ⟨rfl, rfl⟩
     replace H := Option.some.inj H; subst H
     refine AWP_kp [2] [(2, .bool g14)] rfl ?_
     refine AWP_ret ?_
     exact ⟨[.bool g14], by simp, 4, by simp [encL_nil]⟩
    ·
     replace H := ifF C4 H
     refine AWP_sr tok [] [1, 52] (fun a σ => a = [(1, .fptr [.int .i64 p0.Op, .int .i64 p0.Rd, .int .i64 p0.Rs, .int .i64 p0.Rt, .int .i64 p0.Imm] 0), (52, .bool (ieq p0.Op 19))] ∧ σ = hp E0 [] (N0 + 27)) (fun K hK => ?_) ?_
     ·
      simp -dsimp -implicitDefEqProofs (maxDischargeDepth := 6)
      exact hK _ _ ⟨rfl, rfl⟩
     rintro a σ ⟨rfl, rfl⟩
     refine AWP_cond (ieq p0.Op 19) rfl (fun C5 => ?_) (fun C5 => ?_)
     ·
      replace H := ifT C5 H
      obtain ⟨r15, hr15, H⟩ := bindE H
      obtain ⟨g17, hg17, H⟩ := bindE H
      refine AWP_sr tok [] [2] (fun a σ => a = [(2, .bool g17)] ∧ σ = hp E0 [] (N0 + 35)) (fun K hK => ?_) ?_
      ·
       simp -dsimp -implicitDefEqProofs (maxDischargeDepth := 6)
       refine (c118 hr15).app ?_; try simp -dsimp -implicitDefEqProofs (maxDischargeDepth := 6)
       cases hbg17 : r15
       ·
        replace hg17 := ifF hbg17 hg17
        replace hg17 := Option.some.inj hg17; subst hg17
        try simp -dsimp -implicitDefEqProofs (maxDischargeDepth := 6) [hbg17]
        exact hK _ _ ⟨rfl, rfl⟩
       ·
        replace hg17 := ifT hbg17 hg17
        obtain ⟨r16, hr16, hg17⟩ := bindE hg17
        replace hg17 := Option.some.inj hg17; subst hg17
        try simp -dsimp -implicitDefEqProofs (maxDischargeDepth := 6) [hbg17]
        refine (c27 hr16).app ?_; try simp -dsimp -implicitDefEqProofs (maxDischargeDepth := 6) [hbg17]
        exact hK _ _ ⟨rfl, rfl⟩
      rintro a σ ⟨rfl, rfl⟩
      replace H := Option.some.inj H; subst H
      refine AWP_kp [2] [(2, .bool g17)] rfl ?_
      refine AWP_ret ?_
      exact ⟨[.bool g17], by simp, 4, by simp [encL_nil]⟩
     ·
      replace H := ifF C5 H
      refine AWP_sr tok [] [1, 63] (fun a σ => a = [(1, .fptr [.int .i64 p0.Op, .int .i64 p0.Rd, .int .i64 p0.Rs, .int .i64 p0.Rt, .int .i64 p0.Imm] 0), (63, .bool (ieq p0.Op 20))] ∧ σ = hp E0 [] (N0 + 31)) (fun K hK => ?_) ?_
      ·
       simp -dsimp -implicitDefEqProofs (maxDischargeDepth := 6)
       exact hK _ _ ⟨rfl, rfl⟩
      rintro a σ ⟨rfl, rfl⟩
      refine AWP_cond (ieq p0.Op 20) rfl (fun C6 => ?_) (fun C6 => ?_)
      ·
       replace H := ifT C6 H
       obtain ⟨r18, hr18, H⟩ := bindE H
       obtain ⟨g20, hg20, H⟩ := bindE H
       refine AWP_sr tok [] [2] (fun a σ => a = [(2, .bool g20)] ∧ σ = hp E0 [] (N0 + 39)) (fun K hK => ?_) ?_
       ·
        simp -dsimp -implicitDefEqProofs (maxDischargeDepth := 6)
        refine (c118 hr18).app ?_; try simp -dsimp -implicitDefEqProofs (maxDischargeDepth := 6)
        cases hbg20 : r18
        ·
         replace hg20 := ifF hbg20 hg20
         replace hg20 := Option.some.inj hg20; subst hg20
         try simp -dsimp -implicitDefEqProofs (maxDischargeDepth := 6) [hbg20]
         exact hK _ _ ⟨rfl, rfl⟩
        ·
         replace hg20 := ifT hbg20 hg20
         obtain ⟨r19, hr19, hg20⟩ := bindE hg20
         replace hg20 := Option.some.inj hg20; subst hg20
         try simp -dsimp -implicitDefEqProofs (maxDischargeDepth := 6) [hbg20]
         refine (c119 hr19).app ?_; try simp -dsimp -implicitDefEqProofs (maxDischargeDepth := 6) [hbg20]
         exact hK _ _ ⟨rfl, rfl⟩
       rintro a σ ⟨rfl, rfl⟩
       replace H := Option.some.inj H; subst H
       refine AWP_kp [2] [(2, .bool g20)] rfl ?_
       refine AWP_ret ?_
       exact ⟨[.bool g20], by simp, 4, by simp [encL_nil]⟩
      ·
       replace H := ifF C6 H
       refine AWP_skip ?_
       show K1 _ _
       refine keepE (l := [1]) (x := [(1, .fptr [.int .i64 p0.Op, .int .i64 p0.Rd, .int .i64 p0.Rs, .int .i64 p0.Rt, .int .i64 p0.Imm] 0)]) rfl fun a' ha => ?_
       refine hK1 _ _ ?_; rw [ha]
       refine Rc.mk ?_
       obtain ⟨g22, hg22, H⟩ := bindE H
       obtain ⟨g23, hg23, H⟩ := bindE H
       refine AWP_sr tok [] [2] (fun a σ => a = [(2, .bool g23)] ∧ σ = hp E0 [] (N0 + 44)) (fun K hK => ?_) ?_
       ·
        simp -dsimp -implicitDefEqProofs (maxDischargeDepth := 6)
        cases hbg22 : ieq p0.Op 21
        ·
         replace hg22 := ifF hbg22 hg22
         replace hg22 := Option.some.inj hg22; subst hg22
         try simp -dsimp -implicitDefEqProofs (maxDischargeDepth := 6) [hbg22]
         replace hg23 := ifF rfl hg23
         replace hg23 := Option.some.inj hg23; subst hg23
         try simp -dsimp -implicitDefEqProofs (maxDischargeDepth := 6) [hbg22]
         exact hK _ _ ⟨rfl, rfl⟩
        ·
         replace hg22 := ifT hbg22 hg22
         obtain ⟨r21, hr21, hg22⟩ := bindE hg22
         replace hg22 := Option.some.inj hg22; subst hg22
         try simp -dsimp -implicitDefEqProofs (maxDischargeDepth := 6) [hbg22]
         refine (c118 hr21).app ?_; try simp -dsimp -implicitDefEqProofs (maxDischargeDepth := 6) [hbg22]
         cases hbg23 : r21
         ·
          replace hg23 := ifF hbg23 hg23
          replace hg23 := Option.some.inj hg23; subst hg23
          try simp -dsimp -implicitDefEqProofs (maxDischargeDepth := 6) [hbg22, hbg23]
          exact hK _ _ ⟨rfl, rfl⟩
         ·
          replace hg23 := ifT hbg23 hg23
          replace hg23 := Option.some.inj hg23; subst hg23
          try simp -dsimp -implicitDefEqProofs (maxDischargeDepth := 6) [hbg22, hbg23]
          exact hK _ _ ⟨rfl, rfl⟩
       rintro a σ ⟨rfl, rfl⟩
       replace H := Option.some.inj H; subst H
       refine AWP_kp [2] [(2, .bool g23)] rfl ?_
       refine AWP_ret ?_
       exact ⟨[.bool g23], by simp, 4, by simp [encL_nil]⟩
theorem c121 {p0 : Int} {p1 : Int} {r : Int} (H : s_l42Mod p0 p1 = some r) : APure Tryd.prog G 121 [.int .i64 p0, .int .i64 p1] (.int .i64 r) := by
 refine APure_fn (fun N0 => ?_) (by simp)
 refine ACalls_fn tok Tryd.func121 (by kernel_rfl) rfl Tryd.ntmps121 Tryd.results121 rfl ?_
 simp only [argsA, Nat.reduceAdd, hp_next]
 unfold s_l42Mod at H
 refine AWP_sr tok [] [0, 1] (fun a σ => a = [(0, .int .i64 p0), (1, .int .i64 p1)] ∧ σ = hp E0 [] (N0 + 1)) (fun K hK => ?_) ?_
 ·
  simp -dsimp -implicitDefEqProofs (maxDischargeDepth := 6)
  exact hK _ _ ⟨rfl, rfl⟩
 rintro a σ ⟨rfl, rfl⟩
 refine AWP_sq [0] fun K1 hK1 => ?_
 refine AWP_sr tok [] [0, 1, 6] (fun a σ => a = [(0, .int .i64 p0), (1, .int .i64 p1), (6, .bool (ilt p0 0))] ∧ σ = hp E0 [] (N0 + 3)) (fun K hK => ?_) ?_
 ·
  simp -dsimp -implicitDefEqProofs (maxDischargeDepth := 6)
  exact hK _ _ ⟨rfl, rfl⟩
 rintro a σ ⟨rfl, rfl⟩
 refine AWP_cond (ilt p0 0) rfl (fun C1 => ?_) (fun C1 => ?_)
 ·
  replace H := ifT C1 H
  refine AWP_sr tok [] [4] (fun a σ => a = [(4, .int .i64 (iadd .i64 p0 p1))] ∧ σ = hp E0 [] (N0 + 7)) (fun K hK => ?_) ?_
  ·
   simp -dsimp -implicitDefEqProofs (maxDischargeDepth := 6)
   exact hK _ _ ⟨rfl, rfl⟩
  rintro a σ ⟨rfl, rfl⟩
  replace H := Option.some.inj H; subst H
  refine AWP_kp [4] [(4, .int .i64 (iadd .i64 p0 p1))] rfl ?_
  refine AWP_ret ?_
  exact ⟨[.int .i64 (iadd .i64 p0 p1)], by simp, 4, by simp [encL_nil]⟩
 ·
  replace H := ifF C1 H
  refine AWP_skip ?_
  show K1 _ _
  refine keepE (l := [0]) (x := [(0, .int .i64 p0)]) rfl fun a' ha => ?_
  refine hK1 _ _ ?_; rw [ha]
  refine Rc.mk ?_
  refine AWP_sr tok [] [4] (fun a σ => a = [(4, .int .i64 p0)] ∧ σ = hp E0 [] (N0 + 5)) (fun K hK => ?_) ?_
  ·
   simp -dsimp -implicitDefEqProofs (maxDischargeDepth := 6)
   exact hK _ _ ⟨rfl, rfl⟩
  rintro a σ ⟨rfl, rfl⟩
  replace H := Option.some.inj H; subst H
  refine AWP_kp [4] [(4, .int .i64 p0)] rfl ?_
  refine AWP_ret ?_
  exact ⟨[.int .i64 p0], by simp, 4, by simp [encL_nil]⟩
theorem c117 {p0 : Int} {r : Int} (H : s_l1Power p0 = some r) : APure Tryd.prog G 117 [.int .i64 p0] (.int .i64 r) := by
 refine APure_fn (fun N0 => ?_) (by simp)
 refine ACalls_fn tok Tryd.func117 (by kernel_rfl) rfl Tryd.ntmps117 Tryd.results117 rfl ?_
 simp only [argsA, Nat.reduceAdd, hp_next]
 unfold s_l1Power at H
 refine AWP_sr tok [] [0] (fun a σ => a = [(0, .int .i64 p0)] ∧ σ = hp E0 [] (N0 + 1)) (fun K hK => ?_) ?_
 ·
  simp -dsimp -implicitDefEqProofs (maxDischargeDepth := 6)
  exact hK _ _ ⟨rfl, rfl⟩
 rintro a σ ⟨rfl, rfl⟩
 refine AWP_sr tok [] [0, 3] (fun a σ => a = [(0, .int .i64 p0), (3, .int .i64 1)] ∧ σ = hp E0 [] (N0 + 2)) (fun K hK => ?_) ?_
 ·
  simp -dsimp -implicitDefEqProofs (maxDischargeDepth := 6)
  exact hK _ _ ⟨rfl, rfl⟩
 rintro a σ ⟨rfl, rfl⟩
 refine AWP_sq [3] fun K1 hK1 => ?_
 refine AWP_sr tok [] [0, 3, 4] (fun a σ => a = [(0, .int .i64 p0), (3, .int .i64 1), (4, .int .i64 0)] ∧ σ = hp E0 [] (N0 + 3)) (fun K hK => ?_) ?_
 ·
  simp -dsimp -implicitDefEqProofs (maxDischargeDepth := 6)
  exact hK _ _ ⟨rfl, rfl⟩
 rintro a σ ⟨rfl, rfl⟩
 refine AWP_block (AWP_thenB ?_)
 obtain ⟨e1, hse1, H⟩ := bindE H
 refine AWP_lp [0, 3, 4] (fun s a σ => ∃ M1 : Nat, N0 ≤ M1 ∧ a = [(0, .int .i64 p0), (3, .int .i64 s.1), (4, .int .i64 s.2)] ∧ σ = hp E0 [] M1) (fun s x a σ => x = .exit 0 ∧ Rc G 13 N0 (fun a σ => ∃ M2 : Nat, N0 ≤ M2 ∧ a = [(3, .int .i64 s)] ∧ σ = hp E0 [] M2) (AAct.keep a [3]) σ) hse1 ?_ ?_ ?_
 ·
  refine Rc.kp [0, 3, 4] [(0, .int .i64 p0), (3, .int .i64 1), (4, .int .i64 0)] rfl ?_
  exact Rc.fin (AHeap.Sub.refl _) ⟨N0 + 3, (by omega), rfl, rfl⟩
 ·
  clear H hse1
  rintro ⟨s1, s2⟩ fl a σ H ⟨M1, fM1_0, rfl, rfl⟩ K2 O2 hK2 hO2
  unfold s_l1Power_L1 at H; dsimp only at H
  refine AWP_sq [0, 3, 4] fun K3 hK3 => ?_
  refine AWP_sr tok [] [0, 3, 4, 7] (fun a σ => a = [(0, .int .i64 p0), (3, .int .i64 s1), (4, .int .i64 s2), (7, .bool (ilt s2 p0))] ∧ σ = hp E0 [] (M1 + 3)) (fun K hK => ?_) ?_
  ·
   simp -dsimp -implicitDefEqProofs (maxDischargeDepth := 6)
   exact hK _ _ ⟨rfl, rfl⟩
  rintro a σ ⟨rfl, rfl⟩
  refine AWP_cond (ilt s2 p0) rfl (fun C1 => ?_) (fun C1 => ?_)
  ·
   replace H := ifT C1 H
   refine AWP_skip ?_
   show K3 _ _
   refine keepE (l := [0, 3, 4]) (x := [(0, .int .i64 p0), (3, .int .i64 s1), (4, .int .i64 s2)]) rfl fun a' ha => ?_
   refine hK3 _ _ ?_; rw [ha]
   refine Rc.mk ?_
   refine AWP_sq [0, 3, 4] fun K4 hK4 => ?_
   refine AWP_block (AWP_thenB ?_)
   refine AWP_rt tok [] [0, 3, 4] (fun a σ => a = [(0, .int .i64 p0), (3, .int .i64 (imul .i64 s1 2)), (4, .int .i64 s2)] ∧ σ = hp E0 [] (M1 + 6)) (fun K hK => ?_) ?_
   ·
    simp -dsimp -implicitDefEqProofs (maxDischargeDepth := 6)
    exact hK _ _ ⟨rfl, rfl⟩
   rintro a σ ⟨ha, rfl⟩
   refine hK4 _ _ ?_; rw [ha]
   refine Rc.mk ?_
   refine AWP_rt tok [] [0, 3, 4] (fun a σ => a = [(0, .int .i64 p0), (3, .int .i64 (imul .i64 s1 2)), (4, .int .i64 (iadd .i64 s2 1))] ∧ σ = hp E0 [] (M1 + 9)) (fun K hK => ?_) ?_
   ·
    simp -dsimp -implicitDefEqProofs (maxDischargeDepth := 6)
    exact hK _ _ ⟨rfl, rfl⟩
   rintro a σ ⟨ha, rfl⟩
   replace H := Option.some.inj H; subst H
   refine hK2 _ _ _ rfl ?_; rw [ha]
   exact Rc.fin (AHeap.Sub.refl _) ⟨M1 + 9, (by omega), rfl, rfl⟩
  ·
   replace H := ifF C1 H
   replace H := Option.some.inj H; subst H
   refine AWP_exit (hO2 _ _ _ _ rfl ⟨rfl, ?_⟩)
   refine Rc.rw (l := [3]) (X := [(3, .int .i64 s1)]) rfl ?_
   exact Rc.fin (AHeap.Sub.refl _) ⟨M1 + 3, (by omega), rfl, rfl⟩
 ·
  intro x a σ hx
  obtain ⟨y3, rfl⟩ : ∃ x, x = e1 := ⟨_, rfl⟩
  obtain ⟨rfl, b, τ, hr, M2, fM2_0, rfl, rfl⟩ := hx
  dsimp only at H
  show K1 _ _
  refine hK1 _ _ (Rc_ref hr ?_)
  refine Rc.mk ?_
  refine AWP_sr tok [] [2] (fun a σ => a = [(2, .int .i64 y3)] ∧ σ = hp E0 [] (M2 + 2)) (fun K hK => ?_) ?_
  ·
   simp -dsimp -implicitDefEqProofs (maxDischargeDepth := 6)
   exact hK _ _ ⟨rfl, rfl⟩
  rintro a σ ⟨rfl, rfl⟩
  replace H := Option.some.inj H; subst H
  refine AWP_kp [2] [(2, .int .i64 y3)] rfl ?_
  refine AWP_ret ?_
  exact ⟨[.int .i64 y3], by simp, 4, by simp [encL_nil]⟩
theorem c122 {p0 : Int} {p1 : Int} {r : Int} (H : s_l42Put p0 p1 = some r) : APure Tryd.prog G 122 [.int .i64 p0, .int .i64 p1] (.int .i64 r) := by
 refine APure_fn (fun N0 => ?_) (by simp)
 refine ACalls_fn tok Tryd.func122 (by kernel_rfl) rfl Tryd.ntmps122 Tryd.results122 rfl ?_
 simp only [argsA, Nat.reduceAdd, hp_next]
 unfold s_l42Put at H
 refine AWP_sr tok [] [0, 1] (fun a σ => a = [(0, .int .i64 p0), (1, .int .i64 p1)] ∧ σ = hp E0 [] (N0 + 1)) (fun K hK => ?_) ?_
 ·
  simp -dsimp -implicitDefEqProofs (maxDischargeDepth := 6)
  exact hK _ _ ⟨rfl, rfl⟩
 rintro a σ ⟨rfl, rfl⟩
 obtain ⟨r1, hr1, H⟩ := bindE H
 refine AWP_sr tok [] [4] (fun a σ => a = [(4, .int .i64 (imul .i64 p0 r1))] ∧ σ = hp E0 [] (N0 + 6)) (fun K hK => ?_) ?_
 ·
  simp -dsimp -implicitDefEqProofs (maxDischargeDepth := 6)
  refine (c117 hr1).app ?_; try simp -dsimp -implicitDefEqProofs (maxDischargeDepth := 6)
  exact hK _ _ ⟨rfl, rfl⟩
 rintro a σ ⟨rfl, rfl⟩
 replace H := Option.some.inj H; subst H
 refine AWP_kp [4] [(4, .int .i64 (imul .i64 p0 r1))] rfl ?_
 refine AWP_ret ?_
 exact ⟨[.int .i64 (imul .i64 p0 r1)], by simp, 4, by simp [encL_nil]⟩
theorem c127 {p0 : Int} {r : Int} (H : s_l42Three p0 = some r) : APure Tryd.prog G 127 [.int .i64 p0] (.int .i64 r) := by
 refine APure_fn (fun N0 => ?_) (by simp)
 refine ACalls_fn tok Tryd.func127 (by kernel_rfl) rfl Tryd.ntmps127 Tryd.results127 rfl ?_
 simp only [argsA, Nat.reduceAdd, hp_next]
 unfold s_l42Three at H
 refine AWP_sr tok [] [0] (fun a σ => a = [(0, .int .i64 p0)] ∧ σ = hp E0 [] (N0 + 1)) (fun K hK => ?_) ?_
 ·
  simp -dsimp -implicitDefEqProofs (maxDischargeDepth := 6)
  exact hK _ _ ⟨rfl, rfl⟩
 rintro a σ ⟨rfl, rfl⟩
 obtain ⟨v1, hv1, H⟩ := bindE H
 have q0 : ∀ σ i, buildSliceA T 22 true i 21 [(0, .int .i64 0), (1, .int .i64 0), (2, .int .i64 0), (3, .int .i64 4), (4, .int .i64 6), (5, .int .i64 7), (6, .int .i64 6), (7, .int .i64 4), (8, .int .i64 1), (9, .int .i64 5), (10, .int .i64 2), (11, .int .i64 0), (12, .int .i64 3), (13, .int .i64 2), (14, .int .i64 0), (15, .int .i64 2), (16, .int .i64 0), (17, .int .i64 1), (18, .int .i64 0), (19, .int .i64 0), (20, .int .i64 0)] σ = some (.fsl (encL rI ([0, 0, 0, 4, 6, 7, 6, 4, 1, 5, 2, 0, 3, 2, 0, 2, 0, 1, 0, 0, 0] : List Int)), σ) := fun _ _ => rfl
 refine AWP_sr tok [0] [2] (fun a σ => a = [(2, .int .i64 v1)] ∧ σ = hp E0 [] (N0 + 7)) (fun K hK => ?_) ?_
 ·
  simp -dsimp -implicitDefEqProofs (maxDischargeDepth := 6) [q0, ix22 hv1]
  exact hK _ _ ⟨rfl, rfl⟩
 rintro a σ ⟨rfl, rfl⟩
 replace H := Option.some.inj H; subst H
 refine AWP_kp [2] [(2, .int .i64 v1)] rfl ?_
 refine AWP_ret ?_
 exact ⟨[.int .i64 v1], by simp, 4, by simp [encL_nil]⟩
theorem c123 {p0 : gInstr} {p1 : Int} {r : Int} (H : s_l42Mid p0 p1 = some r) : APure Tryd.prog G 123 [.agg [.int .i64 p0.Op, .int .i64 p0.Rd, .int .i64 p0.Rs, .int .i64 p0.Rt, .int .i64 p0.Imm], .int .i64 p1] (.int .i64 r) := by
 refine APure_fn (fun N0 => ?_) (by simp)
 refine ACalls_fn tok Tryd.func123 (by kernel_rfl) rfl Tryd.ntmps123 Tryd.results123 rfl ?_
 simp only [argsA, Nat.reduceAdd, hp_next]
 unfold s_l42Mid at H
 refine AWP_sr tok [0] [1, 2] (fun a σ => a = [(1, .int .i64 p1), (2, .fptr [.int .i64 p0.Op, .int .i64 p0.Rd, .int .i64 p0.Rs, .int .i64 p0.Rt, .int .i64 p0.Imm] 0)] ∧ σ = hp E0 [] (N0 + 2)) (fun K hK => ?_) ?_
 ·
  simp -dsimp -implicitDefEqProofs (maxDischargeDepth := 6)
  exact hK _ _ ⟨rfl, rfl⟩
 rintro a σ ⟨rfl, rfl⟩
 obtain ⟨r1, hr1, H⟩ := bindE H
 obtain ⟨r2, hr2, H⟩ := bindE H
 obtain ⟨r3, hr3, H⟩ := bindE H
 refine AWP_sd tok tokM [] [] [0, 1, 2, 3, 4, 5, 6, 7, 8, 9, 10] [4] (fun a σ => a = [(4, .int .i64 (iadd .i64 (iadd .i64 r1 r3) p1))] ∧ σ = hp E0 [] (N0 + 13)) (by decide) (fun K hK => ?_) ?_
 ·
  simp only [pickL, nthO_succ, nthO_zero]
  simp -dsimp -implicitDefEqProofs (maxDischargeDepth := 6)
  refine Pc.mk (c122 hr1) ?_; try simp -dsimp -implicitDefEqProofs (maxDischargeDepth := 6)
  refine Pc.mk (c127 hr2) ?_; try simp -dsimp -implicitDefEqProofs (maxDischargeDepth := 6)
  refine Pc.mk (c122 hr3) ?_; try simp -dsimp -implicitDefEqProofs (maxDischargeDepth := 6)
  exact hK _ _ ⟨rfl, rfl⟩
 rintro a σ ⟨rfl, rfl⟩
 replace H := Option.some.inj H; subst H
 refine AWP_kp [4] [(4, .int .i64 (iadd .i64 (iadd .i64 r1 r3) p1))] rfl ?_
 refine AWP_ret ?_
 exact ⟨[.int .i64 (iadd .i64 (iadd .i64 r1 r3) p1)], by simp, 4, by simp [encL_nil]⟩
theorem c120 {p0 : gInstr} {p1 : Int} {r : Int} (H : s_l42Imm p0 p1 = some r) : APure Tryd.prog G 120 [.agg [.int .i64 p0.Op, .int .i64 p0.Rd, .int .i64 p0.Rs, .int .i64 p0.Rt, .int .i64 p0.Imm], .int .i64 p1] (.int .i64 r) := by
 refine APure_fn (fun N0 => ?_) (by simp)
 refine ACalls_fn tok Tryd.func120 (by kernel_rfl) rfl Tryd.ntmps120 Tryd.results120 rfl ?_
 simp only [argsA, Nat.reduceAdd, hp_next]
 unfold s_l42Imm at H
 refine AWP_sr tok [0] [1, 2] (fun a σ => a = [(1, .int .i64 p1), (2, .fptr [.int .i64 p0.Op, .int .i64 p0.Rd, .int .i64 p0.Rs, .int .i64 p0.Rt, .int .i64 p0.Imm] 0)] ∧ σ = hp E0 [] (N0 + 2)) (fun K hK => ?_) ?_
 ·
  simp -dsimp -implicitDefEqProofs (maxDischargeDepth := 6)
  exact hK _ _ ⟨rfl, rfl⟩
 rintro a σ ⟨rfl, rfl⟩
 obtain ⟨r1, hr1, H⟩ := bindE H
 obtain ⟨r2, hr2, H⟩ := bindE H
 obtain ⟨r3, hr3, H⟩ := bindE H
 obtain ⟨r4, hr4, H⟩ := bindE H
 refine AWP_sd tok tokM [] [] [0, 1, 2, 3, 4, 5, 6, 7, 8, 9, 10, 11, 12] [4] (fun a σ => a = [(4, .int .i64 (iadd .i64 (iadd .i64 r2 r3) r4))] ∧ σ = hp E0 [] (N0 + 15)) (by decide) (fun K hK => ?_) ?_
 ·
  simp only [pickL, nthO_succ, nthO_zero]
  simp -dsimp -implicitDefEqProofs (maxDischargeDepth := 6)
  refine Pc.mk (c121 hr1) ?_; try simp -dsimp -implicitDefEqProofs (maxDischargeDepth := 6)
  refine Pc.mk (c122 hr2) ?_; try simp -dsimp -implicitDefEqProofs (maxDischargeDepth := 6)
  refine Pc.mk (c123 hr3) ?_; try simp -dsimp -implicitDefEqProofs (maxDischargeDepth := 6)
  refine Pc.mk (c122 hr4) ?_; try simp -dsimp -implicitDefEqProofs (maxDischargeDepth := 6)
  exact hK _ _ ⟨rfl, rfl⟩
 rintro a σ ⟨rfl, rfl⟩
 replace H := Option.some.inj H; subst H
 refine AWP_kp [4] [(4, .int .i64 (iadd .i64 (iadd .i64 r2 r3) r4))] rfl ?_
 refine AWP_ret ?_
 exact ⟨[.int .i64 (iadd .i64 (iadd .i64 r2 r3) r4)], by simp, 4, by simp [encL_nil]⟩
theorem c108 {p0 : Int} {p1 : Int} {p2 : Int} {r : Int} (H : s_Bits p0 p1 p2 = some r) : APure Tryd.prog G 108 [.int .i64 p0, .int .i64 p1, .int .i64 p2] (.int .i64 r) := by
 refine APure_fn (fun N0 => ?_) (by simp)
 refine ACalls_fn tok Tryd.func108 (by kernel_rfl) rfl Tryd.ntmps108 Tryd.results108 rfl ?_
 simp only [argsA, Nat.reduceAdd, hp_next]
 unfold s_Bits at H
 refine AWP_sr tok [] [0, 1, 2] (fun a σ => a = [(0, .int .i64 p0), (1, .int .i64 p1), (2, .int .i64 p2)] ∧ σ = hp E0 [] (N0 + 1)) (fun K hK => ?_) ?_
 ·
  simp -dsimp -implicitDefEqProofs (maxDischargeDepth := 6)
  exact hK _ _ ⟨rfl, rfl⟩
 rintro a σ ⟨rfl, rfl⟩
 refine AWP_sq [0, 1, 2] fun K1 hK1 => ?_
 obtain ⟨r1, hr1, H⟩ := bindE H
 obtain ⟨g3, hg3, H⟩ := bindE H
 obtain ⟨g5, hg5, H⟩ := bindE H
 refine AWP_sr tok [] [0, 1, 2, 21] (fun a σ => a = [(0, .int .i64 p0), (1, .int .i64 p1), (2, .int .i64 p2), (21, .bool g5)] ∧ σ = hp E0 [] (N0 + 16)) (fun K hK => ?_) ?_
 ·
  simp -dsimp -implicitDefEqProofs (maxDischargeDepth := 6)
  refine (c27 hr1).app ?_; try simp -dsimp -implicitDefEqProofs (maxDischargeDepth := 6)
  cases hbg3 : bnot r1
  ·
   replace hg3 := ifF hbg3 hg3
   obtain ⟨r2, hr2, hg3⟩ := bindE hg3
   replace hg3 := Option.some.inj hg3; subst hg3
   try simp -dsimp -implicitDefEqProofs (maxDischargeDepth := 6) [hbg3]
   refine (c27 hr2).app ?_; try simp -dsimp -implicitDefEqProofs (maxDischargeDepth := 6) [hbg3]
   cases hbg5 : (bnot r2)
   ·
    replace hg5 := ifF hbg5 hg5
    obtain ⟨r4, hr4, hg5⟩ := bindE hg5
    replace hg5 := Option.some.inj hg5; subst hg5
    try simp -dsimp -implicitDefEqProofs (maxDischargeDepth := 6) [hbg3, hbg5]
    refine (c27 hr4).app ?_; try simp -dsimp -implicitDefEqProofs (maxDischargeDepth := 6) [hbg3, hbg5]
    exact hK _ _ ⟨rfl, rfl⟩
   ·
    replace hg5 := ifT hbg5 hg5
    replace hg5 := Option.some.inj hg5; subst hg5
    try simp -dsimp -implicitDefEqProofs (maxDischargeDepth := 6) [hbg3, hbg5]
    exact hK _ _ ⟨rfl, rfl⟩
  ·
   replace hg3 := ifT hbg3 hg3
   replace hg3 := Option.some.inj hg3; subst hg3
   try simp -dsimp -implicitDefEqProofs (maxDischargeDepth := 6) [hbg3]
   replace hg5 := ifT rfl hg5
   replace hg5 := Option.some.inj hg5; subst hg5
   try simp -dsimp -implicitDefEqProofs (maxDischargeDepth := 6) [hbg3]
   exact hK _ _ ⟨rfl, rfl⟩
 rintro a σ ⟨rfl, rfl⟩
 refine AWP_cond g5 rfl (fun C1 => ?_) (fun C1 => ?_)
 ·
  replace H := ifT C1 H
  refine AWP_sr tok [] [6] (fun a σ => a = [(6, .int .i64 0)] ∧ σ = hp E0 [] (N0 + 17)) (fun K hK => ?_) ?_
  ·
   simp -dsimp -implicitDefEqProofs (maxDischargeDepth := 6)
   exact hK _ _ ⟨rfl, rfl⟩
  rintro a σ ⟨rfl, rfl⟩
  replace H := Option.some.inj H; subst H
  refine AWP_kp [6] [(6, .int .i64 0)] rfl ?_
  refine AWP_ret ?_
  exact ⟨[.int .i64 0], by simp, 4, by simp [encL_nil]⟩
 ·
  replace H := ifF C1 H
  refine AWP_skip ?_
  show K1 _ _
  refine keepE (l := [0, 1, 2]) (x := [(0, .int .i64 p0), (1, .int .i64 p1), (2, .int .i64 p2)]) rfl fun a' ha => ?_
  refine hK1 _ _ ?_; rw [ha]
  refine Rc.mk ?_
  obtain ⟨r6, hr6, H⟩ := bindE H
  obtain ⟨v7, hv7, H⟩ := bindE H
  obtain ⟨r8, hr8, H⟩ := bindE H
  obtain ⟨v9, hv9, H⟩ := bindE H
  refine AWP_sd tok tokM [] [] [0, 1, 2, 3, 4, 5, 6, 7] [6] (fun a σ => a = [(6, .int .i64 v9)] ∧ σ = hp E0 [] (N0 + 24)) (by decide) (fun K hK => ?_) ?_
  ·
   simp only [pickL, nthO_succ, nthO_zero]
   simp -dsimp -implicitDefEqProofs (maxDischargeDepth := 6) [hv7, hv9]
   refine Pc.mk (c117 hr6) ?_; try simp -dsimp -implicitDefEqProofs (maxDischargeDepth := 6) [hv7, hv9]
   refine Pc.mk (c117 hr8) ?_; try simp -dsimp -implicitDefEqProofs (maxDischargeDepth := 6) [hv7, hv9]
   exact hK _ _ ⟨rfl, rfl⟩
  rintro a σ ⟨rfl, rfl⟩
  replace H := Option.some.inj H; subst H
  refine AWP_kp [6] [(6, .int .i64 v9)] rfl ?_
  refine AWP_ret ?_
  exact ⟨[.int .i64 v9], by simp, 4, by simp [encL_nil]⟩
theorem c124 {p0 : gInstr} {r : Int} (H : s_l42Branch p0 = some r) : APure Tryd.prog G 124 [.agg [.int .i64 p0.Op, .int .i64 p0.Rd, .int .i64 p0.Rs, .int .i64 p0.Rt, .int .i64 p0.Imm]] (.int .i64 r) := by
 refine APure_fn (fun N0 => ?_) (by simp)
 refine ACalls_fn tok Tryd.func124 (by kernel_rfl) rfl Tryd.ntmps124 Tryd.results124 rfl ?_
 simp only [argsA, Nat.reduceAdd, hp_next]
 unfold s_l42Branch at H
 refine AWP_sr tok [0] [1] (fun a σ => a = [(1, .fptr [.int .i64 p0.Op, .int .i64 p0.Rd, .int .i64 p0.Rs, .int .i64 p0.Rt, .int .i64 p0.Imm] 0)] ∧ σ = hp E0 [] (N0 + 2)) (fun K hK => ?_) ?_
 ·
  simp -dsimp -implicitDefEqProofs (maxDischargeDepth := 6)
  exact hK _ _ ⟨rfl, rfl⟩
 rintro a σ ⟨rfl, rfl⟩
 obtain ⟨r1, hr1, H⟩ := bindE H
 refine AWP_sr tok [] [1, 3] (fun a σ => a = [(1, .fptr [.int .i64 p0.Op, .int .i64 p0.Rd, .int .i64 p0.Rs, .int .i64 p0.Rt, .int .i64 p0.Imm] 0), (3, .int .i64 r1)] ∧ σ = hp E0 [] (N0 + 6)) (fun K hK => ?_) ?_
 ·
  simp -dsimp -implicitDefEqProofs (maxDischargeDepth := 6)
  refine (c121 hr1).app ?_; try simp -dsimp -implicitDefEqProofs (maxDischargeDepth := 6)
  exact hK _ _ ⟨rfl, rfl⟩
 rintro a σ ⟨rfl, rfl⟩
 obtain ⟨r2, hr2, H⟩ := bindE H
 obtain ⟨r3, hr3, H⟩ := bindE H
 obtain ⟨r4, hr4, H⟩ := bindE H
 obtain ⟨r5, hr5, H⟩ := bindE H
 obtain ⟨r6, hr6, H⟩ := bindE H
 refine AWP_sd tok tokM [] [] [0, 1, 2, 3, 4, 5, 6, 7, 8, 9, 10, 11] [1, 3, 4] (fun a σ => a = [(1, .fptr [.int .i64 p0.Op, .int .i64 p0.Rd, .int .i64 p0.Rs, .int .i64 p0.Rt, .int .i64 p0.Imm] 0), (3, .int .i64 r1), (4, .int .i64 (iadd .i64 (iadd .i64 r3 r5) r6))] ∧ σ = hp E0 [] (N0 + 18)) (by decide) (fun K hK => ?_) ?_
 ·
  simp only [pickL, nthO_succ, nthO_zero]
  simp -dsimp -implicitDefEqProofs (maxDischargeDepth := 6)
  refine Pc.mk (c108 hr2) ?_; try simp -dsimp -implicitDefEqProofs (maxDischargeDepth := 6)
  refine Pc.mk (c122 hr3) ?_; try simp -dsimp -implicitDefEqProofs (maxDischargeDepth := 6)
  refine Pc.mk (c108 hr4) ?_; try simp -dsimp -implicitDefEqProofs (maxDischargeDepth := 6)
  refine Pc.mk (c122 hr5) ?_; try simp -dsimp -implicitDefEqProofs (maxDischargeDepth := 6)
  refine Pc.mk (c122 hr6) ?_; try simp -dsimp -implicitDefEqProofs (maxDischargeDepth := 6)
  exact hK _ _ ⟨rfl, rfl⟩
 rintro a σ ⟨rfl, rfl⟩
 obtain ⟨r7, hr7, H⟩ := bindE H
 obtain ⟨r8, hr8, H⟩ := bindE H
 obtain ⟨r9, hr9, H⟩ := bindE H
 obtain ⟨r10, hr10, H⟩ := bindE H
 obtain ⟨r11, hr11, H⟩ := bindE H
 refine AWP_sr tok [] [2] (fun a σ => a = [(2, .int .i64 (iadd .i64 (iadd .i64 (iadd .i64 (iadd .i64 (iadd .i64 r3 r5) r6) r7) r9) r11))] ∧ σ = hp E0 [] (N0 + 31)) (fun K hK => ?_) ?_
 ·
  simp -dsimp -implicitDefEqProofs (maxDischargeDepth := 6)
  refine (c123 hr7).app ?_; try simp -dsimp -implicitDefEqProofs (maxDischargeDepth := 6)
  refine (c108 hr8).app ?_; try simp -dsimp -implicitDefEqProofs (maxDischargeDepth := 6)
  refine (c122 hr9).app ?_; try simp -dsimp -implicitDefEqProofs (maxDischargeDepth := 6)
  refine (c108 hr10).app ?_; try simp -dsimp -implicitDefEqProofs (maxDischargeDepth := 6)
  refine (c122 hr11).app ?_; try simp -dsimp -implicitDefEqProofs (maxDischargeDepth := 6)
  exact hK _ _ ⟨rfl, rfl⟩
 rintro a σ ⟨rfl, rfl⟩
 replace H := Option.some.inj H; subst H
 refine AWP_kp [2] [(2, .int .i64 (iadd .i64 (iadd .i64 (iadd .i64 (iadd .i64 (iadd .i64 r3 r5) r6) r7) r9) r11))] rfl ?_
 refine AWP_ret ?_
 exact ⟨[.int .i64 (iadd .i64 (iadd .i64 (iadd .i64 (iadd .i64 (iadd .i64 r3 r5) r6) r7) r9) r11)], by simp, 4, by simp [encL_nil]⟩
theorem c125 {p0 : gInstr} {r : Int} (H : s_l42Jump p0 = some r) : APure Tryd.prog G 125 [.agg [.int .i64 p0.Op, .int .i64 p0.Rd, .int .i64 p0.Rs, .int .i64 p0.Rt, .int .i64 p0.Imm]] (.int .i64 r) := by
 refine APure_fn (fun N0 => ?_) (by simp)
 refine ACalls_fn tok Tryd.func125 (by kernel_rfl) rfl Tryd.ntmps125 Tryd.results125 rfl ?_
 simp only [argsA, Nat.reduceAdd, hp_next]
 unfold s_l42Jump at H
 refine AWP_sr tok [0] [1] (fun a σ => a = [(1, .fptr [.int .i64 p0.Op, .int .i64 p0.Rd, .int .i64 p0.Rs, .int .i64 p0.Rt, .int .i64 p0.Imm] 0)] ∧ σ = hp E0 [] (N0 + 2)) (fun K hK => ?_) ?_
 ·
  simp -dsimp -implicitDefEqProofs (maxDischargeDepth := 6)
  exact hK _ _ ⟨rfl, rfl⟩
 rintro a σ ⟨rfl, rfl⟩
 obtain ⟨r1, hr1, H⟩ := bindE H
 refine AWP_sr tok [] [1, 3] (fun a σ => a = [(1, .fptr [.int .i64 p0.Op, .int .i64 p0.Rd, .int .i64 p0.Rs, .int .i64 p0.Rt, .int .i64 p0.Imm] 0), (3, .int .i64 r1)] ∧ σ = hp E0 [] (N0 + 6)) (fun K hK => ?_) ?_
 ·
  simp -dsimp -implicitDefEqProofs (maxDischargeDepth := 6)
  refine (c121 hr1).app ?_; try simp -dsimp -implicitDefEqProofs (maxDischargeDepth := 6)
  exact hK _ _ ⟨rfl, rfl⟩
 rintro a σ ⟨rfl, rfl⟩
 obtain ⟨r2, hr2, H⟩ := bindE H
 obtain ⟨r3, hr3, H⟩ := bindE H
 obtain ⟨r4, hr4, H⟩ := bindE H
 obtain ⟨r5, hr5, H⟩ := bindE H
 obtain ⟨r6, hr6, H⟩ := bindE H
 obtain ⟨r7, hr7, H⟩ := bindE H
 refine AWP_sr tok [] [1, 3, 4] (fun a σ => a = [(1, .fptr [.int .i64 p0.Op, .int .i64 p0.Rd, .int .i64 p0.Rs, .int .i64 p0.Rt, .int .i64 p0.Imm] 0), (3, .int .i64 r1), (4, .int .i64 (iadd .i64 (iadd .i64 r3 r5) r7))] ∧ σ = hp E0 [] (N0 + 18)) (fun K hK => ?_) ?_
 ·
  simp -dsimp -implicitDefEqProofs (maxDischargeDepth := 6)
  refine (c108 hr2).app ?_; try simp -dsimp -implicitDefEqProofs (maxDischargeDepth := 6)
  refine (c122 hr3).app ?_; try simp -dsimp -implicitDefEqProofs (maxDischargeDepth := 6)
  refine (c108 hr4).app ?_; try simp -dsimp -implicitDefEqProofs (maxDischargeDepth := 6)
  refine (c122 hr5).app ?_; try simp -dsimp -implicitDefEqProofs (maxDischargeDepth := 6)
  refine (c108 hr6).app ?_; try simp -dsimp -implicitDefEqProofs (maxDischargeDepth := 6)
  refine (c122 hr7).app ?_; try simp -dsimp -implicitDefEqProofs (maxDischargeDepth := 6)
  exact hK _ _ ⟨rfl, rfl⟩
 rintro a σ ⟨rfl, rfl⟩
 obtain ⟨r8, hr8, H⟩ := bindE H
 obtain ⟨r9, hr9, H⟩ := bindE H
 obtain ⟨r10, hr10, H⟩ := bindE H
 refine AWP_sd tok tokM [] [] [0, 1, 2, 3, 4, 5, 6, 7, 8, 9, 10] [2] (fun a σ => a = [(2, .int .i64 (iadd .i64 (iadd .i64 (iadd .i64 (iadd .i64 (iadd .i64 r3 r5) r7) r9) r10) 111))] ∧ σ = hp E0 [] (N0 + 29)) (by decide) (fun K hK => ?_) ?_
 ·
  simp only [pickL, nthO_succ, nthO_zero]
  simp -dsimp -implicitDefEqProofs (maxDischargeDepth := 6)
  refine Pc.mk (c108 hr8) ?_; try simp -dsimp -implicitDefEqProofs (maxDischargeDepth := 6)
  refine Pc.mk (c122 hr9) ?_; try simp -dsimp -implicitDefEqProofs (maxDischargeDepth := 6)
  refine Pc.mk (c122 hr10) ?_; try simp -dsimp -implicitDefEqProofs (maxDischargeDepth := 6)
  exact hK _ _ ⟨rfl, rfl⟩
 rintro a σ ⟨rfl, rfl⟩
 replace H := Option.some.inj H; subst H
 refine AWP_kp [2] [(2, .int .i64 (iadd .i64 (iadd .i64 (iadd .i64 (iadd .i64 (iadd .i64 r3 r5) r7) r9) r10) 111))] rfl ?_
 refine AWP_ret ?_
 exact ⟨[.int .i64 (iadd .i64 (iadd .i64 (iadd .i64 (iadd .i64 (iadd .i64 r3 r5) r7) r9) r10) 111)], by simp, 4, by simp [encL_nil]⟩
theorem c126 {p0 : Int} {r : Int} (H : s_l42Seven p0 = some r) : APure Tryd.prog G 126 [.int .i64 p0] (.int .i64 r) := by
 refine APure_fn (fun N0 => ?_) (by simp)
 refine ACalls_fn tok Tryd.func126 (by kernel_rfl) rfl Tryd.ntmps126 Tryd.results126 rfl ?_
 simp only [argsA, Nat.reduceAdd, hp_next]
 unfold s_l42Seven at H
 refine AWP_sr tok [] [0] (fun a σ => a = [(0, .int .i64 p0)] ∧ σ = hp E0 [] (N0 + 1)) (fun K hK => ?_) ?_
 ·
  simp -dsimp -implicitDefEqProofs (maxDischargeDepth := 6)
  exact hK _ _ ⟨rfl, rfl⟩
 rintro a σ ⟨rfl, rfl⟩
 obtain ⟨v1, hv1, H⟩ := bindE H
 have q0 : ∀ σ i, buildSliceA T 22 true i 11 [(0, .int .i64 0), (1, .int .i64 32), (2, .int .i64 1), (3, .int .i64 1), (4, .int .i64 1), (5, .int .i64 0), (6, .int .i64 0), (7, .int .i64 0), (8, .int .i64 0), (9, .int .i64 32), (10, .int .i64 0)] σ = some (.fsl (encL rI ([0, 32, 1, 1, 1, 0, 0, 0, 0, 32, 0] : List Int)), σ) := fun _ _ => rfl
 refine AWP_sr tok [0] [2] (fun a σ => a = [(2, .int .i64 v1)] ∧ σ = hp E0 [] (N0 + 7)) (fun K hK => ?_) ?_
 ·
  simp -dsimp -implicitDefEqProofs (maxDischargeDepth := 6) [q0, ix22 hv1]
  exact hK _ _ ⟨rfl, rfl⟩
 rintro a σ ⟨rfl, rfl⟩
 replace H := Option.some.inj H; subst H
 refine AWP_kp [2] [(2, .int .i64 v1)] rfl ?_
 refine AWP_ret ?_
 exact ⟨[.int .i64 v1], by simp, 4, by simp [encL_nil]⟩
theorem c116 {p0 : gInstr} {r : Int} (H : s_l42Encode p0 = some r) : APure Tryd.prog G 116 [.agg [.int .i64 p0.Op, .int .i64 p0.Rd, .int .i64 p0.Rs, .int .i64 p0.Rt, .int .i64 p0.Imm]] (.int .i64 r) := by
 refine APure_fn (fun N0 => ?_) (by simp)
 refine ACalls_fn tok Tryd.func116 (by kernel_rfl) rfl Tryd.ntmps116 Tryd.results116 rfl ?_
 simp only [argsA, Nat.reduceAdd, hp_next]
 unfold s_l42Encode at H
 refine AWP_sr tok [0] [1] (fun a σ => a = [(1, .fptr [.int .i64 p0.Op, .int .i64 p0.Rd, .int .i64 p0.Rs, .int .i64 p0.Rt, .int .i64 p0.Imm] 0)] ∧ σ = hp E0 [] (N0 + 2)) (fun K hK => ?_) ?_
 ·
  simp -dsimp -implicitDefEqProofs (maxDischargeDepth := 6)
  exact hK _ _ ⟨rfl, rfl⟩
 rintro a σ ⟨rfl, rfl⟩
 refine AWP_sq [1] fun K1 hK1 => ?_
 refine AWP_sr tok [] [1, 5] (fun a σ => a = [(1, .fptr [.int .i64 p0.Op, .int .i64 p0.Rd, .int .i64 p0.Rs, .int .i64 p0.Rt, .int .i64 p0.Imm] 0), (5, .int .i64 p0.Op)] ∧ σ = hp E0 [] (N0 + 4)) (fun K hK => ?_) ?_
 ·
  simp -dsimp -implicitDefEqProofs (maxDischargeDepth := 6)
  exact hK _ _ ⟨rfl, rfl⟩
 rintro a σ ⟨rfl, rfl⟩
 refine AWP_block (AWP_thenB ?_)
 obtain ⟨j1, hj1, H⟩ := bindE H
 refine AWP_seq (AWP_named fun K3 hK3 => ?_)
 have hJ1 : ∀ a σ, Rc G 74 N0 (fun a σ => ∃ M1 : Nat, N0 ≤ M1 ∧ a = [(1, .fptr [.int .i64 p0.Op, .int .i64 p0.Rd, .int .i64 p0.Rs, .int .i64 p0.Rt, .int .i64 p0.Imm] 0), (5, .int .i64 p0.Op), (6, .bool j1)] ∧ σ = hp E0 [] M1) (a.keep [1, 5, 6]) σ → K3 a σ := by
  rintro a σ ⟨b, τ, hr, M1, fM1_0, rfl, rfl⟩
  refine hK3 _ _ (AWP_keep [1, 5, 6] (AWP_ref hr ?_))
  refine AWP_cond j1 rfl (fun C1 => ?_) (fun C1 => ?_)
  ·
   replace H := ifT C1 H
   obtain ⟨r2, hr2, H⟩ := bindE H
   refine AWP_sr tok [] [2] (fun a σ => a = [(2, .int .i64 r2)] ∧ σ = hp E0 [] (M1 + 3)) (fun K hK => ?_) ?_
   ·
    simp -dsimp -implicitDefEqProofs (maxDischargeDepth := 6)
    refine (c120 hr2).app ?_; try simp -dsimp -implicitDefEqProofs (maxDischargeDepth := 6)
    exact hK _ _ ⟨rfl, rfl⟩
   rintro a σ ⟨rfl, rfl⟩
   replace H := Option.some.inj H; subst H
   refine AWP_kp [2] [(2, .int .i64 r2)] rfl ?_
   refine AWP_ret ?_
   exact ⟨[.int .i64 r2], by simp, 4, by simp [encL_nil]⟩
  ·
   replace H := ifF C1 H
   refine AWP_sr tok [] [1, 5, 11] (fun a σ => a = [(1, .fptr [.int .i64 p0.Op, .int .i64 p0.Rd, .int .i64 p0.Rs, .int .i64 p0.Rt, .int .i64 p0.Imm] 0), (5, .int .i64 p0.Op), (11, .bool (ieq p0.Op 14))] ∧ σ = hp E0 [] (M1 + 2)) (fun K hK => ?_) ?_
   ·
    simp -dsimp -implicitDefEqProofs (maxDischargeDepth := 6)
    exact hK _ _ ⟨rfl, rfl⟩
   rintro a σ ⟨rfl, rfl⟩
   refine AWP_cond (ieq p0.Op 14) rfl (fun C2 => ?_) (fun C2 => ?_)
   ·
    replace H := ifT C2 H
    obtain ⟨r3, hr3, H⟩ := bindE H
    refine AWP_sr tok [] [2] (fun a σ => a = [(2, .int .i64 r3)] ∧ σ = hp E0 [] (M1 + 5)) (fun K hK => ?_) ?_
    ·
     simp -dsimp -implicitDefEqProofs (maxDischargeDepth := 6)
     refine (c120 hr3).app ?_; try simp -dsimp -implicitDefEqProofs (maxDischargeDepth := 6)
     exact hK _ _ ⟨rfl, rfl⟩
    rintro a σ ⟨rfl, rfl⟩
    replace H := Option.some.inj H; subst H
    refine AWP_kp [2] [(2, .int .i64 r3)] rfl ?_
    refine AWP_ret ?_
    exact ⟨[.int .i64 r3], by simp, 4, by simp [encL_nil]⟩
   ·
    replace H := ifF C2 H
    refine AWP_sr tok [] [1, 5, 15] (fun a σ => a = [(1, .fptr [.int .i64 p0.Op, .int .i64 p0.Rd, .int .i64 p0.Rs, .int .i64 p0.Rt, .int .i64 p0.Imm] 0), (5, .int .i64 p0.Op), (15, .bool (ieq p0.Op 15))] ∧ σ = hp E0 [] (M1 + 4)) (fun K hK => ?_) ?_
    ·
     simp -dsimp -implicitDefEqProofs (maxDischargeDepth := 6)
     exact hK _ _ ⟨rfl, rfl⟩
    rintro a σ ⟨rfl, rfl⟩
    refine AWP_cond (ieq p0.Op 15) rfl (fun C3 => ?_) (fun C3 => ?_)
    ·
     replace H := ifT C3 H
     obtain ⟨r4, hr4, H⟩ := bindE H
     refine AWP_sr tok [] [2] (fun a σ => a = [(2, .int .i64 r4)] ∧ σ = hp E0 [] (M1 + 7)) (fun K hK => ?_) ?_
     ·
      simp -dsimp -implicitDefEqProofs (maxDischargeDepth := 6)
      refine (c120 hr4).app ?_; try simp -dsimp -implicitDefEqProofs (maxDischargeDepth := 6)
      exact hK _ _ ⟨rfl, rfl⟩
     rintro a σ ⟨rfl, rfl⟩
     replace H := Option.some.inj H; subst H
     refine AWP_kp [2] [(2, .int .i64 r4)] rfl ?_
     refine AWP_ret ?_
     exact ⟨[.int .i64 r4], by simp, 4, by simp [encL_nil]⟩
    ·
     replace H := ifF C3 H
     refine AWP_sr tok [] [1, 5, 19] (fun a σ => a = [(1, .fptr [.int .i64 p0.Op, .int .i64 p0.Rd, .int .i64 p0.Rs, .int .i64 p0.Rt, .int .i64 p0.Imm] 0), (5, .int .i64 p0.Op), (19, .bool (ieq p0.Op 16))] ∧ σ = hp E0 [] (M1 + 6)) (fun K hK => ?_) ?_
     ·
      simp -dsimp -implicitDefEqProofs (maxDischargeDepth := 6)
      exact hK _ _ ⟨rfl, rfl⟩
     rintro a σ ⟨rfl, rfl⟩
     refine AWP_cond (ieq p0.Op 16) rfl (fun C4 => ?_) (fun C4 => ?_)
     ·
      replace H := ifT C4 H
      obtain ⟨r5, hr5, H⟩ := bindE H
      refine AWP_sr tok [] [1, 3] (fun a σ => a = [(1, .fptr [.int .i64 p0.Op, .int .i64 p0.Rd, .int .i64 p0.Rs, .int .i64 p0.Rt, .int .i64 p0.Imm] 0), (3, .int .i64 r5)] ∧ σ = hp E0 [] (M1 + 10)) (fun K hK => ?_) ?_
      ·
       simp -dsimp -implicitDefEqProofs (maxDischargeDepth := 6)
       refine (c121 hr5).app ?_; try simp -dsimp -implicitDefEqProofs (maxDischargeDepth := 6)
       exact hK _ _ ⟨rfl, rfl⟩
      rintro a σ ⟨rfl, rfl⟩
      obtain ⟨r6, hr6, H⟩ := bindE H
      obtain ⟨r7, hr7, H⟩ := bindE H
      obtain ⟨r8, hr8, H⟩ := bindE H
      obtain ⟨r9, hr9, H⟩ := bindE H
      obtain ⟨r10, hr10, H⟩ := bindE H
      obtain ⟨r11, hr11, H⟩ := bindE H
      refine AWP_sd tok tokM [] [] [0, 1, 2, 3, 4, 5, 6, 7, 8, 9, 10, 11, 12, 13, 14] [2] (fun a σ => a = [(2, .int .i64 (iadd .i64 (iadd .i64 (iadd .i64 r7 r8) r9) r11))] ∧ σ = hp E0 [] (M1 + 25)) (by decide) (fun K hK => ?_) ?_
      ·
       simp only [pickL, nthO_succ, nthO_zero]
       simp -dsimp -implicitDefEqProofs (maxDischargeDepth := 6)
       refine Pc.mk (c108 hr6) ?_; try simp -dsimp -implicitDefEqProofs (maxDischargeDepth := 6)
       refine Pc.mk (c122 hr7) ?_; try simp -dsimp -implicitDefEqProofs (maxDischargeDepth := 6)
       refine Pc.mk (c122 hr8) ?_; try simp -dsimp -implicitDefEqProofs (maxDischargeDepth := 6)
       refine Pc.mk (c123 hr9) ?_; try simp -dsimp -implicitDefEqProofs (maxDischargeDepth := 6)
       refine Pc.mk (c108 hr10) ?_; try simp -dsimp -implicitDefEqProofs (maxDischargeDepth := 6)
       refine Pc.mk (c122 hr11) ?_; try simp -dsimp -implicitDefEqProofs (maxDischargeDepth := 6)
       exact hK _ _ ⟨rfl, rfl⟩
      rintro a σ ⟨rfl, rfl⟩
      replace H := Option.some.inj H; subst H
      refine AWP_kp [2] [(2, .int .i64 (iadd .i64 (iadd .i64 (iadd .i64 r7 r8) r9) r11))] rfl ?_
      refine AWP_ret ?_
      exact ⟨[.int .i64 (iadd .i64 (iadd .i64 (iadd .i64 r7 r8) r9) r11)], by simp, 4, by simp [encL_nil]⟩
     ·
      replace H := ifF C4 H
      obtain ⟨j2, hj2, H⟩ := bindE H
      refine AWP_seq (AWP_named fun K2 hK2 => ?_)
      have hJ2 : ∀ a σ, Rc G 74 N0 (fun a σ => ∃ M2 : Nat, N0 ≤ M2 ∧ a = [(1, .fptr [.int .i64 p0.Op, .int .i64 p0.Rd, .int .i64 p0.Rs, .int .i64 p0.Rt, .int .i64 p0.Imm] 0), (5, .int .i64 p0.Op), (38, .bool j2)] ∧ σ = hp E0 [] M2) (a.keep [1, 5, 38]) σ → K2 a σ := by
       rintro a σ ⟨b, τ, hr, M2, fM2_0, rfl, rfl⟩
       refine hK2 _ _ (AWP_keep [1, 5, 38] (AWP_ref hr ?_))
       refine AWP_cond j2 rfl (fun C5 => ?_) (fun C5 => ?_)
       ·
        replace H := ifT C5 H
        obtain ⟨r13, hr13, H⟩ := bindE H
        refine AWP_sr tok [] [2] (fun a σ => a = [(2, .int .i64 r13)] ∧ σ = hp E0 [] (M2 + 3)) (fun K hK => ?_) ?_
        ·
         simp -dsimp -implicitDefEqProofs (maxDischargeDepth := 6)
         refine (c124 hr13).app ?_; try simp -dsimp -implicitDefEqProofs (maxDischargeDepth := 6)
         exact hK _ _ ⟨rfl, rfl⟩
        rintro a σ ⟨rfl, rfl⟩
        replace H := Option.some.inj H; subst H
        refine AWP_kp [2] [(2, .int .i64 r13)] rfl ?_
        refine AWP_ret ?_
        exact ⟨[.int .i64 r13], by simp, 4, by simp [encL_nil]⟩
       ·
        replace H := ifF C5 H
        refine AWP_sr tok [] [1, 5, 43] (fun a σ => a = [(1, .fptr [.int .i64 p0.Op, .int .i64 p0.Rd, .int .i64 p0.Rs, .int .i64 p0.Rt, .int .i64 p0.Imm] 0), (5, .int .i64 p0.Op), (43, .bool (ieq p0.Op 19))] ∧ σ = hp E0 [] (M2 + 2)) (fun K hK => ?_) ?_
        ·
         simp -dsimp -implicitDefEqProofs (maxDischargeDepth := 6)
         exact hK _ _ ⟨rfl, rfl⟩
        rintro a σ ⟨rfl, rfl⟩
        refine AWP_cond (ieq p0.Op 19) rfl (fun C6 => ?_) (fun C6 => ?_)
        ·
         replace H := ifT C6 H
         obtain ⟨r14, hr14, H⟩ := bindE H
         obtain ⟨r15, hr15, H⟩ := bindE H
         refine AWP_sd tok tokM [] [] [0, 1, 2, 3, 4, 5, 6, 7, 8] [2] (fun a σ => a = [(2, .int .i64 (iadd .i64 (iadd .i64 r14 r15) 55))] ∧ σ = hp E0 [] (M2 + 11)) (by decide) (fun K hK => ?_) ?_
         ·
          simp only [pickL, nthO_succ, nthO_zero]
          simp -dsimp -implicitDefEqProofs (maxDischargeDepth := 6)
          refine Pc.mk (c122 hr14) ?_; try simp -dsimp -implicitDefEqProofs (maxDischargeDepth := 6)
          refine Pc.mk (c122 hr15) ?_; try simp -dsimp -implicitDefEqProofs (maxDischargeDepth := 6)
          exact hK _ _ ⟨rfl, rfl⟩
         rintro a σ ⟨rfl, rfl⟩
         replace H := Option.some.inj H; subst H
         refine AWP_kp [2] [(2, .int .i64 (iadd .i64 (iadd .i64 r14 r15) 55))] rfl ?_
         refine AWP_ret ?_
         exact ⟨[.int .i64 (iadd .i64 (iadd .i64 r14 r15) 55)], by simp, 4, by simp [encL_nil]⟩
        ·
         replace H := ifF C6 H
         refine AWP_sr tok [] [1, 5, 53] (fun a σ => a = [(1, .fptr [.int .i64 p0.Op, .int .i64 p0.Rd, .int .i64 p0.Rs, .int .i64 p0.Rt, .int .i64 p0.Imm] 0), (5, .int .i64 p0.Op), (53, .bool (ieq p0.Op 20))] ∧ σ = hp E0 [] (M2 + 4)) (fun K hK => ?_) ?_
         ·
          simp -dsimp -implicitDefEqProofs (maxDischargeDepth := 6)
          exact hK _ _ ⟨rfl, rfl⟩
         rintro a σ ⟨rfl, rfl⟩
         refine AWP_cond (ieq p0.Op 20) rfl (fun C7 => ?_) (fun C7 => ?_)
         ·
          replace H := ifT C7 H
          obtain ⟨r16, hr16, H⟩ := bindE H
          refine AWP_sr tok [] [2] (fun a σ => a = [(2, .int .i64 r16)] ∧ σ = hp E0 [] (M2 + 7)) (fun K hK => ?_) ?_
          ·
           simp -dsimp -implicitDefEqProofs (maxDischargeDepth := 6)
           refine (c125 hr16).app ?_; try simp -dsimp -implicitDefEqProofs (maxDischargeDepth := 6)
           exact hK _ _ ⟨rfl, rfl⟩
          rintro a σ ⟨rfl, rfl⟩
          replace H := Option.some.inj H; subst H
          refine AWP_kp [2] [(2, .int .i64 r16)] rfl ?_
          refine AWP_ret ?_
          exact ⟨[.int .i64 r16], by simp, 4, by simp [encL_nil]⟩
         ·
          replace H := ifF C7 H
          refine AWP_sr tok [] [1, 57] (fun a σ => a = [(1, .fptr [.int .i64 p0.Op, .int .i64 p0.Rd, .int .i64 p0.Rs, .int .i64 p0.Rt, .int .i64 p0.Imm] 0), (57, .bool (ieq p0.Op 21))] ∧ σ = hp E0 [] (M2 + 6)) (fun K hK => ?_) ?_
          ·
           simp -dsimp -implicitDefEqProofs (maxDischargeDepth := 6)
           exact hK _ _ ⟨rfl, rfl⟩
          rintro a σ ⟨rfl, rfl⟩
          refine AWP_cond (ieq p0.Op 21) rfl (fun C8 => ?_) (fun C8 => ?_)
          ·
           replace H := ifT C8 H
           refine AWP_sr tok [] [2] (fun a σ => a = [(2, .int .i64 115)] ∧ σ = hp E0 [] (M2 + 7)) (fun K hK => ?_) ?_
           ·
            simp -dsimp -implicitDefEqProofs (maxDischargeDepth := 6)
            exact hK _ _ ⟨rfl, rfl⟩
           rintro a σ ⟨rfl, rfl⟩
           replace H := Option.some.inj H; subst H
           refine AWP_kp [2] [(2, .int .i64 115)] rfl ?_
           refine AWP_ret ?_
           exact ⟨[.int .i64 115], by simp, 4, by simp [encL_nil]⟩
          ·
           replace H := ifF C8 H
           refine AWP_skip ?_
           show K1 _ _
           refine keepE (l := [1]) (x := [(1, .fptr [.int .i64 p0.Op, .int .i64 p0.Rd, .int .i64 p0.Rs, .int .i64 p0.Rt, .int .i64 p0.Imm] 0)]) rfl fun a' ha => ?_
           refine hK1 _ _ ?_; rw [ha]
           refine Rc.mk ?_
           obtain ⟨r17, hr17, H⟩ := bindE H
           obtain ⟨r18, hr18, H⟩ := bindE H
           obtain ⟨r19, hr19, H⟩ := bindE H
           obtain ⟨r20, hr20, H⟩ := bindE H
           obtain ⟨r21, hr21, H⟩ := bindE H
           refine AWP_sd tok tokM [] [] [0, 1, 2, 3, 4, 5, 6, 7, 8, 9, 10, 11, 12, 13, 14, 15] [2] (fun a σ => a = [(2, .int .i64 (iadd .i64 (iadd .i64 (iadd .i64 r18 r19) r20) r21))] ∧ σ = hp E0 [] (M2 + 22)) (by decide) (fun K hK => ?_) ?_
           ·
            simp only [pickL, nthO_succ, nthO_zero]
            simp -dsimp -implicitDefEqProofs (maxDischargeDepth := 6)
            refine Pc.mk (c126 hr17) ?_; try simp -dsimp -implicitDefEqProofs (maxDischargeDepth := 6)
            refine Pc.mk (c122 hr18) ?_; try simp -dsimp -implicitDefEqProofs (maxDischargeDepth := 6)
            refine Pc.mk (c122 hr19) ?_; try simp -dsimp -implicitDefEqProofs (maxDischargeDepth := 6)
            refine Pc.mk (c123 hr20) ?_; try simp -dsimp -implicitDefEqProofs (maxDischargeDepth := 6)
            refine Pc.mk (c122 hr21) ?_; try simp -dsimp -implicitDefEqProofs (maxDischargeDepth := 6)
            exact hK _ _ ⟨rfl, rfl⟩
           rintro a σ ⟨rfl, rfl⟩
           replace H := Option.some.inj H; subst H
           refine AWP_kp [2] [(2, .int .i64 (iadd .i64 (iadd .i64 (iadd .i64 r18 r19) r20) r21))] rfl ?_
           refine AWP_ret ?_
           exact ⟨[.int .i64 (iadd .i64 (iadd .i64 (iadd .i64 r18 r19) r20) r21)], by simp, 4, by simp [encL_nil]⟩
      replace H := hj2
      refine AWP_sr tok [] [1, 5, 38] (fun a σ => a = [(1, .fptr [.int .i64 p0.Op, .int .i64 p0.Rd, .int .i64 p0.Rs, .int .i64 p0.Rt, .int .i64 p0.Imm] 0), (5, .int .i64 p0.Op), (38, .bool (ieq p0.Op 17))] ∧ σ = hp E0 [] (M1 + 8)) (fun K hK => ?_) ?_
      ·
       simp -dsimp -implicitDefEqProofs (maxDischargeDepth := 6)
       exact hK _ _ ⟨rfl, rfl⟩
      rintro a σ ⟨rfl, rfl⟩
      refine AWP_cond (ieq p0.Op 17) rfl (fun C9 => ?_) (fun C9 => ?_)
      ·
       replace H := ifT C9 H
       refine AWP_skip ?_
       show K2 _ _
       refine keepE (l := [1, 5, 38]) (x := [(1, .fptr [.int .i64 p0.Op, .int .i64 p0.Rd, .int .i64 p0.Rs, .int .i64 p0.Rt, .int .i64 p0.Imm] 0), (5, .int .i64 p0.Op), (38, .bool (ieq p0.Op 17))]) rfl fun a' ha => ?_
       replace H := Option.some.inj H; subst H
       refine hJ2 _ _ ?_; rw [ha]
       exact Rc.fin (AHeap.Sub.refl _) ⟨M1 + 8, (by omega), rfl, rfl⟩
      ·
       replace H := ifF C9 H
       refine AWP_rt tok [] [1, 5, 38] (fun a σ => a = [(1, .fptr [.int .i64 p0.Op, .int .i64 p0.Rd, .int .i64 p0.Rs, .int .i64 p0.Rt, .int .i64 p0.Imm] 0), (5, .int .i64 p0.Op), (38, .bool (ieq p0.Op 18))] ∧ σ = hp E0 [] (M1 + 10)) (fun K hK => ?_) ?_
       ·
        simp -dsimp -implicitDefEqProofs (maxDischargeDepth := 6)
        exact hK _ _ ⟨rfl, rfl⟩
       rintro a σ ⟨ha, rfl⟩
       replace H := Option.some.inj H; subst H
       refine hJ2 _ _ ?_; rw [ha]
       exact Rc.fin (AHeap.Sub.refl _) ⟨M1 + 10, (by omega), rfl, rfl⟩
 replace H := hj1
 refine AWP_sr tok [] [1, 5, 6] (fun a σ => a = [(1, .fptr [.int .i64 p0.Op, .int .i64 p0.Rd, .int .i64 p0.Rs, .int .i64 p0.Rt, .int .i64 p0.Imm] 0), (5, .int .i64 p0.Op), (6, .bool (ieq p0.Op 12))] ∧ σ = hp E0 [] (N0 + 6)) (fun K hK => ?_) ?_
 ·
  simp -dsimp -implicitDefEqProofs (maxDischargeDepth := 6)
  exact hK _ _ ⟨rfl, rfl⟩
 rintro a σ ⟨rfl, rfl⟩
 refine AWP_cond (ieq p0.Op 12) rfl (fun C10 => ?_) (fun C10 => ?_)
 ·
  replace H := ifT C10 H
  refine AWP_skip ?_
  show K3 _ _
  refine keepE (l := [1, 5, 6]) (x := [(1, .fptr [.int .i64 p0.Op, .int .i64 p0.Rd, .int .i64 p0.Rs, .int .i64 p0.Rt, .int .i64 p0.Imm] 0), (5, .int .i64 p0.Op), (6, .bool (ieq p0.Op 12))]) rfl fun a' ha => ?_
  replace H := Option.some.inj H; subst H
  refine hJ1 _ _ ?_; rw [ha]
  exact Rc.fin (AHeap.Sub.refl _) ⟨N0 + 6, (by omega), rfl, rfl⟩
 ·
  replace H := ifF C10 H
  refine AWP_rt tok [] [1, 5, 6] (fun a σ => a = [(1, .fptr [.int .i64 p0.Op, .int .i64 p0.Rd, .int .i64 p0.Rs, .int .i64 p0.Rt, .int .i64 p0.Imm] 0), (5, .int .i64 p0.Op), (6, .bool (ieq p0.Op 13))] ∧ σ = hp E0 [] (N0 + 8)) (fun K hK => ?_) ?_
  ·
   simp -dsimp -implicitDefEqProofs (maxDischargeDepth := 6)
   exact hK _ _ ⟨rfl, rfl⟩
  rintro a σ ⟨ha, rfl⟩
  replace H := Option.some.inj H; subst H
  refine hJ1 _ _ ?_; rw [ha]
  exact Rc.fin (AHeap.Sub.refl _) ⟨N0 + 8, (by omega), rfl, rfl⟩
theorem c100 {p0 : gInstr} {r : Int × Bool} (H : s_InstrEncode p0 = some r) : APure Tryd.prog G 100 [.agg [.int .i64 p0.Op, .int .i64 p0.Rd, .int .i64 p0.Rs, .int .i64 p0.Rt, .int .i64 p0.Imm]] (.tup [.int .i64 r.1, .bool r.2]) := by
 refine APure_fn (fun N0 => ?_) (by simp)
 refine ACalls_fn tok Tryd.func100 (by kernel_rfl) rfl Tryd.ntmps100 Tryd.results100 rfl ?_
 simp only [argsA, Nat.reduceAdd, hp_next]
 unfold s_InstrEncode at H
 refine AWP_sr tok [0] [1] (fun a σ => a = [(1, .fptr [.int .i64 p0.Op, .int .i64 p0.Rd, .int .i64 p0.Rs, .int .i64 p0.Rt, .int .i64 p0.Imm] 0)] ∧ σ = hp E0 [] (N0 + 3)) (fun K hK => ?_) ?_
 ·
  simp -dsimp -implicitDefEqProofs (maxDischargeDepth := 6)
  exact hK _ _ ⟨rfl, rfl⟩
 rintro a σ ⟨rfl, rfl⟩
 refine AWP_sq [1] fun K1 hK1 => ?_
 obtain ⟨r1, hr1, H⟩ := bindE H
 refine AWP_sr tok [] [1, 6] (fun a σ => a = [(1, .fptr [.int .i64 p0.Op, .int .i64 p0.Rd, .int .i64 p0.Rs, .int .i64 p0.Rt, .int .i64 p0.Imm] 0), (6, .bool (bnot r1))] ∧ σ = hp E0 [] (N0 + 6)) (fun K hK => ?_) ?_
 ·
  simp -dsimp -implicitDefEqProofs (maxDischargeDepth := 6)
  refine (c115 hr1).app ?_; try simp -dsimp -implicitDefEqProofs (maxDischargeDepth := 6)
  exact hK _ _ ⟨rfl, rfl⟩
 rintro a σ ⟨rfl, rfl⟩
 refine AWP_cond (bnot r1) rfl (fun C1 => ?_) (fun C1 => ?_)
 ·
  replace H := ifT C1 H
  refine AWP_sr tok [] [2, 3] (fun a σ => a = [(2, .int .i64 0), (3, .bool false)] ∧ σ = hp E0 [] (N0 + 8)) (fun K hK => ?_) ?_
  ·
   simp -dsimp -implicitDefEqProofs (maxDischargeDepth := 6)
   exact hK _ _ ⟨rfl, rfl⟩
  rintro a σ ⟨rfl, rfl⟩
  replace H := Option.some.inj H; subst H
  refine AWP_kp [2, 3] [(2, .int .i64 0), (3, .bool false)] rfl ?_
  refine AWP_ret ?_
  exact ⟨[.int .i64 0, .bool false], by simp, 4, by simp [encL_nil]⟩
 ·
  replace H := ifF C1 H
  refine AWP_skip ?_
  show K1 _ _
  refine keepE (l := [1]) (x := [(1, .fptr [.int .i64 p0.Op, .int .i64 p0.Rd, .int .i64 p0.Rs, .int .i64 p0.Rt, .int .i64 p0.Imm] 0)]) rfl fun a' ha => ?_
  refine hK1 _ _ ?_; rw [ha]
  refine Rc.mk ?_
  obtain ⟨r2, hr2, H⟩ := bindE H
  refine AWP_sr tok [] [2, 3] (fun a σ => a = [(2, .int .i64 r2), (3, .bool true)] ∧ σ = hp E0 [] (N0 + 10)) (fun K hK => ?_) ?_
  ·
   simp -dsimp -implicitDefEqProofs (maxDischargeDepth := 6)
   refine (c116 hr2).app ?_; try simp -dsimp -implicitDefEqProofs (maxDischargeDepth := 6)
   exact hK _ _ ⟨rfl, rfl⟩
  rintro a σ ⟨rfl, rfl⟩
  replace H := Option.some.inj H; subst H
  refine AWP_kp [2, 3] [(2, .int .i64 r2), (3, .bool true)] rfl ?_
  refine AWP_ret ?_
  exact ⟨[.int .i64 r2, .bool true], by simp, 4, by simp [encL_nil]⟩
theorem c101 {p0 : Int} {r : Int} (H : s_Wrap p0 = some r) : APure Tryd.prog G 101 [.int .i64 p0] (.int .i64 r) := by
 refine APure_fn (fun N0 => ?_) (by simp)
 refine ACalls_fn tok Tryd.func101 (by kernel_rfl) rfl Tryd.ntmps101 Tryd.results101 rfl ?_
 simp only [argsA, Nat.reduceAdd, hp_next]
 unfold s_Wrap at H
 refine AWP_sr tok [] [0] (fun a σ => a = [(0, .int .i64 p0)] ∧ σ = hp E0 [] (N0 + 1)) (fun K hK => ?_) ?_
 ·
  simp -dsimp -implicitDefEqProofs (maxDischargeDepth := 6)
  exact hK _ _ ⟨rfl, rfl⟩
 rintro a σ ⟨rfl, rfl⟩
 obtain ⟨v1, hv1, H⟩ := bindE H
 refine AWP_sr tok [] [3] (fun a σ => a = [(3, .int .i64 v1)] ∧ σ = hp E0 [] (N0 + 4)) (fun K hK => ?_) ?_
 ·
  simp -dsimp -implicitDefEqProofs (maxDischargeDepth := 6) [hv1]
  exact hK _ _ ⟨rfl, rfl⟩
 rintro a σ ⟨rfl, rfl⟩
 refine AWP_sq [3] fun K1 hK1 => ?_
 refine AWP_sr tok [] [3, 7] (fun a σ => a = [(3, .int .i64 v1), (7, .bool (igt v1 2147483647))] ∧ σ = hp E0 [] (N0 + 6)) (fun K hK => ?_) ?_
 ·
  simp -dsimp -implicitDefEqProofs (maxDischargeDepth := 6)
  exact hK _ _ ⟨rfl, rfl⟩
 rintro a σ ⟨rfl, rfl⟩
 refine AWP_cond (igt v1 2147483647) rfl (fun C1 => ?_) (fun C1 => ?_)
 ·
  replace H := ifT C1 H
  refine AWP_sr tok [] [2] (fun a σ => a = [(2, .int .i64 (isub .i64 v1 4294967296))] ∧ σ = hp E0 [] (N0 + 9)) (fun K hK => ?_) ?_
  ·
   simp -dsimp -implicitDefEqProofs (maxDischargeDepth := 6)
   exact hK _ _ ⟨rfl, rfl⟩
  rintro a σ ⟨rfl, rfl⟩
  replace H := Option.some.inj H; subst H
  refine AWP_kp [2] [(2, .int .i64 (isub .i64 v1 4294967296))] rfl ?_
  refine AWP_ret ?_
  exact ⟨[.int .i64 (isub .i64 v1 4294967296)], by simp, 4, by simp [encL_nil]⟩
 ·
  replace H := ifF C1 H
  refine AWP_skip ?_
  show K1 _ _
  refine keepE (l := [3]) (x := [(3, .int .i64 v1)]) rfl fun a' ha => ?_
  refine hK1 _ _ ?_; rw [ha]
  refine Rc.mk ?_
  refine AWP_sq [3] fun K2 hK2 => ?_
  refine AWP_sr tok [] [3, 11] (fun a σ => a = [(3, .int .i64 v1), (11, .bool (ilt v1 (-2147483648)))] ∧ σ = hp E0 [] (N0 + 8)) (fun K hK => ?_) ?_
  ·
   simp -dsimp -implicitDefEqProofs (maxDischargeDepth := 6)
   exact hK _ _ ⟨rfl, rfl⟩
  rintro a σ ⟨rfl, rfl⟩
  refine AWP_cond (ilt v1 (-2147483648)) rfl (fun C2 => ?_) (fun C2 => ?_)
  ·
   replace H := ifT C2 H
   refine AWP_sr tok [] [2] (fun a σ => a = [(2, .int .i64 (iadd .i64 v1 4294967296))] ∧ σ = hp E0 [] (N0 + 11)) (fun K hK => ?_) ?_
   ·
    simp -dsimp -implicitDefEqProofs (maxDischargeDepth := 6)
    exact hK _ _ ⟨rfl, rfl⟩
   rintro a σ ⟨rfl, rfl⟩
   replace H := Option.some.inj H; subst H
   refine AWP_kp [2] [(2, .int .i64 (iadd .i64 v1 4294967296))] rfl ?_
   refine AWP_ret ?_
   exact ⟨[.int .i64 (iadd .i64 v1 4294967296)], by simp, 4, by simp [encL_nil]⟩
  ·
   replace H := ifF C2 H
   refine AWP_skip ?_
   show K2 _ _
   refine keepE (l := [3]) (x := [(3, .int .i64 v1)]) rfl fun a' ha => ?_
   refine hK2 _ _ ?_; rw [ha]
   refine Rc.mk ?_
   refine AWP_sr tok [] [2] (fun a σ => a = [(2, .int .i64 v1)] ∧ σ = hp E0 [] (N0 + 10)) (fun K hK => ?_) ?_
   ·
    simp -dsimp -implicitDefEqProofs (maxDischargeDepth := 6)
    exact hK _ _ ⟨rfl, rfl⟩
   rintro a σ ⟨rfl, rfl⟩
   replace H := Option.some.inj H; subst H
   refine AWP_kp [2] [(2, .int .i64 v1)] rfl ?_
   refine AWP_ret ?_
   exact ⟨[.int .i64 v1], by simp, 4, by simp [encL_nil]⟩
theorem c57_o {p0 : (List Int)} {p1 : (List gInstr)} {r : (List Int) × Bool} (H : s_l45Code_o p0 p1 = some r) {σ : AHeap} {w0 : Nat} (q0 : σ.objs w0 = some ⟨3, 1, encL rI p0⟩) : ACalls Tryd.prog G 57 [.sl w0 0 p0.length, .fsl (encL rInstr p1)] σ (fun v σ' => ∃ M n0 : Nat, σ.next ≤ M ∧ σ.next ≤ n0 ∧ n0 < M ∧ v = .tup [.sl n0 0 r.1.length, .bool r.2] ∧ σ' = hp σ.objs [(n0, some ⟨3, 1, encL rI r.1⟩), (w0, none)] M) := by
 refine ACalls_fr (L := [(w0, some ⟨3, 1, encL rI p0⟩)]) (Q1 := fun v σ' => ∃ M n0 : Nat, σ.next ≤ M ∧ σ.next ≤ n0 ∧ n0 < M ∧ v = .tup [.sl n0 0 r.1.length, .bool r.2] ∧ σ' = hp E0 [(n0, some ⟨3, 1, encL rI r.1⟩), (w0, none)] M) (by simp [q0]) (fun hlt => ?_) ?_ ⟨_, Tryd.func57, rfl, rfl⟩
 rotate_left
 ·
  rintro v σ1 ⟨M, n0, h0, h1, h2, rfl, rfl⟩
  exact ⟨_, M, rfl, by simp, by simp; try omega, M, n0, h0, h1, h2, rfl, rfl⟩
 generalize σ.next = N0 at hlt ⊢
 have lw0 : w0 < N0 := hlt _ (.head _) rfl
 refine ACalls_fn tok Tryd.func57 (by kernel_rfl) rfl Tryd.ntmps57 Tryd.results57 rfl ?_
 simp only [argsA, Nat.reduceAdd, hp_next]
 unfold s_l45Code_o at H
 refine gRenS AWP_ref 0 (d := w0) (obd := ⟨3, 1, encL rI p0⟩) [(N0, some ⟨3, 1, encL rI p0⟩)] [(0, .sl N0 0 p0.length), (1, .fsl (encL rInstr p1))] rfl (by simp (disch := omega)) (by simp (disch := omega) <;> omega) (by simp (disch := omega)) [0, 1] rfl ?_
 refine AWP_sr tok [] [0, 1] (fun a σ => a = [(0, .sl N0 0 p0.length), (1, .fsl (encL rInstr p1))] ∧ σ = hp E0 [(N0, some ⟨3, 1, encL rI p0⟩)] (N0 + 3)) (fun K hK => ?_) ?_
 ·
  simp -dsimp -implicitDefEqProofs (maxDischargeDepth := 6)
  exact hK _ _ ⟨rfl, rfl⟩
 rintro a σ ⟨rfl, rfl⟩
 refine AWP_sq [0] fun K1 hK1 => ?_
 refine AWP_sr tok [] [0, 1, 6] (fun a σ => a = [(0, .sl N0 0 p0.length), (1, .fsl (encL rInstr p1)), (6, .int .i64 0)] ∧ σ = hp E0 [(N0, some ⟨3, 1, encL rI p0⟩)] (N0 + 4)) (fun K hK => ?_) ?_
 ·
  simp -dsimp -implicitDefEqProofs (maxDischargeDepth := 6)
  exact hK _ _ ⟨rfl, rfl⟩
 rintro a σ ⟨rfl, rfl⟩
 refine AWP_block (AWP_thenB ?_)
 obtain ⟨e1, hse1, H⟩ := bindE H
 refine AWP_lp [0, 1, 6] (fun s a σ => ∃ M1 o1 : Nat, N0 ≤ M1 ∧ N0 ≤ o1 ∧ o1 < M1 ∧ a = [(0, .sl o1 0 s.2.length), (1, .fsl (encL rInstr p1)), (6, .int .i64 s.1)] ∧ σ = hp E0 [(o1, some ⟨3, 1, encL rI s.2⟩)] M1) (fun e x a σ => match e with | .inl s => x = .exit 0 ∧ Rc G 32 N0 (fun a σ => ∃ M2 o2 : Nat, N0 ≤ M2 ∧ N0 ≤ o2 ∧ o2 < M2 ∧ a = [(0, .sl o2 0 s.length)] ∧ σ = hp E0 [(o2, some ⟨3, 1, encL rI s⟩)] M2) (AAct.keep a [0]) σ | .inr s => x = .ret ∧ ∃ vs, resA T σ a [.tmp 4, .tmp 5] = some vs ∧ ∃ M n0 : Nat, N0 ≤ M ∧ N0 ≤ n0 ∧ n0 < M ∧ (tupA vs) = .tup [.sl n0 0 s.1.length, .bool s.2] ∧ σ = hp E0 [(n0, some ⟨3, 1, encL rI s.1⟩), (w0, none)] M) hse1 ?_ ?_ ?_
 ·
  refine Rc.kp [0, 1, 6] [(0, .sl N0 0 p0.length), (1, .fsl (encL rInstr p1)), (6, .int .i64 0)] rfl ?_
  exact Rc.fin (AHeap.Sub.refl _) ⟨N0 + 4, N0, (by omega), (by omega), (by omega), rfl, rfl⟩
 ·
  clear H hse1
  rintro ⟨s1, s2⟩ fl a σ H ⟨M1, o1, fM1_0, fM1_1, fM1_2, rfl, rfl⟩ K2 O2 hK2 hO2
  unfold s_l45Code_o_L1 at H; dsimp only at H
  refine AWP_sq [0, 1, 6] fun K3 hK3 => ?_
  refine AWP_sr tok [] [0, 1, 6, 12] (fun a σ => a = [(0, .sl o1 0 s2.length), (1, .fsl (encL rInstr p1)), (6, .int .i64 s1), (12, .bool (ilt s1 (ilen p1)))] ∧ σ = hp E0 [(o1, some ⟨3, 1, encL rI s2⟩)] (M1 + 4)) (fun K hK => ?_) ?_
  ·
   simp -dsimp -implicitDefEqProofs (maxDischargeDepth := 6)
   exact hK _ _ ⟨rfl, rfl⟩
  rintro a σ ⟨rfl, rfl⟩
  refine AWP_cond (ilt s1 (ilen p1)) rfl (fun C1 => ?_) (fun C1 => ?_)
  ·
   replace H := ifT C1 H
   refine AWP_skip ?_
   show K3 _ _
   refine keepE (l := [0, 1, 6]) (x := [(0, .sl o1 0 s2.length), (1, .fsl (encL rInstr p1)), (6, .int .i64 s1)]) rfl fun a' ha => ?_
   refine hK3 _ _ ?_; rw [ha]
   refine Rc.mk ?_
   refine AWP_sq [0, 1, 6] fun K4 hK4 => ?_
   refine AWP_block (AWP_thenB ?_)
   obtain ⟨v4, hv4, H⟩ := bindE H
   obtain ⟨r5, hr5, H⟩ := bindE H
   refine AWP_sr tok [] [0, 1, 6, 7, 8] (fun a σ => a = [(0, .sl o1 0 s2.length), (1, .fsl (encL rInstr p1)), (6, .int .i64 s1), (7, .int .i64 r5.1), (8, .bool r5.2)] ∧ σ = hp E0 [(o1, some ⟨3, 1, encL rI s2⟩)] (M1 + 14)) (fun K hK => ?_) ?_
   ·
    simp -dsimp -implicitDefEqProofs (maxDischargeDepth := 6) [ix46 hv4]
    refine (c100 hr5).app ?_; try simp -dsimp -implicitDefEqProofs (maxDischargeDepth := 6) [ix46 hv4]
    exact hK _ _ ⟨rfl, rfl⟩
   rintro a σ ⟨rfl, rfl⟩
   refine AWP_sq [0, 1, 6, 7] fun K5 hK5 => ?_
   refine AWP_sr tok [] [0, 1, 6, 7, 24] (fun a σ => a = [(0, .sl o1 0 s2.length), (1, .fsl (encL rInstr p1)), (6, .int .i64 s1), (7, .int .i64 r5.1), (24, .bool (bnot r5.2))] ∧ σ = hp E0 [(o1, some ⟨3, 1, encL rI s2⟩)] (M1 + 16)) (fun K hK => ?_) ?_
   ·
    simp -dsimp -implicitDefEqProofs (maxDischargeDepth := 6)
    exact hK _ _ ⟨rfl, rfl⟩
   rintro a σ ⟨rfl, rfl⟩
   refine AWP_cond (bnot r5.2) rfl (fun C2 => ?_) (fun C2 => ?_)
   ·
    replace H := ifT C2 H
    refine AWP_sr tok [] [4, 5] (fun a σ => a = [(4, .sl o1 0 s2.length), (5, .bool false)] ∧ σ = hp E0 [(o1, some ⟨3, 1, encL rI s2⟩)] (M1 + 19)) (fun K hK => ?_) ?_
    ·
     simp -dsimp -implicitDefEqProofs (maxDischargeDepth := 6)
     exact hK _ _ ⟨rfl, rfl⟩
    rintro a σ ⟨rfl, rfl⟩
    replace H := Option.some.inj H; subst H
    refine AWP_kp [4, 5] [(4, .sl o1 0 s2.length), (5, .bool false)] rfl ?_
    refine AWP_ret (hO2 _ _ _ _ rfl ⟨rfl, ?_⟩)
    refine ⟨[.sl o1 0 s2.length, .bool false], by simp, M1 + 19, o1, by omega, by omega, by omega, ?_, ?_⟩
    ·
     simp [encL_nil]
    ·
     symm; first | exact hp_tail (L := [(o1, some ⟨3, 1, encL rI s2⟩)]) | (simp only [List.set_set]; exact hp_tail (L := [(o1, some ⟨3, 1, encL rI s2⟩)]))
   ·
    replace H := ifF C2 H
    refine AWP_skip ?_
    show K5 _ _
    refine keepE (l := [0, 1, 6, 7]) (x := [(0, .sl o1 0 s2.length), (1, .fsl (encL rInstr p1)), (6, .int .i64 s1), (7, .int .i64 r5.1)]) rfl fun a' ha => ?_
    refine hK5 _ _ ?_; rw [ha]
    refine Rc.mk ?_
    obtain ⟨r6, hr6, H⟩ := bindE H
    obtain ⟨l7, hl7, H⟩ := bindE H
    have q0 : ∀ σ i, buildSliceA T 22 true i 1 [(0, .int .i64 r6)] σ = some (.fsl (encL rI ([r6] : List Int)), σ) := fun _ _ => rfl
    refine AWP_rt tok [3] [0, 1, 6] (fun a σ => a = [(0, .sl (M1 + 20) 0 l7.length), (1, .fsl (encL rInstr p1)), (6, .int .i64 s1)] ∧ σ = hp E0 [(M1 + 20, some ⟨3, 1, encL rI l7⟩)] (M1 + 22)) (fun K hK => ?_) ?_
    ·
     have e0 := nq (a := o1) (b := M1 + 20) (by omega)
     simp -dsimp -implicitDefEqProofs (maxDischargeDepth := 6) [e0, q0, app22 hl7]
     refine (c101 hr6).app ?_; try simp -dsimp -implicitDefEqProofs (maxDischargeDepth := 6) [e0, q0, app22 hl7]
     exact hK _ _ ⟨rfl, rfl⟩
    rintro a σ ⟨ha, rfl⟩
    refine hK4 _ _ ?_; rw [ha]
    refine Rc.mk ?_
    refine AWP_rt tok [] [0, 1, 6] (fun a σ => a = [(0, .sl (M1 + 20) 0 l7.length), (1, .fsl (encL rInstr p1)), (6, .int .i64 (iadd .i64 s1 1))] ∧ σ = hp E0 [(M1 + 20, some ⟨3, 1, encL rI l7⟩)] (M1 + 25)) (fun K hK => ?_) ?_
    ·
     simp -dsimp -implicitDefEqProofs (maxDischargeDepth := 6)
     exact hK _ _ ⟨rfl, rfl⟩
    rintro a σ ⟨ha, rfl⟩
    replace H := Option.some.inj H; subst H
    refine hK2 _ _ _ rfl ?_; rw [ha]
    exact Rc.fin (AHeap.Sub.refl _) ⟨M1 + 25, (M1 + 20), (by omega), (by omega), (by omega), rfl, rfl⟩
  ·
   replace H := ifF C1 H
   replace H := Option.some.inj H; subst H
   refine AWP_exit (hO2 _ _ _ _ rfl ⟨rfl, ?_⟩)
   refine Rc.rw (l := [0]) (X := [(0, .sl o1 0 s2.length)]) rfl ?_
   exact Rc.fin (AHeap.Sub.refl _) ⟨M1 + 4, o1, (by omega), (by omega), (by omega), rfl, rfl⟩
 ·
  intro x a σ hx
  rcases e1 with y3 | r0
  ·
   obtain ⟨rfl, b, τ, hr, M2, o2, fM2_0, fM2_1, fM2_2, rfl, rfl⟩ := hx
   dsimp only at H
   show K1 _ _
   refine hK1 _ _ (Rc_ref hr ?_)
   refine Rc.mk ?_
   refine AWP_sr tok [] [4, 5] (fun a σ => a = [(4, .sl o2 0 y3.length), (5, .bool true)] ∧ σ = hp E0 [(o2, some ⟨3, 1, encL rI y3⟩)] (M2 + 3)) (fun K hK => ?_) ?_
   ·
    simp -dsimp -implicitDefEqProofs (maxDischargeDepth := 6)
    exact hK _ _ ⟨rfl, rfl⟩
   rintro a σ ⟨rfl, rfl⟩
   replace H := Option.some.inj H; subst H
   refine AWP_kp [4, 5] [(4, .sl o2 0 y3.length), (5, .bool true)] rfl ?_
   refine AWP_ret ?_
   refine ⟨[.sl o2 0 y3.length, .bool true], by simp, M2 + 3, o2, by omega, by omega, by omega, ?_, ?_⟩
   ·
    simp [encL_nil]
   ·
    symm; first | exact hp_tail (L := [(o2, some ⟨3, 1, encL rI y3⟩)]) | (simp only [List.set_set]; exact hp_tail (L := [(o2, some ⟨3, 1, encL rI y3⟩)]))
  ·
   obtain ⟨rfl, hx2⟩ := hx
   dsimp only at H
   replace H := Option.some.inj H; subst H; exact hx2
theorem c29 {p0 : (List gInstr)} {r : gMachine × Bool} (H : s_HartNew p0 = some r) : APure Tryd.prog G 29 [.fsl (encL rInstr p0)] (.tup [.agg [.fsl (encL rI r.1.Regs), .int .i64 r.1.Pc, .fsl (encL rI r.1.Mem)], .bool r.2]) := by
 refine APure_fn (fun N0 => ?_) (by simp)
 refine ACalls_fn tok Tryd.func29 (by kernel_rfl) rfl Tryd.ntmps29 Tryd.results29 rfl ?_
 simp only [argsA, Nat.reduceAdd, hp_next]
 unfold s_HartNew at H
 refine AWP_sr tok [] [0, 2] (fun a σ => a = [(0, .fsl (encL rInstr p0)), (2, .ptr N0 0 0)] ∧ σ = hp E0 [(N0, some ⟨53, 3, [[.nilsl, .int .i64 0, .nilsl]]⟩)] (N0 + 2)) (fun K hK => ?_) ?_
 ·
  simp -dsimp -implicitDefEqProofs (maxDischargeDepth := 6)
  exact hK _ _ ⟨rfl, rfl⟩
 rintro a σ ⟨rfl, rfl⟩
 refine AWP_sq [0, 2] fun K1 hK1 => ?_
 refine AWP_sr tok [] [0, 2, 9] (fun a σ => a = [(0, .fsl (encL rInstr p0)), (2, .ptr N0 0 0), (9, .bool (igt (ilen p0) 9987))] ∧ σ = hp E0 [(N0, some ⟨53, 3, [[.nilsl, .int .i64 0, .nilsl]]⟩)] (N0 + 5)) (fun K hK => ?_) ?_
 ·
  simp -dsimp -implicitDefEqProofs (maxDischargeDepth := 6)
  exact hK _ _ ⟨rfl, rfl⟩
 rintro a σ ⟨rfl, rfl⟩
 refine AWP_cond (igt (ilen p0) 9987) rfl (fun C1 => ?_) (fun C1 => ?_)
 ·
  replace H := ifT C1 H
  refine AWP_sr tok [] [2, 3] (fun a σ => a = [(2, .ptr N0 0 0), (3, .bool false)] ∧ σ = hp E0 [(N0, some ⟨53, 3, [[.fsl [], .int .i64 0, .fsl []]]⟩)] (N0 + 8)) (fun K hK => ?_) ?_
  ·
   simp -dsimp -implicitDefEqProofs (maxDischargeDepth := 6)
   exact hK _ _ ⟨rfl, rfl⟩
  rintro a σ ⟨rfl, rfl⟩
  replace H := Option.some.inj H; subst H
  refine AWP_kp [2, 3] [(2, .ptr N0 0 0), (3, .bool false)] rfl ?_
  refine AWP_ret ?_
  exact ⟨[.agg [.fsl [], .int .i64 0, .fsl []], .bool false], by simp, 4, by simp [encL_nil]⟩
 ·
  replace H := ifF C1 H
  refine AWP_skip ?_
  show K1 _ _
  refine keepE (l := [0, 2]) (x := [(0, .fsl (encL rInstr p0)), (2, .ptr N0 0 0)]) rfl fun a' ha => ?_
  refine hK1 _ _ ?_; rw [ha]
  refine Rc.mk ?_
  refine gWkC AWP_ref (o := N0) (ob := ⟨53, 3, [[.nilsl, .int .i64 0, .nilsl]]⟩) (row := [.nilsl, .int .i64 0, .nilsl]) (r := 0) (i := 0) [(N0, some ⟨53, 3, [[.fsl [], .int .i64 0, .nilsl]]⟩)] (by simp (disch := omega)) rfl rfl (by simp (disch := omega)) (by simp (disch := omega) [encL_nil, List.set_set, app_set]) ?_
  refine gWkC AWP_ref (o := N0) (ob := ⟨53, 3, [[.fsl [], .int .i64 0, .nilsl]]⟩) (row := [.fsl [], .int .i64 0, .nilsl]) (r := 0) (i := 2) [(N0, some ⟨53, 3, [[.fsl [], .int .i64 0, .fsl []]]⟩)] (by simp (disch := omega)) rfl rfl (by simp (disch := omega)) (by simp (disch := omega) [encL_nil, List.set_set, app_set]) ?_
  obtain ⟨l1, hl1, H⟩ := bindE H
  obtain ⟨r2, hr2, H⟩ := bindE H
  have q0 : ∀ σ i, buildSliceA T 22 false i 1 [(0, .int .i64 0)] σ = some (.sl i 0 (List.length l1), σ.put i ⟨3, 1, encL rI l1⟩) := by rw [← Option.some.inj hl1]; intro _ _; rfl
  refine AWP_sr tok [] [2, 4, 5] (fun a σ => ∃ M1 o1 : Nat, N0 + 13 ≤ M1 ∧ N0 + 13 ≤ o1 ∧ o1 < M1 ∧ a = [(2, .ptr N0 0 0), (4, .sl o1 0 r2.1.length), (5, .bool r2.2)] ∧ σ = hp E0 [(N0, some ⟨53, 3, [[.fsl [], .int .i64 0, .fsl []]]⟩), (o1, some ⟨3, 1, encL rI r2.1⟩)] M1) (fun K hK => ?_) ?_
  ·
   simp -dsimp -implicitDefEqProofs (maxDischargeDepth := 6) [q0]
   refine (c57_o (H := hr2) (by simp [q0])).mono ?_; rintro _ _ ⟨M1, o1, fM1_0, fM1_1, fM1_2, rfl, rfl⟩; simp only [hp_next] at fM1_0 fM1_1 fM1_2
   have eM1_0 := nq (a := o1) (b := N0) (by omega)
   have eM1_1 := nq (a := o1) (b := N0 + 5) (by omega)
   try simp -dsimp -implicitDefEqProofs (maxDischargeDepth := 6) [q0, eM1_0, eM1_1, hp_over_some, hp_over_none]
   exact hK _ _ ⟨M1, o1, (by omega), (by omega), (by omega), rfl, rfl⟩
  rintro a σ ⟨M1, o1, fM1_0, fM1_1, fM1_2, rfl, rfl⟩
  refine AWP_sq [2, 4] fun K2 hK2 => ?_
  refine AWP_sr tok [] [2, 4, 18] (fun a σ => a = [(2, .ptr N0 0 0), (4, .sl o1 0 r2.1.length), (18, .bool (bnot r2.2))] ∧ σ = hp E0 [(N0, some ⟨53, 3, [[.fsl [], .int .i64 0, .fsl []]]⟩), (o1, some ⟨3, 1, encL rI r2.1⟩)] (M1 + 2)) (fun K hK => ?_) ?_
  ·
   have e0 := nq (a := N0) (b := o1) (by omega)
   simp -dsimp -implicitDefEqProofs (maxDischargeDepth := 6) [e0]
   exact hK _ _ ⟨rfl, rfl⟩
  rintro a σ ⟨rfl, rfl⟩
  refine AWP_cond (bnot r2.2) rfl (fun C2 => ?_) (fun C2 => ?_)
  ·
   replace H := ifT C2 H
   refine AWP_sr tok [] [2, 3] (fun a σ => a = [(2, .ptr N0 0 0), (3, .bool false)] ∧ σ = hp E0 [(N0, some ⟨53, 3, [[.fsl [], .int .i64 0, .fsl []]]⟩), (o1, some ⟨3, 1, encL rI r2.1⟩)] (M1 + 5)) (fun K hK => ?_) ?_
   ·
    have e0 := nq (a := N0) (b := o1) (by omega)
    simp -dsimp -implicitDefEqProofs (maxDischargeDepth := 6) [e0]
    exact hK _ _ ⟨rfl, rfl⟩
   rintro a σ ⟨rfl, rfl⟩
   replace H := Option.some.inj H; subst H
   refine AWP_kp [2, 3] [(2, .ptr N0 0 0), (3, .bool false)] rfl ?_
   have z0 := nq (a := N0) (b := o1) (by omega)
   refine AWP_ret ?_
   exact ⟨[.agg [.fsl [], .int .i64 0, .fsl []], .bool false], by simp [z0], 4, by simp [encL_nil, z0]⟩
  ·
   replace H := ifF C2 H
   refine AWP_skip ?_
   show K2 _ _
   refine keepE (l := [2, 4]) (x := [(2, .ptr N0 0 0), (4, .sl o1 0 r2.1.length)]) rfl fun a' ha => ?_
   refine hK2 _ _ ?_; rw [ha]
   refine Rc.mk ?_
   obtain ⟨l3, hl3, H⟩ := bindE H
   refine AWP_sr tok [] [2, 4, 6] (fun a σ => a = [(2, .ptr N0 0 0), (4, .sl o1 0 r2.1.length), (6, .ptr (M1 + 4) 0 0)] ∧ σ = hp E0 [(N0, some ⟨53, 3, [[.fsl [], .int .i64 0, .fsl []]]⟩), (o1, some ⟨3, 1, encL rI r2.1⟩), (M1 + 2, some ⟨3, 1, encL rI l3⟩), (M1 + 4, some ⟨53, 3, [[.sl (M1 + 2) 0 l3.length, .int .i64 4, .fsl []]]⟩)] (M1 + 6)) (fun K hK => ?_) ?_
   ·
    have e0 := nq (a := N0) (b := o1) (by omega)
    have e1 := nq (a := N0) (b := M1 + 2) (by omega)
    have e2 := nq (a := N0) (b := M1 + 4) (by omega)
    have e3 := nq (a := o1) (b := M1 + 2) (by omega)
    have e4 := nq (a := o1) (b := M1 + 4) (by omega)
    simp -dsimp -implicitDefEqProofs (maxDischargeDepth := 6) [e0, e1, e2, e3, e4, mak22 hl3]
    exact hK _ _ ⟨rfl, rfl⟩
   rintro a σ ⟨rfl, rfl⟩
   obtain ⟨v4, hv4, H⟩ := bindE H
   obtain ⟨l5, hl5, H⟩ := bindE H
   refine AWP_sr tok [] [2, 4, 6] (fun a σ => a = [(2, .ptr N0 0 0), (4, .sl o1 0 r2.1.length), (6, .ptr (M1 + 4) 0 0)] ∧ σ = hp E0 [(N0, some ⟨53, 3, [[.fsl [], .int .i64 0, .fsl []]]⟩), (o1, some ⟨3, 1, encL rI r2.1⟩), (M1 + 2, some ⟨3, 1, encL rI l5⟩), (M1 + 4, some ⟨53, 3, [[.sl (M1 + 2) 0 l3.length, .int .i64 4, .fsl []]]⟩)] (M1 + 13)) (fun K hK => ?_) ?_
   ·
    have e0 := nq (a := N0) (b := o1) (by omega)
    have e1 := nq (a := N0) (b := M1 + 2) (by omega)
    have e2 := nq (a := N0) (b := M1 + 4) (by omega)
    have e3 := nq (a := o1) (b := M1 + 2) (by omega)
    have e4 := nq (a := o1) (b := M1 + 4) (by omega)
    simp -dsimp -implicitDefEqProofs (maxDischargeDepth := 6) [e0, e1, e2, e3, e4, ixo22 hv4, (show _[2]? = some v4 from (idx_lt3 hv4).2.2), (show List.set _ 2 _ = l5 from (setx_iff.1 hl5).2.symm)]
    exact hK _ _ ⟨rfl, rfl⟩
   rintro a σ ⟨rfl, rfl⟩
   try rw [← setx_len hl5]
   obtain ⟨l6, hl6, H⟩ := bindE H
   refine AWP_sr tok [] [2, 6] (fun a σ => a = [(2, .ptr N0 0 0), (6, .ptr (M1 + 4) 0 0)] ∧ σ = hp E0 [(N0, some ⟨53, 3, [[.fsl [], .int .i64 0, .fsl []]]⟩), (M1 + 2, some ⟨3, 1, encL rI l5⟩), (M1 + 4, some ⟨53, 3, [[.sl (M1 + 2) 0 l5.length, .int .i64 4, .sl (M1 + 14) 0 l6.length]]⟩), (M1 + 14, some ⟨3, 1, encL rI l6⟩)] (M1 + 17)) (fun K hK => ?_) ?_
   ·
    have e0 := nq (a := N0) (b := o1) (by omega)
    have e1 := nq (a := N0) (b := M1 + 2) (by omega)
    have e2 := nq (a := N0) (b := M1 + 4) (by omega)
    have e3 := nq (a := N0) (b := M1 + 14) (by omega)
    have e4 := nq (a := o1) (b := M1 + 2) (by omega)
    have e5 := nq (a := o1) (b := M1 + 4) (by omega)
    have e6 := nq (a := o1) (b := M1 + 14) (by omega)
    simp -dsimp -implicitDefEqProofs (maxDischargeDepth := 6) [e0, e1, e2, e3, e4, e5, e6, appz22_3 hl6]
    exact hK _ _ ⟨rfl, rfl⟩
   rintro a σ ⟨rfl, rfl⟩
   refine AWP_sr tok [] [2, 3] (fun a σ => a = [(2, .ptr N0 0 0), (3, .bool true)] ∧ σ = hp E0 [(N0, some ⟨53, 3, [[.sl (M1 + 2) 0 l5.length, .int .i64 4, .sl (M1 + 14) 0 l6.length]]⟩), (M1 + 2, some ⟨3, 1, encL rI l5⟩), (M1 + 4, some ⟨53, 3, [[.sl (M1 + 2) 0 l5.length, .int .i64 4, .sl (M1 + 14) 0 l6.length]]⟩), (M1 + 14, some ⟨3, 1, encL rI l6⟩)] (M1 + 20)) (fun K hK => ?_) ?_
   ·
    have e0 := nq (a := N0) (b := M1 + 2) (by omega)
    have e1 := nq (a := N0) (b := M1 + 4) (by omega)
    have e2 := nq (a := N0) (b := M1 + 14) (by omega)
    simp -dsimp -implicitDefEqProofs (maxDischargeDepth := 6) [e0, e1, e2]
    exact hK _ _ ⟨rfl, rfl⟩
   rintro a σ ⟨rfl, rfl⟩
   replace H := Option.some.inj H; subst H
   refine AWP_kp [2, 3] [(2, .ptr N0 0 0), (3, .bool true)] rfl ?_
   have z1 := nq (a := N0) (b := M1 + 2) (by omega)
   have z2 := nq (a := N0) (b := M1 + 4) (by omega)
   have z3 := nq (a := N0) (b := M1 + 14) (by omega)
   refine AWP_ret ?_
   exact ⟨[.agg [.sl (M1 + 2) 0 l5.length, .int .i64 4, .sl (M1 + 14) 0 l6.length], .bool true], by simp [z1, z2, z3], 4, by simp [encL_nil, z1, z2, z3]⟩
theorem c6 {p0 : (List Int)} {p1 : (List (List gInstr))} {r : gSquad × Bool} (H : s_SquadNew p0 p1 = some r) : APure Tryd.prog G 6 [.fsl (encL rI p0), .fsl (encL rL_Instr p1)] (.tup [.agg [.fsl (encL rMachine r.1.Harts), .fsl (encL rBox r.1.Boxes), .int .i64 r.1.Turn, .int .i64 r.1.Idle, .fsl (encL rI r.1.Out)], .bool r.2]) := by
 refine APure_fn (fun N0 => ?_) (by simp)
 refine ACalls_fn tok Tryd.func6 (by kernel_rfl) rfl Tryd.ntmps6 Tryd.results6 rfl ?_
 simp only [argsA, Nat.reduceAdd, hp_next]
 unfold s_SquadNew at H
 refine AWP_sr tok [] [0, 1, 4] (fun a σ => a = [(0, .fsl (encL rI p0)), (1, .fsl (encL rL_Instr p1)), (4, .ptr N0 0 0)] ∧ σ = hp E0 [(N0, some ⟨28, 5, [[.nilsl, .nilsl, .int .i64 0, .int .i64 0, .nilsl]]⟩)] (N0 + 2)) (fun K hK => ?_) ?_
 ·
  simp -dsimp -implicitDefEqProofs (maxDischargeDepth := 6)
  exact hK _ _ ⟨rfl, rfl⟩
 rintro a σ ⟨rfl, rfl⟩
 refine AWP_sq [0, 1, 4] fun K1 hK1 => ?_
 refine gWkC AWP_ref (o := N0) (ob := ⟨28, 5, [[.nilsl, .nilsl, .int .i64 0, .int .i64 0, .nilsl]]⟩) (row := [.nilsl, .nilsl, .int .i64 0, .int .i64 0, .nilsl]) (r := 0) (i := 0) [(N0, some ⟨28, 5, [[.fsl [], .nilsl, .int .i64 0, .int .i64 0, .nilsl]]⟩)] (by simp (disch := omega)) rfl rfl (by simp (disch := omega)) (by simp (disch := omega) [encL_nil, List.set_set, app_set]) ?_
 refine gWkC AWP_ref (o := N0) (ob := ⟨28, 5, [[.fsl [], .nilsl, .int .i64 0, .int .i64 0, .nilsl]]⟩) (row := [.fsl [], .nilsl, .int .i64 0, .int .i64 0, .nilsl]) (r := 0) (i := 1) [(N0, some ⟨28, 5, [[.fsl [], .fsl [], .int .i64 0, .int .i64 0, .nilsl]]⟩)] (by simp (disch := omega)) rfl rfl (by simp (disch := omega)) (by simp (disch := omega) [encL_nil, List.set_set, app_set]) ?_
 refine gWkC AWP_ref (o := N0) (ob := ⟨28, 5, [[.fsl [], .fsl [], .int .i64 0, .int .i64 0, .nilsl]]⟩) (row := [.fsl [], .fsl [], .int .i64 0, .int .i64 0, .nilsl]) (r := 0) (i := 4) [(N0, some ⟨28, 5, [[.fsl [], .fsl [], .int .i64 0, .int .i64 0, .fsl []]]⟩)] (by simp (disch := omega)) rfl rfl (by simp (disch := omega)) (by simp (disch := omega) [encL_nil, List.set_set, app_set]) ?_
 obtain ⟨r1, hr1, H⟩ := bindE H
 obtain ⟨g3, hg3, H⟩ := bindE H
 refine AWP_sr tok [] [0, 1, 4, 18] (fun a σ => a = [(0, .fsl (encL rI p0)), (1, .fsl (encL rL_Instr p1)), (4, .ptr N0 0 0), (18, .bool g3)] ∧ σ = hp E0 [(N0, some ⟨28, 5, [[.fsl [], .fsl [], .int .i64 0, .int .i64 0, .fsl []]]⟩)] (N0 + 11)) (fun K hK => ?_) ?_
 ·
  simp -dsimp -implicitDefEqProofs (maxDischargeDepth := 6)
  refine (c26 hr1).app ?_; try simp -dsimp -implicitDefEqProofs (maxDischargeDepth := 6)
  cases hbg3 : bnot r1
  ·
   replace hg3 := ifF hbg3 hg3
   obtain ⟨r2, hr2, hg3⟩ := bindE hg3
   replace hg3 := Option.some.inj hg3; subst hg3
   try simp -dsimp -implicitDefEqProofs (maxDischargeDepth := 6) [hbg3]
   refine (c27 hr2).app ?_; try simp -dsimp -implicitDefEqProofs (maxDischargeDepth := 6) [hbg3]
   exact hK _ _ ⟨rfl, rfl⟩
  ·
   replace hg3 := ifT hbg3 hg3
   replace hg3 := Option.some.inj hg3; subst hg3
   try simp -dsimp -implicitDefEqProofs (maxDischargeDepth := 6) [hbg3]
   exact hK _ _ ⟨rfl, rfl⟩
 rintro a σ ⟨rfl, rfl⟩
 refine AWP_cond g3 rfl (fun C1 => ?_) (fun C1 => ?_)
 ·
  replace H := ifT C1 H
  refine AWP_sr tok [] [4, 5] (fun a σ => a = [(4, .ptr N0 0 0), (5, .bool false)] ∧ σ = hp E0 [(N0, some ⟨28, 5, [[.fsl [], .fsl [], .int .i64 0, .int .i64 0, .fsl []]]⟩)] (N0 + 14)) (fun K hK => ?_) ?_
  ·
   simp -dsimp -implicitDefEqProofs (maxDischargeDepth := 6)
   exact hK _ _ ⟨rfl, rfl⟩
  rintro a σ ⟨rfl, rfl⟩
  replace H := Option.some.inj H; subst H
  refine AWP_kp [4, 5] [(4, .ptr N0 0 0), (5, .bool false)] rfl ?_
  refine AWP_ret ?_
  exact ⟨[.agg [.fsl [], .fsl [], .int .i64 0, .int .i64 0, .fsl []], .bool false], by simp, 4, by simp [encL_nil]⟩
 ·
  replace H := ifF C1 H
  refine AWP_skip ?_
  show K1 _ _
  refine keepE (l := [0, 1, 4]) (x := [(0, .fsl (encL rI p0)), (1, .fsl (encL rL_Instr p1)), (4, .ptr N0 0 0)]) rfl fun a' ha => ?_
  refine hK1 _ _ ?_; rw [ha]
  refine Rc.mk ?_
  obtain ⟨l4, hl4, H⟩ := bindE H
  obtain ⟨r5, hr5, H⟩ := bindE H
  have q0 : ∀ σ i, buildSliceA T 25 false i 0 [] σ = some (.sl i 0 (List.length l4), σ.put i ⟨53, 3, encL rMachine l4⟩) := by rw [← Option.some.inj hl4]; intro _ _; rfl
  have q1 : ∀ σ i, buildSliceA T 22 true i 0 [] σ = some (.esl, σ) := fun _ _ => rfl
  refine AWP_sr tok [3] [1, 4, 6] (fun a σ => a = [(1, .fsl (encL rL_Instr p1)), (4, .ptr N0 0 0), (6, .ptr (N0 + 16) 0 0)] ∧ σ = hp E0 [(N0, some ⟨28, 5, [[.fsl [], .fsl [], .int .i64 0, .int .i64 0, .fsl []]]⟩), (N0 + 11, some ⟨53, 3, encL rMachine l4⟩), (N0 + 16, some ⟨28, 5, [[.sl (N0 + 11) 0 l4.length, .fsl (encL rBox r5), .int .i64 0, .int .i64 0, .fsl []]]⟩)] (N0 + 18)) (fun K hK => ?_) ?_
  ·
   simp -dsimp -implicitDefEqProofs (maxDischargeDepth := 6) [q0, q1]
   refine (c28 hr5).app ?_; try simp -dsimp -implicitDefEqProofs (maxDischargeDepth := 6) [q0, q1]
   exact hK _ _ ⟨rfl, rfl⟩
  rintro a σ ⟨rfl, rfl⟩
  refine AWP_sq [4, 6] fun K2 hK2 => ?_
  refine AWP_sr tok [] [1, 4, 6, 7] (fun a σ => a = [(1, .fsl (encL rL_Instr p1)), (4, .ptr N0 0 0), (6, .ptr (N0 + 16) 0 0), (7, .int .i64 0)] ∧ σ = hp E0 [(N0, some ⟨28, 5, [[.fsl [], .fsl [], .int .i64 0, .int .i64 0, .fsl []]]⟩), (N0 + 11, some ⟨53, 3, encL rMachine l4⟩), (N0 + 16, some ⟨28, 5, [[.sl (N0 + 11) 0 l4.length, .fsl (encL rBox r5), .int .i64 0, .int .i64 0, .fsl []]]⟩)] (N0 + 19)) (fun K hK => ?_) ?_
  ·
   simp -dsimp -implicitDefEqProofs (maxDischargeDepth := 6)
   exact hK _ _ ⟨rfl, rfl⟩
  rintro a σ ⟨rfl, rfl⟩
  refine AWP_block (AWP_thenB ?_)
  obtain ⟨e1, hse1, H⟩ := bindE H
  refine AWP_lp [1, 4, 6, 7] (fun s a σ => ∃ M1 o1 o2 : Nat, N0 ≤ M1 ∧ N0 ≤ o1 ∧ o1 < M1 ∧ N0 ≤ o2 ∧ o2 < M1 ∧ ¬ o1 = o2 ∧ a = [(1, .fsl (encL rL_Instr p1)), (4, .ptr o1 0 0), (6, .ptr o2 0 0), (7, .int .i64 s.1)] ∧ σ = hp E0 [(o1, some ⟨28, 5, [[.fsl (encL rMachine s.2.1.Harts), .fsl (encL rBox s.2.1.Boxes), .int .i64 s.2.1.Turn, .int .i64 s.2.1.Idle, .fsl (encL rI s.2.1.Out)]]⟩), (o2, some ⟨28, 5, [[.osl 53 3 (encL rMachine s.2.2.Harts), .fsl (encL rBox s.2.2.Boxes), .int .i64 s.2.2.Turn, .int .i64 s.2.2.Idle, .fsl (encL rI s.2.2.Out)]]⟩)] M1) (fun e x a σ => match e with | .inl s => x = .exit 0 ∧ Rc G 49 N0 (fun a σ => ∃ M2 o3 o4 : Nat, N0 ≤ M2 ∧ N0 ≤ o3 ∧ o3 < M2 ∧ N0 ≤ o4 ∧ o4 < M2 ∧ ¬ o3 = o4 ∧ a = [(4, .ptr o3 0 0), (6, .ptr o4 0 0)] ∧ σ = hp E0 [(o3, some ⟨28, 5, [[.fsl (encL rMachine s.1.Harts), .fsl (encL rBox s.1.Boxes), .int .i64 s.1.Turn, .int .i64 s.1.Idle, .fsl (encL rI s.1.Out)]]⟩), (o4, some ⟨28, 5, [[.osl 53 3 (encL rMachine s.2.Harts), .fsl (encL rBox s.2.Boxes), .int .i64 s.2.Turn, .int .i64 s.2.Idle, .fsl (encL rI s.2.Out)]]⟩)] M2) (AAct.keep a [4, 6]) σ | .inr s => x = .ret ∧ ∃ vs, resA T σ a [.cell 4 28, .tmp 5] = some vs ∧ ∃ d, thawA (fun _ => true) σ d (tupA vs) = .tup [.agg [.fsl (encL rMachine s.1.Harts), .fsl (encL rBox s.1.Boxes), .int .i64 s.1.Turn, .int .i64 s.1.Idle, .fsl (encL rI s.1.Out)], .bool s.2]) hse1 ?_ ?_ ?_
  ·
   refine Rc.kp [1, 4, 6, 7] [(1, .fsl (encL rL_Instr p1)), (4, .ptr N0 0 0), (6, .ptr (N0 + 16) 0 0), (7, .int .i64 0)] rfl ?_
   refine gPk Rc_ref (k := l4.length) (o := (N0 + 16)) (ob := ⟨28, 5, [[.sl (N0 + 11) 0 l4.length, .fsl (encL rBox r5), .int .i64 0, .int .i64 0, .fsl []]]⟩) (row := [.sl (N0 + 11) 0 l4.length, .fsl (encL rBox r5), .int .i64 0, .int .i64 0, .fsl []]) (d := (N0 + 11)) (obd := ⟨53, 3, encL rMachine l4⟩) (r := 0) (i := 0) [(N0, some ⟨28, 5, [[.fsl [], .fsl [], .int .i64 0, .int .i64 0, .fsl []]]⟩), (N0 + 16, some ⟨28, 5, [[.osl 53 3 (encL rMachine l4), .fsl (encL rBox r5), .int .i64 0, .int .i64 0, .fsl []]]⟩)] (by simp (disch := omega)) rfl rfl (by simp (disch := omega)) (by simp (disch := omega)) (by first | omega | simp) (by simp (disch := omega) [List.set_set, app_set] <;> omega) (by simp (disch := omega) [List.set_set, app_set]) ?_
   exact Rc.fin (AHeap.Sub.refl _) ⟨N0 + 19, N0, (N0 + 16), (by omega), (by omega), (by omega), (by omega), (by omega), (by omega), rfl, rfl⟩
  ·
   clear H hse1
   rintro ⟨s6, s7, s8⟩ fl a σ H ⟨M1, o1, o2, fM1_0, fM1_1, fM1_2, fM1_3, fM1_4, fM1_5, rfl, rfl⟩ K3 O3 hK3 hO3
   unfold s_SquadNew_L1 at H; dsimp only at H
   refine AWP_sq [1, 4, 6, 7] fun K4 hK4 => ?_
   refine AWP_sr tok [] [1, 4, 6, 7, 28] (fun a σ => a = [(1, .fsl (encL rL_Instr p1)), (4, .ptr o1 0 0), (6, .ptr o2 0 0), (7, .int .i64 s6), (28, .bool (ilt s6 (ilen p1)))] ∧ σ = hp E0 [(o1, some ⟨28, 5, [[.fsl (encL rMachine s7.Harts), .fsl (encL rBox s7.Boxes), .int .i64 s7.Turn, .int .i64 s7.Idle, .fsl (encL rI s7.Out)]]⟩), (o2, some ⟨28, 5, [[.osl 53 3 (encL rMachine s8.Harts), .fsl (encL rBox s8.Boxes), .int .i64 s8.Turn, .int .i64 s8.Idle, .fsl (encL rI s8.Out)]]⟩)] (M1 + 4)) (fun K hK => ?_) ?_
   ·
    have e0 := nq (a := o1) (b := o2) (by omega)
    simp -dsimp -implicitDefEqProofs (maxDischargeDepth := 6) [e0]
    exact hK _ _ ⟨rfl, rfl⟩
   rintro a σ ⟨rfl, rfl⟩
   refine AWP_cond (ilt s6 (ilen p1)) rfl (fun C2 => ?_) (fun C2 => ?_)
   ·
    replace H := ifT C2 H
    refine AWP_skip ?_
    show K4 _ _
    refine keepE (l := [1, 4, 6, 7]) (x := [(1, .fsl (encL rL_Instr p1)), (4, .ptr o1 0 0), (6, .ptr o2 0 0), (7, .int .i64 s6)]) rfl fun a' ha => ?_
    refine hK4 _ _ ?_; rw [ha]
    refine Rc.mk ?_
    refine AWP_sq [1, 4, 6, 7] fun K5 hK5 => ?_
    refine AWP_block (AWP_thenB ?_)
    obtain ⟨v11, hv11, H⟩ := bindE H
    obtain ⟨r12, hr12, H⟩ := bindE H
    refine AWP_sr tok [] [1, 4, 6, 7, 8, 9] (fun a σ => a = [(1, .fsl (encL rL_Instr p1)), (4, .ptr o1 0 0), (6, .ptr o2 0 0), (7, .int .i64 s6), (8, .ptr (M1 + 12) 0 0), (9, .bool r12.2)] ∧ σ = hp E0 [(o1, some ⟨28, 5, [[.fsl (encL rMachine s7.Harts), .fsl (encL rBox s7.Boxes), .int .i64 s7.Turn, .int .i64 s7.Idle, .fsl (encL rI s7.Out)]]⟩), (o2, some ⟨28, 5, [[.osl 53 3 (encL rMachine s8.Harts), .fsl (encL rBox s8.Boxes), .int .i64 s8.Turn, .int .i64 s8.Idle, .fsl (encL rI s8.Out)]]⟩), (M1 + 12, some ⟨53, 3, [[.fsl (encL rI r12.1.Regs), .int .i64 r12.1.Pc, .fsl (encL rI r12.1.Mem)]]⟩)] (M1 + 15)) (fun K hK => ?_) ?_
    ·
     have e0 := nq (a := o1) (b := o2) (by omega)
     have e1 := nq (a := o1) (b := M1 + 12) (by omega)
     have e2 := nq (a := o2) (b := M1 + 12) (by omega)
     simp -dsimp -implicitDefEqProofs (maxDischargeDepth := 6) [e0, e1, e2, ix32 hv11]
     refine (c29 hr12).app ?_; try simp -dsimp -implicitDefEqProofs (maxDischargeDepth := 6) [e0, e1, e2, ix32 hv11]
     exact hK _ _ ⟨rfl, rfl⟩
    rintro a σ ⟨rfl, rfl⟩
    refine AWP_sq [1, 4, 6, 7, 8] fun K6 hK6 => ?_
    refine AWP_sr tok [] [1, 4, 6, 7, 8, 40] (fun a σ => a = [(1, .fsl (encL rL_Instr p1)), (4, .ptr o1 0 0), (6, .ptr o2 0 0), (7, .int .i64 s6), (8, .ptr (M1 + 12) 0 0), (40, .bool (bnot r12.2))] ∧ σ = hp E0 [(o1, some ⟨28, 5, [[.fsl (encL rMachine s7.Harts), .fsl (encL rBox s7.Boxes), .int .i64 s7.Turn, .int .i64 s7.Idle, .fsl (encL rI s7.Out)]]⟩), (o2, some ⟨28, 5, [[.osl 53 3 (encL rMachine s8.Harts), .fsl (encL rBox s8.Boxes), .int .i64 s8.Turn, .int .i64 s8.Idle, .fsl (encL rI s8.Out)]]⟩), (M1 + 12, some ⟨53, 3, [[.fsl (encL rI r12.1.Regs), .int .i64 r12.1.Pc, .fsl (encL rI r12.1.Mem)]]⟩)] (M1 + 17)) (fun K hK => ?_) ?_
    ·
     have e0 := nq (a := o1) (b := o2) (by omega)
     have e1 := nq (a := o1) (b := M1 + 12) (by omega)
     have e2 := nq (a := o2) (b := M1 + 12) (by omega)
     simp -dsimp -implicitDefEqProofs (maxDischargeDepth := 6) [e0, e1, e2]
     exact hK _ _ ⟨rfl, rfl⟩
    rintro a σ ⟨rfl, rfl⟩
    refine AWP_cond (bnot r12.2) rfl (fun C3 => ?_) (fun C3 => ?_)
    ·
     replace H := ifT C3 H
     refine AWP_sr tok [] [4, 5] (fun a σ => a = [(4, .ptr o1 0 0), (5, .bool false)] ∧ σ = hp E0 [(o1, some ⟨28, 5, [[.fsl [], .fsl [], .int .i64 0, .int .i64 0, .fsl []]]⟩), (o2, some ⟨28, 5, [[.osl 53 3 (encL rMachine s8.Harts), .fsl (encL rBox s8.Boxes), .int .i64 s8.Turn, .int .i64 s8.Idle, .fsl (encL rI s8.Out)]]⟩), (M1 + 12, some ⟨53, 3, [[.fsl (encL rI r12.1.Regs), .int .i64 r12.1.Pc, .fsl (encL rI r12.1.Mem)]]⟩)] (M1 + 20)) (fun K hK => ?_) ?_
     ·
      have e0 := nq (a := o1) (b := o2) (by omega)
      have e1 := nq (a := o1) (b := M1 + 12) (by omega)
      have e2 := nq (a := o2) (b := M1 + 12) (by omega)
      simp -dsimp -implicitDefEqProofs (maxDischargeDepth := 6) [e0, e1, e2]
      exact hK _ _ ⟨rfl, rfl⟩
     rintro a σ ⟨rfl, rfl⟩
     replace H := Option.some.inj H; subst H
     refine AWP_kp [4, 5] [(4, .ptr o1 0 0), (5, .bool false)] rfl ?_
     have z0 := nq (a := o1) (b := o2) (by omega)
     have z1 := nq (a := o1) (b := M1 + 12) (by omega)
     have z2 := nq (a := o2) (b := M1 + 12) (by omega)
     refine AWP_ret (hO3 _ _ _ _ rfl ⟨rfl, ?_⟩)
     exact ⟨[.agg [.fsl [], .fsl [], .int .i64 0, .int .i64 0, .fsl []], .bool false], by simp [z0, z1, z2], 4, by simp [encL_nil, z0, z1, z2]⟩
    ·
     replace H := ifF C3 H
     refine AWP_skip ?_
     show K6 _ _
     refine keepE (l := [1, 4, 6, 7, 8]) (x := [(1, .fsl (encL rL_Instr p1)), (4, .ptr o1 0 0), (6, .ptr o2 0 0), (7, .int .i64 s6), (8, .ptr (M1 + 12) 0 0)]) rfl fun a' ha => ?_
     refine hK6 _ _ ?_; rw [ha]
     refine Rc.mk ?_
     refine gUnp AWP_ref (ty := 53) (sz := 3) (es := encL rMachine s8.Harts) (o := o2) (ob := ⟨28, 5, [[.osl 53 3 (encL rMachine s8.Harts), .fsl (encL rBox s8.Boxes), .int .i64 s8.Turn, .int .i64 s8.Idle, .fsl (encL rI s8.Out)]]⟩) (row := [.osl 53 3 (encL rMachine s8.Harts), .fsl (encL rBox s8.Boxes), .int .i64 s8.Turn, .int .i64 s8.Idle, .fsl (encL rI s8.Out)]) (r := 0) (i := 0) [(o1, some ⟨28, 5, [[.fsl (encL rMachine s7.Harts), .fsl (encL rBox s7.Boxes), .int .i64 s7.Turn, .int .i64 s7.Idle, .fsl (encL rI s7.Out)]]⟩), (o2, some ⟨28, 5, [[.sl (M1 + 17) 0 s8.Harts.length, .fsl (encL rBox s8.Boxes), .int .i64 s8.Turn, .int .i64 s8.Idle, .fsl (encL rI s8.Out)]]⟩), (M1 + 12, some ⟨53, 3, [[.fsl (encL rI r12.1.Regs), .int .i64 r12.1.Pc, .fsl (encL rI r12.1.Mem)]]⟩), (M1 + 17, some ⟨53, 3, encL rMachine s8.Harts⟩)] (by simp (disch := omega)) rfl rfl (by simp (disch := omega) [List.set_set]) ?_
     obtain ⟨l13, hl13, H⟩ := bindE H
     have q2 : ∀ σ i, buildSliceA T 25 true i 1 [(0, .agg [.fsl (encL rI r12.1.Regs), .int .i64 r12.1.Pc, .fsl (encL rI r12.1.Mem)])] σ = some (.fsl (encL rMachine ([r12.1] : List gMachine)), σ) := fun _ _ => rfl
     refine AWP_rt tok [3] [1, 4, 6, 7] (fun a σ => a = [(1, .fsl (encL rL_Instr p1)), (4, .ptr o1 0 0), (6, .ptr o2 0 0), (7, .int .i64 s6)] ∧ σ = hp E0 [(o1, some ⟨28, 5, [[.fsl (encL rMachine s7.Harts), .fsl (encL rBox s7.Boxes), .int .i64 s7.Turn, .int .i64 s7.Idle, .fsl (encL rI s7.Out)]]⟩), (o2, some ⟨28, 5, [[.sl (M1 + 22) 0 l13.length, .fsl (encL rBox s8.Boxes), .int .i64 s8.Turn, .int .i64 s8.Idle, .fsl (encL rI s8.Out)]]⟩), (M1 + 12, some ⟨53, 3, [[.fsl (encL rI r12.1.Regs), .int .i64 r12.1.Pc, .fsl (encL rI r12.1.Mem)]]⟩), (M1 + 22, some ⟨53, 3, encL rMachine l13⟩)] (M1 + 25)) (fun K hK => ?_) ?_
     ·
      have e0 := nq (a := o1) (b := o2) (by omega)
      have e1 := nq (a := o1) (b := M1 + 12) (by omega)
      have e2 := nq (a := o1) (b := M1 + 17) (by omega)
      have e3 := nq (a := o1) (b := M1 + 22) (by omega)
      have e4 := nq (a := o2) (b := M1 + 12) (by omega)
      have e5 := nq (a := o2) (b := M1 + 17) (by omega)
      have e6 := nq (a := o2) (b := M1 + 22) (by omega)
      simp -dsimp -implicitDefEqProofs (maxDischargeDepth := 6) [e0, e1, e2, e3, e4, e5, e6, q2, app25 hl13]
      exact hK _ _ ⟨rfl, rfl⟩
     rintro a σ ⟨ha, rfl⟩
     refine hK5 _ _ ?_; rw [ha]
     refine Rc.mk ?_
     refine AWP_rt tok [] [1, 4, 6, 7] (fun a σ => a = [(1, .fsl (encL rL_Instr p1)), (4, .ptr o1 0 0), (6, .ptr o2 0 0), (7, .int .i64 (iadd .i64 s6 1))] ∧ σ = hp E0 [(o1, some ⟨28, 5, [[.fsl (encL rMachine s7.Harts), .fsl (encL rBox s7.Boxes), .int .i64 s7.Turn, .int .i64 s7.Idle, .fsl (encL rI s7.Out)]]⟩), (o2, some ⟨28, 5, [[.sl (M1 + 22) 0 l13.length, .fsl (encL rBox s8.Boxes), .int .i64 s8.Turn, .int .i64 s8.Idle, .fsl (encL rI s8.Out)]]⟩), (M1 + 12, some ⟨53, 3, [[.fsl (encL rI r12.1.Regs), .int .i64 r12.1.Pc, .fsl (encL rI r12.1.Mem)]]⟩), (M1 + 22, some ⟨53, 3, encL rMachine l13⟩)] (M1 + 28)) (fun K hK => ?_) ?_
     ·
      have e0 := nq (a := o1) (b := o2) (by omega)
      have e1 := nq (a := o1) (b := M1 + 12) (by omega)
      have e2 := nq (a := o1) (b := M1 + 22) (by omega)
      have e3 := nq (a := o2) (b := M1 + 12) (by omega)
      have e4 := nq (a := o2) (b := M1 + 22) (by omega)
      simp -dsimp -implicitDefEqProofs (maxDischargeDepth := 6) [e0, e1, e2, e3, e4]
      exact hK _ _ ⟨rfl, rfl⟩
     rintro a σ ⟨ha, rfl⟩
     replace H := Option.some.inj H; subst H
     refine hK3 _ _ _ rfl ?_; rw [ha]
     refine gPk Rc_ref (k := l13.length) (o := o2) (ob := ⟨28, 5, [[.sl (M1 + 22) 0 l13.length, .fsl (encL rBox s8.Boxes), .int .i64 s8.Turn, .int .i64 s8.Idle, .fsl (encL rI s8.Out)]]⟩) (row := [.sl (M1 + 22) 0 l13.length, .fsl (encL rBox s8.Boxes), .int .i64 s8.Turn, .int .i64 s8.Idle, .fsl (encL rI s8.Out)]) (d := (M1 + 22)) (obd := ⟨53, 3, encL rMachine l13⟩) (r := 0) (i := 0) [(o1, some ⟨28, 5, [[.fsl (encL rMachine s7.Harts), .fsl (encL rBox s7.Boxes), .int .i64 s7.Turn, .int .i64 s7.Idle, .fsl (encL rI s7.Out)]]⟩), (o2, some ⟨28, 5, [[.osl 53 3 (encL rMachine l13), .fsl (encL rBox s8.Boxes), .int .i64 s8.Turn, .int .i64 s8.Idle, .fsl (encL rI s8.Out)]]⟩), (M1 + 12, some ⟨53, 3, [[.fsl (encL rI r12.1.Regs), .int .i64 r12.1.Pc, .fsl (encL rI r12.1.Mem)]]⟩)] (by simp (disch := omega)) rfl rfl (by simp (disch := omega)) (by simp (disch := omega)) (by first | omega | simp) (by simp (disch := omega) [List.set_set, app_set] <;> omega) (by simp (disch := omega) [List.set_set, app_set]) ?_
     exact Rc.fin (hp_skip (hp_skip (AHeap.Sub.trans (AHeap.Sub.refl _) (hp_drop rfl (by simp; try omega))))) ⟨M1 + 28, o1, o2, (by omega), (by omega), (by omega), (by omega), (by omega), (by omega), rfl, rfl⟩
   ·
    replace H := ifF C2 H
    replace H := Option.some.inj H; subst H
    refine AWP_exit (hO3 _ _ _ _ rfl ⟨rfl, ?_⟩)
    refine Rc.rw (l := [4, 6]) (X := [(4, .ptr o1 0 0), (6, .ptr o2 0 0)]) rfl ?_
    exact Rc.fin (AHeap.Sub.refl _) ⟨M1 + 4, o1, o2, (by omega), (by omega), (by omega), (by omega), (by omega), (by omega), rfl, rfl⟩
  ·
   intro x a σ hx
   rcases e1 with ⟨y9, y10⟩ | r0
   ·
    obtain ⟨rfl, b, τ, hr, M2, o3, o4, fM2_0, fM2_1, fM2_2, fM2_3, fM2_4, fM2_5, rfl, rfl⟩ := hx
    dsimp only at H
    show K2 _ _
    refine hK2 _ _ (Rc_ref hr ?_)
    refine Rc.mk ?_
    refine gUnp AWP_ref (ty := 53) (sz := 3) (es := encL rMachine y10.Harts) (o := o4) (ob := ⟨28, 5, [[.osl 53 3 (encL rMachine y10.Harts), .fsl (encL rBox y10.Boxes), .int .i64 y10.Turn, .int .i64 y10.Idle, .fsl (encL rI y10.Out)]]⟩) (row := [.osl 53 3 (encL rMachine y10.Harts), .fsl (encL rBox y10.Boxes), .int .i64 y10.Turn, .int .i64 y10.Idle, .fsl (encL rI y10.Out)]) (r := 0) (i := 0) [(o3, some ⟨28, 5, [[.fsl (encL rMachine y9.Harts), .fsl (encL rBox y9.Boxes), .int .i64 y9.Turn, .int .i64 y9.Idle, .fsl (encL rI y9.Out)]]⟩), (o4, some ⟨28, 5, [[.sl M2 0 y10.Harts.length, .fsl (encL rBox y10.Boxes), .int .i64 y10.Turn, .int .i64 y10.Idle, .fsl (encL rI y10.Out)]]⟩), (M2, some ⟨53, 3, encL rMachine y10.Harts⟩)] (by simp (disch := omega)) rfl rfl (by simp (disch := omega) [List.set_set]) ?_
    refine AWP_sr tok [] [4, 5] (fun a σ => a = [(4, .ptr o3 0 0), (5, .bool true)] ∧ σ = hp E0 [(o3, some ⟨28, 5, [[.sl M2 0 y10.Harts.length, .fsl (encL rBox y10.Boxes), .int .i64 y10.Turn, .int .i64 y10.Idle, .fsl (encL rI y10.Out)]]⟩), (o4, some ⟨28, 5, [[.sl M2 0 y10.Harts.length, .fsl (encL rBox y10.Boxes), .int .i64 y10.Turn, .int .i64 y10.Idle, .fsl (encL rI y10.Out)]]⟩), (M2, some ⟨53, 3, encL rMachine y10.Harts⟩)] (M2 + 4)) (fun K hK => ?_) ?_
    ·
     have e0 := nq (a := o3) (b := o4) (by omega)
     have e1 := nq (a := o3) (b := M2) (by omega)
     have e2 := nq (a := o4) (b := M2) (by omega)
     simp -dsimp -implicitDefEqProofs (maxDischargeDepth := 6) [e0, e1, e2]
     exact hK _ _ ⟨rfl, rfl⟩
    rintro a σ ⟨rfl, rfl⟩
    replace H := Option.some.inj H; subst H
    refine AWP_kp [4, 5] [(4, .ptr o3 0 0), (5, .bool true)] rfl ?_
    have z3 := nq (a := o3) (b := o4) (by omega)
    have z4 := nq (a := o3) (b := M2) (by omega)
    have z5 := nq (a := o4) (b := M2) (by omega)
    refine AWP_ret ?_
    exact ⟨[.agg [.sl M2 0 y10.Harts.length, .fsl (encL rBox y10.Boxes), .int .i64 y10.Turn, .int .i64 y10.Idle, .fsl (encL rI y10.Out)], .bool true], by simp [z3, z4, z5], 4, by simp [encL_nil, z3, z4, z5]⟩
   ·
    obtain ⟨rfl, hx2⟩ := hx
    dsimp only at H
    replace H := Option.some.inj H; subst H; exact hx2
theorem c31 {p0 : (List Int)} {r : Bool} (H : i_roomsValid p0 = some r) : APure Tryd.prog G 31 [.fsl (encL rI p0)] (.bool r) := by
 refine APure_fn (fun N0 => ?_) (by simp)
 refine ACalls_fn tok Tryd.func31 (by kernel_rfl) rfl Tryd.ntmps31 Tryd.results31 rfl ?_
 simp only [argsA, Nat.reduceAdd, hp_next]
 unfold i_roomsValid at H
 refine AWP_sr tok [] [0] (fun a σ => a = [(0, .fsl (encL rI p0))] ∧ σ = hp E0 [] (N0 + 1)) (fun K hK => ?_) ?_
 ·
  simp -dsimp -implicitDefEqProofs (maxDischargeDepth := 6)
  exact hK _ _ ⟨rfl, rfl⟩
 rintro a σ ⟨rfl, rfl⟩
 refine AWP_sq [0] fun K1 hK1 => ?_
 refine AWP_sr tok [] [0, 5, 6, 7] (fun a σ => a = [(0, .fsl (encL rI p0)), (5, .fsl (encL rI p0)), (6, .int .i64 (ilen p0)), (7, .int .i64 0)] ∧ σ = hp E0 [] (N0 + 4)) (fun K hK => ?_) ?_
 ·
  simp -dsimp -implicitDefEqProofs (maxDischargeDepth := 6)
  exact hK _ _ ⟨rfl, rfl⟩
 rintro a σ ⟨rfl, rfl⟩
 refine AWP_block (AWP_thenB ?_)
 obtain ⟨e1, hse1, H⟩ := bindE H
 refine AWP_lp [0, 5, 6, 7] (fun s a σ => ∃ M1 : Nat, N0 ≤ M1 ∧ a = [(0, .fsl (encL rI p0)), (5, .fsl (encL rI p0)), (6, .int .i64 (ilen p0)), (7, .int .i64 s)] ∧ σ = hp E0 [] M1) (fun e x a σ => match e with | .inl s => x = .exit 0 ∧ Rc G 21 N0 (fun a σ => ∃ M2 : Nat, N0 ≤ M2 ∧ a = [(0, .fsl (encL rI p0))] ∧ σ = hp E0 [] M2) (AAct.keep a [0]) σ | .inr s => x = .ret ∧ ∃ vs, resA T σ a [.tmp 2] = some vs ∧ ∃ d, thawA (fun _ => true) σ d (tupA vs) = .bool s) hse1 ?_ ?_ ?_
 ·
  refine Rc.kp [0, 5, 6, 7] [(0, .fsl (encL rI p0)), (5, .fsl (encL rI p0)), (6, .int .i64 (ilen p0)), (7, .int .i64 0)] rfl ?_
  exact Rc.fin (AHeap.Sub.refl _) ⟨N0 + 4, (by omega), rfl, rfl⟩
 ·
  clear H hse1
  rintro s1 fl a σ H ⟨M1, fM1_0, rfl, rfl⟩ K2 O2 hK2 hO2
  unfold i_roomsValid_L1 at H; dsimp only at H
  refine AWP_sr tok [] [0, 5, 6, 7, 8] (fun a σ => a = [(0, .fsl (encL rI p0)), (5, .fsl (encL rI p0)), (6, .int .i64 (ilen p0)), (7, .int .i64 s1), (8, .bool (ilt s1 (ilen p0)))] ∧ σ = hp E0 [] (M1 + 1)) (fun K hK => ?_) ?_
  ·
   simp -dsimp -implicitDefEqProofs (maxDischargeDepth := 6)
   exact hK _ _ ⟨rfl, rfl⟩
  rintro a σ ⟨rfl, rfl⟩
  refine AWP_sq [0, 5, 6, 7] fun K3 hK3 => ?_
  refine AWP_cond (ilt s1 (ilen p0)) rfl (fun C1 => ?_) (fun C1 => ?_)
  ·
   replace H := ifT C1 H
   refine AWP_skip ?_
   show K3 _ _
   refine keepE (l := [0, 5, 6, 7]) (x := [(0, .fsl (encL rI p0)), (5, .fsl (encL rI p0)), (6, .int .i64 (ilen p0)), (7, .int .i64 s1)]) rfl fun a' ha => ?_
   refine hK3 _ _ ?_; rw [ha]
   refine Rc.mk ?_
   refine AWP_sq [0, 5, 6, 7] fun K4 hK4 => ?_
   refine AWP_block (AWP_thenB ?_)
   obtain ⟨v2, hv2, H⟩ := bindE H
   refine AWP_sr tok [] [0, 4, 5, 6, 7] (fun a σ => a = [(0, .fsl (encL rI p0)), (4, .int .i64 v2), (5, .fsl (encL rI p0)), (6, .int .i64 (ilen p0)), (7, .int .i64 s1)] ∧ σ = hp E0 [] (M1 + 4)) (fun K hK => ?_) ?_
   ·
    simp -dsimp -implicitDefEqProofs (maxDischargeDepth := 6) [ix22 hv2]
    exact hK _ _ ⟨rfl, rfl⟩
   rintro a σ ⟨rfl, rfl⟩
   obtain ⟨g3, hg3, H⟩ := bindE H
   refine AWP_sr tok [] [0, 5, 6, 7, 16] (fun a σ => a = [(0, .fsl (encL rI p0)), (5, .fsl (encL rI p0)), (6, .int .i64 (ilen p0)), (7, .int .i64 s1), (16, .bool g3)] ∧ σ = hp E0 [] (M1 + 10)) (fun K hK => ?_) ?_
   ·
    simp -dsimp -implicitDefEqProofs (maxDischargeDepth := 6)
    cases hbg3 : ilt v2 1
    ·
     replace hg3 := ifF hbg3 hg3
     replace hg3 := Option.some.inj hg3; subst hg3
     try simp -dsimp -implicitDefEqProofs (maxDischargeDepth := 6) [hbg3]
     exact hK _ _ ⟨rfl, rfl⟩
    ·
     replace hg3 := ifT hbg3 hg3
     replace hg3 := Option.some.inj hg3; subst hg3
     try simp -dsimp -implicitDefEqProofs (maxDischargeDepth := 6) [hbg3]
     exact hK _ _ ⟨rfl, rfl⟩
   rintro a σ ⟨rfl, rfl⟩
   refine AWP_cond g3 rfl (fun C2 => ?_) (fun C2 => ?_)
   ·
    replace H := ifT C2 H
    refine AWP_sr tok [] [2] (fun a σ => a = [(2, .bool false)] ∧ σ = hp E0 [] (M1 + 11)) (fun K hK => ?_) ?_
    ·
     simp -dsimp -implicitDefEqProofs (maxDischargeDepth := 6)
     exact hK _ _ ⟨rfl, rfl⟩
    rintro a σ ⟨rfl, rfl⟩
    replace H := Option.some.inj H; subst H
    refine AWP_kp [2] [(2, .bool false)] rfl ?_
    refine AWP_ret (hO2 _ _ _ _ rfl ⟨rfl, ?_⟩)
    exact ⟨[.bool false], by simp, 4, by simp [encL_nil]⟩
   ·
    replace H := ifF C2 H
    refine AWP_skip ?_
    show K4 _ _
    refine keepE (l := [0, 5, 6, 7]) (x := [(0, .fsl (encL rI p0)), (5, .fsl (encL rI p0)), (6, .int .i64 (ilen p0)), (7, .int .i64 s1)]) rfl fun a' ha => ?_
    refine hK4 _ _ ?_; rw [ha]
    refine Rc.mk ?_
    refine AWP_rt tok [] [0, 5, 6, 7] (fun a σ => a = [(0, .fsl (encL rI p0)), (5, .fsl (encL rI p0)), (6, .int .i64 (ilen p0)), (7, .int .i64 (iadd .i64 s1 1))] ∧ σ = hp E0 [] (M1 + 12)) (fun K hK => ?_) ?_
    ·
     simp -dsimp -implicitDefEqProofs (maxDischargeDepth := 6)
     exact hK _ _ ⟨rfl, rfl⟩
    rintro a σ ⟨ha, rfl⟩
    replace H := Option.some.inj H; subst H
    refine hK2 _ _ _ rfl ?_; rw [ha]
    exact Rc.fin (AHeap.Sub.refl _) ⟨M1 + 12, (by omega), rfl, rfl⟩
  ·
   replace H := ifF C1 H
   replace H := Option.some.inj H; subst H
   refine AWP_exit (hO2 _ _ _ _ rfl ⟨rfl, ?_⟩)
   refine Rc.rw (l := [0]) (X := [(0, .fsl (encL rI p0))]) rfl ?_
   exact Rc.fin (AHeap.Sub.refl _) ⟨M1 + 1, (by omega), rfl, rfl⟩
 ·
  intro x a σ hx
  rcases e1 with ⟨⟩ | r0
  ·
   obtain ⟨rfl, b, τ, hr, M2, fM2_0, rfl, rfl⟩ := hx
   dsimp only at H
   show K1 _ _
   refine hK1 _ _ (Rc_ref hr ?_)
   refine Rc.mk ?_
   refine AWP_sr tok [] [2] (fun a σ => a = [(2, .bool (ile (ilen p0) 3))] ∧ σ = hp E0 [] (M2 + 4)) (fun K hK => ?_) ?_
   ·
    simp -dsimp -implicitDefEqProofs (maxDischargeDepth := 6)
    exact hK _ _ ⟨rfl, rfl⟩
   rintro a σ ⟨rfl, rfl⟩
   replace H := Option.some.inj H; subst H
   refine AWP_kp [2] [(2, .bool (ile (ilen p0) 3))] rfl ?_
   refine AWP_ret ?_
   exact ⟨[.bool (ile (ilen p0) 3)], by simp, 4, by simp [encL_nil]⟩
  ·
   obtain ⟨rfl, hx2⟩ := hx
   dsimp only at H
   replace H := Option.some.inj H; subst H; exact hx2
end Go.Proofs.YtlcilhmkbmgkeaaDoor
