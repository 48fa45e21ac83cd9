/- The contracts of functions of the program, part 1: each computes what its mirror computes. No conditions. -/
import Derived.Test.YtlcilhmkbmgkeaaDoorNDT0
set_option linter.unusedSimpArgs false
set_option linter.unusedVariables false
set_option maxRecDepth 20000
set_option maxHeartbeats 4000000
namespace Go.Proofs.YtlcilhmkbmgkeaaDoor
open Go Go.Abs Go.RowKit

theorem c32 {p0 : (List Int)} {r : (List gBox)} (H : i_boxesNew p0 = some r) : APure Tryd.prog G 32 [.fsl (encL rI p0)] (.fsl (encL rBox r)) := by
 refine APure_fn (fun N0 => ?_) (by simp)
 refine ACalls_fn tok Tryd.func32 (by kernel_rfl) rfl Tryd.ntmps32 Tryd.results32 rfl ?_
 simp only [argsA, Nat.reduceAdd, hp_next]
 unfold i_boxesNew at H
 refine AWP_sr tok [] [0] (fun a σ => a = [(0, .fsl (encL rI p0))] ∧ σ = hp E0 [] (N0 + 1)) (fun K hK => ?_) ?_
 ·
  simp -dsimp -implicitDefEqProofs (maxDischargeDepth := 6)
  exact hK _ _ ⟨rfl, rfl⟩
 rintro a σ ⟨rfl, rfl⟩
 refine AWP_sr tok [] [0, 3] (fun a σ => a = [(0, .fsl (encL rI p0)), (3, .nilsl)] ∧ σ = hp E0 [] (N0 + 2)) (fun K hK => ?_) ?_
 ·
  simp -dsimp -implicitDefEqProofs (maxDischargeDepth := 6)
  exact hK _ _ ⟨rfl, rfl⟩
 rintro a σ ⟨rfl, rfl⟩
 refine AWP_sq [3] fun K1 hK1 => ?_
 refine AWP_sr tok [] [3, 6, 7, 8] (fun a σ => a = [(3, .nilsl), (6, .fsl (encL rI p0)), (7, .int .i64 (ilen p0)), (8, .int .i64 0)] ∧ σ = hp E0 [] (N0 + 5)) (fun K hK => ?_) ?_
 ·
  simp -dsimp -implicitDefEqProofs (maxDischargeDepth := 6)
  exact hK _ _ ⟨rfl, rfl⟩
 rintro a σ ⟨rfl, rfl⟩
 refine AWP_block (AWP_thenB ?_)
 obtain ⟨e1, hse1, H⟩ := bindE H
 refine AWP_lp [3, 6, 7, 8] (fun s a σ => ∃ M1 o1 : Nat, N0 ≤ M1 ∧ N0 ≤ o1 ∧ o1 < M1 ∧ a = [(3, .sl o1 0 s.2.length), (6, .fsl (encL rI p0)), (7, .int .i64 (ilen p0)), (8, .int .i64 s.1)] ∧ σ = hp E0 [(o1, some ⟨86, 2, encL rBox s.2⟩)] M1) (fun s x a σ => x = .exit 0 ∧ Rc G 19 N0 (fun a σ => ∃ M2 o2 : Nat, N0 ≤ M2 ∧ N0 ≤ o2 ∧ o2 < M2 ∧ a = [(3, .sl o2 0 s.length)] ∧ σ = hp E0 [(o2, some ⟨86, 2, encL rBox s⟩)] M2) (AAct.keep a [3]) σ) hse1 ?_ ?_ ?_
 ·
  refine Rc.kp [3, 6, 7, 8] [(3, .nilsl), (6, .fsl (encL rI p0)), (7, .int .i64 (ilen p0)), (8, .int .i64 0)] rfl ?_
  refine gNilS Rc_ref 3 86 2 [(N0 + 5, some ⟨86, 2, encL rBox ([] : List gBox)⟩)] [(3, .sl (N0 + 5) 0 ([] : List gBox).length), (6, .fsl (encL rI p0)), (7, .int .i64 (ilen p0)), (8, .int .i64 0)] (by simp (disch := omega)) (by simp (disch := omega) [encL_nil]) [3, 6, 7, 8] rfl ?_
  exact Rc.fin (AHeap.Sub.refl _) ⟨N0 + 6, (N0 + 5), (by omega), (by omega), (by omega), rfl, rfl⟩
 ·
  clear H hse1
  rintro ⟨s1, s2⟩ fl a σ H ⟨M1, o1, fM1_0, fM1_1, fM1_2, rfl, rfl⟩ K2 O2 hK2 hO2
  unfold i_boxesNew_L1 at H; dsimp only at H
  refine AWP_sr tok [] [3, 6, 7, 8, 9] (fun a σ => a = [(3, .sl o1 0 s2.length), (6, .fsl (encL rI p0)), (7, .int .i64 (ilen p0)), (8, .int .i64 s1), (9, .bool (ilt s1 (ilen p0)))] ∧ σ = hp E0 [(o1, some ⟨86, 2, encL rBox s2⟩)] (M1 + 1)) (fun K hK => ?_) ?_
  ·
   simp -dsimp -implicitDefEqProofs (maxDischargeDepth := 6)
   exact hK _ _ ⟨rfl, rfl⟩
  rintro a σ ⟨rfl, rfl⟩
  refine AWP_sq [3, 6, 7, 8] fun K3 hK3 => ?_
  refine AWP_cond (ilt s1 (ilen p0)) rfl (fun C1 => ?_) (fun C1 => ?_)
  ·
   replace H := ifT C1 H
   refine AWP_skip ?_
   show K3 _ _
   refine keepE (l := [3, 6, 7, 8]) (x := [(3, .sl o1 0 s2.length), (6, .fsl (encL rI p0)), (7, .int .i64 (ilen p0)), (8, .int .i64 s1)]) rfl fun a' ha => ?_
   refine hK3 _ _ ?_; rw [ha]
   refine Rc.mk ?_
   refine AWP_sq [3, 6, 7, 8] fun K4 hK4 => ?_
   refine AWP_block (AWP_thenB ?_)
   obtain ⟨v4, hv4, H⟩ := bindE H
   refine AWP_sr tok [] [3, 5, 6, 7, 8] (fun a σ => a = [(3, .sl o1 0 s2.length), (5, .int .i64 v4), (6, .fsl (encL rI p0)), (7, .int .i64 (ilen p0)), (8, .int .i64 s1)] ∧ σ = hp E0 [(o1, some ⟨86, 2, encL rBox s2⟩)] (M1 + 4)) (fun K hK => ?_) ?_
   ·
    simp -dsimp -implicitDefEqProofs (maxDischargeDepth := 6) [ix22 hv4]
    exact hK _ _ ⟨rfl, rfl⟩
   rintro a σ ⟨rfl, rfl⟩
   obtain ⟨l5, hl5, H⟩ := bindE H
   have q0 : ∀ σ i, buildSliceA T 26 true i 1 [(0, .agg [.int .i64 v4, .fsl []])] σ = some (.fsl (encL rBox ([(⟨v4, ([] : List Int)⟩ : gBox)] : List gBox)), σ) := fun _ _ => rfl
   refine AWP_rt tok [3] [3, 6, 7, 8] (fun a σ => a = [(3, .sl (M1 + 8) 0 l5.length), (6, .fsl (encL rI p0)), (7, .int .i64 (ilen p0)), (8, .int .i64 s1)] ∧ σ = hp E0 [(M1 + 8, some ⟨86, 2, encL rBox l5⟩)] (M1 + 10)) (fun K hK => ?_) ?_
   ·
    have e0 := nq (a := o1) (b := M1 + 8) (by omega)
    simp -dsimp -implicitDefEqProofs (maxDischargeDepth := 6) [e0, q0, app26 hl5]
    exact hK _ _ ⟨rfl, rfl⟩
   rintro a σ ⟨ha, rfl⟩
   refine hK4 _ _ ?_; rw [ha]
   refine Rc.mk ?_
   refine AWP_rt tok [] [3, 6, 7, 8] (fun a σ => a = [(3, .sl (M1 + 8) 0 l5.length), (6, .fsl (encL rI p0)), (7, .int .i64 (ilen p0)), (8, .int .i64 (iadd .i64 s1 1))] ∧ σ = hp E0 [(M1 + 8, some ⟨86, 2, encL rBox l5⟩)] (M1 + 12)) (fun K hK => ?_) ?_
   ·
    simp -dsimp -implicitDefEqProofs (maxDischargeDepth := 6)
    exact hK _ _ ⟨rfl, rfl⟩
   rintro a σ ⟨ha, rfl⟩
   replace H := Option.some.inj H; subst H
   refine hK2 _ _ _ rfl ?_; rw [ha]
   exact Rc.fin (AHeap.Sub.refl _) ⟨M1 + 12, (M1 + 8), (by omega), (by omega), (by omega), rfl, rfl⟩
  ·
   replace H := ifF C1 H
   replace H := Option.some.inj H; subst H
   refine AWP_exit (hO2 _ _ _ _ rfl ⟨rfl, ?_⟩)
   refine Rc.rw (l := [3]) (X := [(3, .sl o1 0 s2.length)]) rfl ?_
   exact Rc.fin (AHeap.Sub.refl _) ⟨M1 + 1, o1, (by omega), (by omega), (by omega), rfl, rfl⟩
 ·
  intro x a σ hx
  obtain ⟨y3, rfl⟩ : ∃ x, x = e1 := ⟨_, rfl⟩
  obtain ⟨rfl, b, τ, hr, M2, o2, fM2_0, fM2_1, fM2_2, rfl, rfl⟩ := hx
  dsimp only at H
  show K1 _ _
  refine hK1 _ _ (Rc_ref hr ?_)
  refine Rc.mk ?_
  refine AWP_sr tok [] [2] (fun a σ => a = [(2, .sl o2 0 y3.length)] ∧ σ = hp E0 [(o2, some ⟨86, 2, encL rBox y3⟩)] (M2 + 2)) (fun K hK => ?_) ?_
  ·
   simp -dsimp -implicitDefEqProofs (maxDischargeDepth := 6)
   exact hK _ _ ⟨rfl, rfl⟩
  rintro a σ ⟨rfl, rfl⟩
  replace H := Option.some.inj H; subst H
  refine AWP_kp [2] [(2, .sl o2 0 y3.length)] rfl ?_
  refine AWP_ret ?_
  exact ⟨[.sl o2 0 y3.length], by simp, 4, by simp [encL_nil]⟩
theorem c111 {p0 : Int} {r : Bool} (H : i_isMachineReg p0 = some r) : APure Tryd.prog G 111 [.int .i64 p0] (.bool r) := by
 refine APure_fn (fun N0 => ?_) (by simp)
 refine ACalls_fn tok Tryd.func111 (by kernel_rfl) rfl Tryd.ntmps111 Tryd.results111 rfl ?_
 simp only [argsA, Nat.reduceAdd, hp_next]
 unfold i_isMachineReg at H
 refine AWP_sr tok [] [0] (fun a σ => a = [(0, .int .i64 p0)] ∧ σ = hp E0 [] (N0 + 1)) (fun K hK => ?_) ?_
 ·
  simp -dsimp -implicitDefEqProofs (maxDischargeDepth := 6)
  exact hK _ _ ⟨rfl, rfl⟩
 rintro a σ ⟨rfl, rfl⟩
 obtain ⟨g1, hg1, H⟩ := bindE H
 refine AWP_sr tok [] [2] (fun a σ => a = [(2, .bool g1)] ∧ σ = hp E0 [] (N0 + 8)) (fun K hK => ?_) ?_
 ·
  simp -dsimp -implicitDefEqProofs (maxDischargeDepth := 6)
  cases hbg1 : ige p0 0
  ·
   replace hg1 := ifF hbg1 hg1
   replace hg1 := Option.some.inj hg1; subst hg1
   try simp -dsimp -implicitDefEqProofs (maxDischargeDepth := 6) [hbg1]
   exact hK _ _ ⟨rfl, rfl⟩
  ·
   replace hg1 := ifT hbg1 hg1
   replace hg1 := Option.some.inj hg1; subst hg1
   try simp -dsimp -implicitDefEqProofs (maxDischargeDepth := 6) [hbg1]
   exact hK _ _ ⟨rfl, rfl⟩
 rintro a σ ⟨rfl, rfl⟩
 replace H := Option.some.inj H; subst H
 refine AWP_kp [2] [(2, .bool g1)] rfl ?_
 refine AWP_ret ?_
 exact ⟨[.bool g1], by simp, 4, by simp [encL_nil]⟩
theorem c93 {p0 : Int} {r : Int} (H : i_formatOf p0 = some r) : APure Tryd.prog G 93 [.int .i64 p0] (.int .u8 r) := by
 refine APure_fn (fun N0 => ?_) (by simp)
 refine ACalls_fn tok Tryd.func93 (by kernel_rfl) rfl Tryd.ntmps93 Tryd.results93 rfl ?_
 simp only [argsA, Nat.reduceAdd, hp_next]
 unfold i_formatOf at H
 refine AWP_sr tok [] [0] (fun a σ => a = [(0, .int .i64 p0)] ∧ σ = hp E0 [] (N0 + 1)) (fun K hK => ?_) ?_
 ·
  simp -dsimp -implicitDefEqProofs (maxDischargeDepth := 6)
  exact hK _ _ ⟨rfl, rfl⟩
 rintro a σ ⟨rfl, rfl⟩
 refine AWP_sq [] fun K1 hK1 => ?_
 refine AWP_block (AWP_thenB ?_)
 obtain ⟨g1, hg1, H⟩ := bindE H
 refine AWP_sr tok [] [0, 3] (fun a σ => a = [(0, .int .i64 p0), (3, .bool g1)] ∧ σ = hp E0 [] (N0 + 8)) (fun K hK => ?_) ?_
 ·
  simp -dsimp -implicitDefEqProofs (maxDischargeDepth := 6)
  cases hbg1 : ige p0 1
  ·
   replace hg1 := ifF hbg1 hg1
   replace hg1 := Option.some.inj hg1; subst hg1
   try simp -dsimp -implicitDefEqProofs (maxDischargeDepth := 6) [hbg1]
   exact hK _ _ ⟨rfl, rfl⟩
  ·
   replace hg1 := ifT hbg1 hg1
   replace hg1 := Option.some.inj hg1; subst hg1
   try simp -dsimp -implicitDefEqProofs (maxDischargeDepth := 6) [hbg1]
   exact hK _ _ ⟨rfl, rfl⟩
 rintro a σ ⟨rfl, rfl⟩
 refine AWP_cond g1 rfl (fun C1 => ?_) (fun C1 => ?_)
 ·
  replace H := ifT C1 H
  refine AWP_sr tok [] [2] (fun a σ => a = [(2, .int .u8 82)] ∧ σ = hp E0 [] (N0 + 9)) (fun K hK => ?_) ?_
  ·
   simp -dsimp -implicitDefEqProofs (maxDischargeDepth := 6)
   exact hK _ _ ⟨rfl, rfl⟩
  rintro a σ ⟨rfl, rfl⟩
  replace H := Option.some.inj H; subst H
  refine AWP_kp [2] [(2, .int .u8 82)] rfl ?_
  refine AWP_ret ?_
  exact ⟨[.int .u8 82], by simp, 4, by simp [encL_nil]⟩
 ·
  replace H := ifF C1 H
  obtain ⟨g2, hg2, H⟩ := bindE H
  refine AWP_sr tok [] [0, 10] (fun a σ => a = [(0, .int .i64 p0), (10, .bool g2)] ∧ σ = hp E0 [] (N0 + 15)) (fun K hK => ?_) ?_
  ·
   simp -dsimp -implicitDefEqProofs (maxDischargeDepth := 6)
   cases hbg2 : ige p0 12
   ·
    replace hg2 := ifF hbg2 hg2
    replace hg2 := Option.some.inj hg2; subst hg2
    try simp -dsimp -implicitDefEqProofs (maxDischargeDepth := 6) [hbg2]
    exact hK _ _ ⟨rfl, rfl⟩
   ·
    replace hg2 := ifT hbg2 hg2
    replace hg2 := Option.some.inj hg2; subst hg2
    try simp -dsimp -implicitDefEqProofs (maxDischargeDepth := 6) [hbg2]
    exact hK _ _ ⟨rfl, rfl⟩
  rintro a σ ⟨rfl, rfl⟩
  refine AWP_cond g2 rfl (fun C2 => ?_) (fun C2 => ?_)
  ·
   replace H := ifT C2 H
   refine AWP_sr tok [] [2] (fun a σ => a = [(2, .int .u8 73)] ∧ σ = hp E0 [] (N0 + 16)) (fun K hK => ?_) ?_
   ·
    simp -dsimp -implicitDefEqProofs (maxDischargeDepth := 6)
    exact hK _ _ ⟨rfl, rfl⟩
   rintro a σ ⟨rfl, rfl⟩
   replace H := Option.some.inj H; subst H
   refine AWP_kp [2] [(2, .int .u8 73)] rfl ?_
   refine AWP_ret ?_
   exact ⟨[.int .u8 73], by simp, 4, by simp [encL_nil]⟩
  ·
   replace H := ifF C2 H
   refine AWP_sr tok [] [0, 17] (fun a σ => a = [(0, .int .i64 p0), (17, .bool (ieq p0 16))] ∧ σ = hp E0 [] (N0 + 18)) (fun K hK => ?_) ?_
   ·
    simp -dsimp -implicitDefEqProofs (maxDischargeDepth := 6)
    exact hK _ _ ⟨rfl, rfl⟩
   rintro a σ ⟨rfl, rfl⟩
   refine AWP_cond (ieq p0 16) rfl (fun C3 => ?_) (fun C3 => ?_)
   ·
    replace H := ifT C3 H
    refine AWP_sr tok [] [2] (fun a σ => a = [(2, .int .u8 83)] ∧ σ = hp E0 [] (N0 + 19)) (fun K hK => ?_) ?_
    ·
     simp -dsimp -implicitDefEqProofs (maxDischargeDepth := 6)
     exact hK _ _ ⟨rfl, rfl⟩
    rintro a σ ⟨rfl, rfl⟩
    replace H := Option.some.inj H; subst H
    refine AWP_kp [2] [(2, .int .u8 83)] rfl ?_
    refine AWP_ret ?_
    exact ⟨[.int .u8 83], by simp, 4, by simp [encL_nil]⟩
   ·
    replace H := ifF C3 H
    obtain ⟨g3, hg3, H⟩ := bindE H
    refine AWP_sr tok [] [0, 20] (fun a σ => a = [(0, .int .i64 p0), (20, .bool g3)] ∧ σ = hp E0 [] (N0 + 25)) (fun K hK => ?_) ?_
    ·
     simp -dsimp -implicitDefEqProofs (maxDischargeDepth := 6)
     cases hbg3 : ieq p0 17
     ·
      replace hg3 := ifF hbg3 hg3
      replace hg3 := Option.some.inj hg3; subst hg3
      try simp -dsimp -implicitDefEqProofs (maxDischargeDepth := 6) [hbg3]
      exact hK _ _ ⟨rfl, rfl⟩
     ·
      replace hg3 := ifT hbg3 hg3
      replace hg3 := Option.some.inj hg3; subst hg3
      try simp -dsimp -implicitDefEqProofs (maxDischargeDepth := 6) [hbg3]
      exact hK _ _ ⟨rfl, rfl⟩
    rintro a σ ⟨rfl, rfl⟩
    refine AWP_cond g3 rfl (fun C4 => ?_) (fun C4 => ?_)
    ·
     replace H := ifT C4 H
     refine AWP_sr tok [] [2] (fun a σ => a = [(2, .int .u8 66)] ∧ σ = hp E0 [] (N0 + 26)) (fun K hK => ?_) ?_
     ·
      simp -dsimp -implicitDefEqProofs (maxDischargeDepth := 6)
      exact hK _ _ ⟨rfl, rfl⟩
     rintro a σ ⟨rfl, rfl⟩
     replace H := Option.some.inj H; subst H
     refine AWP_kp [2] [(2, .int .u8 66)] rfl ?_
     refine AWP_ret ?_
     exact ⟨[.int .u8 66], by simp, 4, by simp [encL_nil]⟩
    ·
     replace H := ifF C4 H
     refine AWP_sr tok [] [0, 27] (fun a σ => a = [(0, .int .i64 p0), (27, .bool (ieq p0 19))] ∧ σ = hp E0 [] (N0 + 28)) (fun K hK => ?_) ?_
     ·
      simp -dsimp -implicitDefEqProofs (maxDischargeDepth := 6)
      exact hK _ _ ⟨rfl, rfl⟩
     rintro a σ ⟨rfl, rfl⟩
     refine AWP_cond (ieq p0 19) rfl (fun C5 => ?_) (fun C5 => ?_)
     ·
      replace H := ifT C5 H
      refine AWP_sr tok [] [2] (fun a σ => a = [(2, .int .u8 85)] ∧ σ = hp E0 [] (N0 + 29)) (fun K hK => ?_) ?_
      ·
       simp -dsimp -implicitDefEqProofs (maxDischargeDepth := 6)
       exact hK _ _ ⟨rfl, rfl⟩
      rintro a σ ⟨rfl, rfl⟩
      replace H := Option.some.inj H; subst H
      refine AWP_kp [2] [(2, .int .u8 85)] rfl ?_
      refine AWP_ret ?_
      exact ⟨[.int .u8 85], by simp, 4, by simp [encL_nil]⟩
     ·
      replace H := ifF C5 H
      refine AWP_sr tok [] [0, 30] (fun a σ => a = [(0, .int .i64 p0), (30, .bool (ieq p0 20))] ∧ σ = hp E0 [] (N0 + 31)) (fun K hK => ?_) ?_
      ·
       simp -dsimp -implicitDefEqProofs (maxDischargeDepth := 6)
       exact hK _ _ ⟨rfl, rfl⟩
      rintro a σ ⟨rfl, rfl⟩
      refine AWP_cond (ieq p0 20) rfl (fun C6 => ?_) (fun C6 => ?_)
      ·
       replace H := ifT C6 H
       refine AWP_sr tok [] [2] (fun a σ => a = [(2, .int .u8 74)] ∧ σ = hp E0 [] (N0 + 32)) (fun K hK => ?_) ?_
       ·
        simp -dsimp -implicitDefEqProofs (maxDischargeDepth := 6)
        exact hK _ _ ⟨rfl, rfl⟩
       rintro a σ ⟨rfl, rfl⟩
       replace H := Option.some.inj H; subst H
       refine AWP_kp [2] [(2, .int .u8 74)] rfl ?_
       refine AWP_ret ?_
       exact ⟨[.int .u8 74], by simp, 4, by simp [encL_nil]⟩
      ·
       replace H := ifF C6 H
       refine AWP_sr tok [] [33] (fun a σ => a = [(33, .bool (ieq p0 21))] ∧ σ = hp E0 [] (N0 + 34)) (fun K hK => ?_) ?_
       ·
        simp -dsimp -implicitDefEqProofs (maxDischargeDepth := 6)
        exact hK _ _ ⟨rfl, rfl⟩
       rintro a σ ⟨rfl, rfl⟩
       refine AWP_cond (ieq p0 21) rfl (fun C7 => ?_) (fun C7 => ?_)
       ·
        replace H := ifT C7 H
        refine AWP_sr tok [] [2] (fun a σ => a = [(2, .int .u8 69)] ∧ σ = hp E0 [] (N0 + 35)) (fun K hK => ?_) ?_
        ·
         simp -dsimp -implicitDefEqProofs (maxDischargeDepth := 6)
         exact hK _ _ ⟨rfl, rfl⟩
        rintro a σ ⟨rfl, rfl⟩
        replace H := Option.some.inj H; subst H
        refine AWP_kp [2] [(2, .int .u8 69)] rfl ?_
        refine AWP_ret ?_
        exact ⟨[.int .u8 69], by simp, 4, by simp [encL_nil]⟩
       ·
        replace H := ifF C7 H
        refine AWP_skip ?_
        show K1 _ _
        refine keepE (l := []) (x := []) rfl fun a' ha => ?_
        refine hK1 _ _ ?_; rw [ha]
        refine Rc.mk ?_
        refine AWP_sr tok [] [2] (fun a σ => a = [(2, .int .u8 32)] ∧ σ = hp E0 [] (N0 + 35)) (fun K hK => ?_) ?_
        ·
         simp -dsimp -implicitDefEqProofs (maxDischargeDepth := 6)
         exact hK _ _ ⟨rfl, rfl⟩
        rintro a σ ⟨rfl, rfl⟩
        replace H := Option.some.inj H; subst H
        refine AWP_kp [2] [(2, .int .u8 32)] rfl ?_
        refine AWP_ret ?_
        exact ⟨[.int .u8 32], by simp, 4, by simp [encL_nil]⟩
theorem c89 {p0 : gInstr} {r : Bool} (H : i_InstrValid p0 = some r) : APure Tryd.prog G 89 [.agg [.int .i64 p0.Op, .int .i64 p0.Rd, .int .i64 p0.Rs, .int .i64 p0.Rt, .int .i64 p0.Imm]] (.bool r) := by
 refine APure_fn (fun N0 => ?_) (by simp)
 refine ACalls_fn tok Tryd.func89 (by kernel_rfl) rfl Tryd.ntmps89 Tryd.results89 rfl ?_
 simp only [argsA, Nat.reduceAdd, hp_next]
 unfold i_InstrValid at H
 refine AWP_sr tok [0] [1] (fun a σ => a = [(1, .fptr [.int .i64 p0.Op, .int .i64 p0.Rd, .int .i64 p0.Rs, .int .i64 p0.Rt, .int .i64 p0.Imm] 0)] ∧ σ = hp E0 [] (N0 + 2)) (fun K hK => ?_) ?_
 ·
  simp -dsimp -implicitDefEqProofs (maxDischargeDepth := 6)
  exact hK _ _ ⟨rfl, rfl⟩
 rintro a σ ⟨rfl, rfl⟩
 obtain ⟨r1, hr1, H⟩ := bindE H
 obtain ⟨r2, hr2, H⟩ := bindE H
 obtain ⟨r3, hr3, H⟩ := bindE H
 refine AWP_sd tok tokM [] [] [0, 1, 2, 3, 4, 5, 6, 7, 8, 9, 10, 11] [1, 3, 4, 5] (fun a σ => a = [(1, .fptr [.int .i64 p0.Op, .int .i64 p0.Rd, .int .i64 p0.Rs, .int .i64 p0.Rt, .int .i64 p0.Imm] 0), (3, .bool r1), (4, .bool r2), (5, .bool r3)] ∧ σ = hp E0 [] (N0 + 14)) (by decide) (fun K hK => ?_) ?_
 ·
  simp only [pickL, nthO_succ, nthO_zero]
  simp -dsimp -implicitDefEqProofs (maxDischargeDepth := 6)
  refine Pc.mk (c111 hr1) ?_; try simp -dsimp -implicitDefEqProofs (maxDischargeDepth := 6)
  refine Pc.mk (c111 hr2) ?_; try simp -dsimp -implicitDefEqProofs (maxDischargeDepth := 6)
  refine Pc.mk (c111 hr3) ?_; try simp -dsimp -implicitDefEqProofs (maxDischargeDepth := 6)
  exact hK _ _ ⟨rfl, rfl⟩
 rintro a σ ⟨rfl, rfl⟩
 obtain ⟨g4, hg4, H⟩ := bindE H
 refine AWP_sr tok [] [1, 3, 4, 5, 6] (fun a σ => a = [(1, .fptr [.int .i64 p0.Op, .int .i64 p0.Rd, .int .i64 p0.Rs, .int .i64 p0.Rt, .int .i64 p0.Imm] 0), (3, .bool r1), (4, .bool r2), (5, .bool r3), (6, .bool g4)] ∧ σ = hp E0 [] (N0 + 23)) (fun K hK => ?_) ?_
 ·
  simp -dsimp -implicitDefEqProofs (maxDischargeDepth := 6)
  cases hbg4 : ige p0.Imm (-2048)
  ·
   replace hg4 := ifF hbg4 hg4
   replace hg4 := Option.some.inj hg4; subst hg4
   try simp -dsimp -implicitDefEqProofs (maxDischargeDepth := 6) [hbg4]
   exact hK _ _ ⟨rfl, rfl⟩
  ·
   replace hg4 := ifT hbg4 hg4
   replace hg4 := Option.some.inj hg4; subst hg4
   try simp -dsimp -implicitDefEqProofs (maxDischargeDepth := 6) [hbg4]
   exact hK _ _ ⟨rfl, rfl⟩
 rintro a σ ⟨rfl, rfl⟩
 refine AWP_sq [] fun K1 hK1 => ?_
 obtain ⟨r5, hr5, H⟩ := bindE H
 refine AWP_sr tok [] [1, 3, 4, 5, 6, 26] (fun a σ => a = [(1, .fptr [.int .i64 p0.Op, .int .i64 p0.Rd, .int .i64 p0.Rs, .int .i64 p0.Rt, .int .i64 p0.Imm] 0), (3, .bool r1), (4, .bool r2), (5, .bool r3), (6, .bool g4), (26, .int .u8 r5)] ∧ σ = hp E0 [] (N0 + 26)) (fun K hK => ?_) ?_
 ·
  simp -dsimp -implicitDefEqProofs (maxDischargeDepth := 6)
  refine (c93 hr5).app ?_; try simp -dsimp -implicitDefEqProofs (maxDischargeDepth := 6)
  exact hK _ _ ⟨rfl, rfl⟩
 rintro a σ ⟨rfl, rfl⟩
 refine AWP_block (AWP_thenB ?_)
 refine AWP_sr tok [] [1, 3, 4, 5, 6, 26, 27] (fun a σ => a = [(1, .fptr [.int .i64 p0.Op, .int .i64 p0.Rd, .int .i64 p0.Rs, .int .i64 p0.Rt, .int .i64 p0.Imm] 0), (3, .bool r1), (4, .bool r2), (5, .bool r3), (6, .bool g4), (26, .int .u8 r5), (27, .bool (ieq r5 82))] ∧ σ = hp E0 [] (N0 + 28)) (fun K hK => ?_) ?_
 ·
  simp -dsimp -implicitDefEqProofs (maxDischargeDepth := 6)
  exact hK _ _ ⟨rfl, rfl⟩
 rintro a σ ⟨rfl, rfl⟩
 refine AWP_cond (ieq r5 82) rfl (fun C1 => ?_) (fun C1 => ?_)
 ·
  replace H := ifT C1 H
  obtain ⟨g6, hg6, H⟩ := bindE H
  obtain ⟨g7, hg7, H⟩ := bindE H
  obtain ⟨g8, hg8, H⟩ := bindE H
  refine AWP_sr tok [] [2] (fun a σ => a = [(2, .bool g8)] ∧ σ = hp E0 [] (N0 + 41)) (fun K hK => ?_) ?_
  ·
   simp -dsimp -implicitDefEqProofs (maxDischargeDepth := 6)
   cases hbg6 : r1
   ·
    replace hg6 := ifF hbg6 hg6
    replace hg6 := Option.some.inj hg6; subst hg6
    try simp -dsimp -implicitDefEqProofs (maxDischargeDepth := 6) [hbg6]
    replace hg7 := ifF rfl hg7
    replace hg7 := Option.some.inj hg7; subst hg7
    try simp -dsimp -implicitDefEqProofs (maxDischargeDepth := 6) [hbg6]
    replace hg8 := ifF rfl hg8
    replace hg8 := Option.some.inj hg8; subst hg8
    try simp -dsimp -implicitDefEqProofs (maxDischargeDepth := 6) [hbg6]
    exact hK _ _ ⟨rfl, rfl⟩
   ·
    replace hg6 := ifT hbg6 hg6
    replace hg6 := Option.some.inj hg6; subst hg6
    try simp -dsimp -implicitDefEqProofs (maxDischargeDepth := 6) [hbg6]
    cases hbg7 : r2
    ·
     replace hg7 := ifF hbg7 hg7
     replace hg7 := Option.some.inj hg7; subst hg7
     try simp -dsimp -implicitDefEqProofs (maxDischargeDepth := 6) [hbg6, hbg7]
     replace hg8 := ifF rfl hg8
     replace hg8 := Option.some.inj hg8; subst hg8
     try simp -dsimp -implicitDefEqProofs (maxDischargeDepth := 6) [hbg6, hbg7]
     exact hK _ _ ⟨rfl, rfl⟩
    ·
     replace hg7 := ifT hbg7 hg7
     replace hg7 := Option.some.inj hg7; subst hg7
     try simp -dsimp -implicitDefEqProofs (maxDischargeDepth := 6) [hbg6, hbg7]
     cases hbg8 : r3
     ·
      replace hg8 := ifF hbg8 hg8
      replace hg8 := Option.some.inj hg8; subst hg8
      try simp -dsimp -implicitDefEqProofs (maxDischargeDepth := 6) [hbg6, hbg7, hbg8]
      exact hK _ _ ⟨rfl, rfl⟩
     ·
      replace hg8 := ifT hbg8 hg8
      replace hg8 := Option.some.inj hg8; subst hg8
      try simp -dsimp -implicitDefEqProofs (maxDischargeDepth := 6) [hbg6, hbg7, hbg8]
      exact hK _ _ ⟨rfl, rfl⟩
  rintro a σ ⟨rfl, rfl⟩
  replace H := Option.some.inj H; subst H
  refine AWP_kp [2] [(2, .bool g8)] rfl ?_
  refine AWP_ret ?_
  exact ⟨[.bool g8], by simp, 4, by simp [encL_nil]⟩
 ·
  replace H := ifF C1 H
  refine AWP_sr tok [] [1, 3, 4, 5, 6, 26, 41] (fun a σ => a = [(1, .fptr [.int .i64 p0.Op, .int .i64 p0.Rd, .int .i64 p0.Rs, .int .i64 p0.Rt, .int .i64 p0.Imm] 0), (3, .bool r1), (4, .bool r2), (5, .bool r3), (6, .bool g4), (26, .int .u8 r5), (41, .bool (ieq r5 73))] ∧ σ = hp E0 [] (N0 + 30)) (fun K hK => ?_) ?_
  ·
   simp -dsimp -implicitDefEqProofs (maxDischargeDepth := 6)
   exact hK _ _ ⟨rfl, rfl⟩
  rintro a σ ⟨rfl, rfl⟩
  refine AWP_cond (ieq r5 73) rfl (fun C2 => ?_) (fun C2 => ?_)
  ·
   replace H := ifT C2 H
   obtain ⟨g9, hg9, H⟩ := bindE H
   obtain ⟨g10, hg10, H⟩ := bindE H
   obtain ⟨g11, hg11, H⟩ := bindE H
   refine AWP_sr tok [] [2] (fun a σ => a = [(2, .bool g11)] ∧ σ = hp E0 [] (N0 + 43)) (fun K hK => ?_) ?_
   ·
    simp -dsimp -implicitDefEqProofs (maxDischargeDepth := 6)
    cases hbg9 : r1
    ·
     replace hg9 := ifF hbg9 hg9
     replace hg9 := Option.some.inj hg9; subst hg9
     try simp -dsimp -implicitDefEqProofs (maxDischargeDepth := 6) [hbg9]
     replace hg10 := ifF rfl hg10
     replace hg10 := Option.some.inj hg10; subst hg10
     try simp -dsimp -implicitDefEqProofs (maxDischargeDepth := 6) [hbg9]
     replace hg11 := ifF rfl hg11
     replace hg11 := Option.some.inj hg11; subst hg11
     try simp -dsimp -implicitDefEqProofs (maxDischargeDepth := 6) [hbg9]
     exact hK _ _ ⟨rfl, rfl⟩
    ·
     replace hg9 := ifT hbg9 hg9
     replace hg9 := Option.some.inj hg9; subst hg9
     try simp -dsimp -implicitDefEqProofs (maxDischargeDepth := 6) [hbg9]
     cases hbg10 : r2
     ·
      replace hg10 := ifF hbg10 hg10
      replace hg10 := Option.some.inj hg10; subst hg10
      try simp -dsimp -implicitDefEqProofs (maxDischargeDepth := 6) [hbg9, hbg10]
      replace hg11 := ifF rfl hg11
      replace hg11 := Option.some.inj hg11; subst hg11
      try simp -dsimp -implicitDefEqProofs (maxDischargeDepth := 6) [hbg9, hbg10]
      exact hK _ _ ⟨rfl, rfl⟩
     ·
      replace hg10 := ifT hbg10 hg10
      replace hg10 := Option.some.inj hg10; subst hg10
      try simp -dsimp -implicitDefEqProofs (maxDischargeDepth := 6) [hbg9, hbg10]
      cases hbg11 : (ieq p0.Rt 0)
      ·
       replace hg11 := ifF hbg11 hg11
       replace hg11 := Option.some.inj hg11; subst hg11
       try simp -dsimp -implicitDefEqProofs (maxDischargeDepth := 6) [hbg9, hbg10, hbg11]
       exact hK _ _ ⟨rfl, rfl⟩
      ·
       replace hg11 := ifT hbg11 hg11
       replace hg11 := Option.some.inj hg11; subst hg11
       try simp -dsimp -implicitDefEqProofs (maxDischargeDepth := 6) [hbg9, hbg10, hbg11]
       exact hK _ _ ⟨rfl, rfl⟩
   rintro a σ ⟨rfl, rfl⟩
   replace H := Option.some.inj H; subst H
   refine AWP_kp [2] [(2, .bool g11)] rfl ?_
   refine AWP_ret ?_
   exact ⟨[.bool g11], by simp, 4, by simp [encL_nil]⟩
  ·
   replace H := ifF C2 H
   refine AWP_sr tok [] [1, 3, 4, 5, 6, 26, 55] (fun a σ => a = [(1, .fptr [.int .i64 p0.Op, .int .i64 p0.Rd, .int .i64 p0.Rs, .int .i64 p0.Rt, .int .i64 p0.Imm] 0), (3, .bool r1), (4, .bool r2), (5, .bool r3), (6, .bool g4), (26, .int .u8 r5), (55, .bool (ieq r5 83))] ∧ σ = hp E0 [] (N0 + 32)) (fun K hK => ?_) ?_
   ·
    simp -dsimp -implicitDefEqProofs (maxDischargeDepth := 6)
    exact hK _ _ ⟨rfl, rfl⟩
   rintro a σ ⟨rfl, rfl⟩
   refine AWP_cond (ieq r5 83) rfl (fun C3 => ?_) (fun C3 => ?_)
   ·
    replace H := ifT C3 H
    obtain ⟨g12, hg12, H⟩ := bindE H
    obtain ⟨g13, hg13, H⟩ := bindE H
    obtain ⟨g14, hg14, H⟩ := bindE H
    refine AWP_sr tok [] [2] (fun a σ => a = [(2, .bool g14)] ∧ σ = hp E0 [] (N0 + 45)) (fun K hK => ?_) ?_
    ·
     simp -dsimp -implicitDefEqProofs (maxDischargeDepth := 6)
     cases hbg12 : ieq p0.Rd 0
     ·
      replace hg12 := ifF hbg12 hg12
      replace hg12 := Option.some.inj hg12; subst hg12
      try simp -dsimp -implicitDefEqProofs (maxDischargeDepth := 6) [hbg12]
      replace hg13 := ifF rfl hg13
      replace hg13 := Option.some.inj hg13; subst hg13
      try simp -dsimp -implicitDefEqProofs (maxDischargeDepth := 6) [hbg12]
      replace hg14 := ifF rfl hg14
      replace hg14 := Option.some.inj hg14; subst hg14
      try simp -dsimp -implicitDefEqProofs (maxDischargeDepth := 6) [hbg12]
      exact hK _ _ ⟨rfl, rfl⟩
     ·
      replace hg12 := ifT hbg12 hg12
      replace hg12 := Option.some.inj hg12; subst hg12
      try simp -dsimp -implicitDefEqProofs (maxDischargeDepth := 6) [hbg12]
      cases hbg13 : r2
      ·
       replace hg13 := ifF hbg13 hg13
       replace hg13 := Option.some.inj hg13; subst hg13
       try simp -dsimp -implicitDefEqProofs (maxDischargeDepth := 6) [hbg12, hbg13]
       replace hg14 := ifF rfl hg14
       replace hg14 := Option.some.inj hg14; subst hg14
       try simp -dsimp -implicitDefEqProofs (maxDischargeDepth := 6) [hbg12, hbg13]
       exact hK _ _ ⟨rfl, rfl⟩
      ·
       replace hg13 := ifT hbg13 hg13
       replace hg13 := Option.some.inj hg13; subst hg13
       try simp -dsimp -implicitDefEqProofs (maxDischargeDepth := 6) [hbg12, hbg13]
       cases hbg14 : r3
       ·
        replace hg14 := ifF hbg14 hg14
        replace hg14 := Option.some.inj hg14; subst hg14
        try simp -dsimp -implicitDefEqProofs (maxDischargeDepth := 6) [hbg12, hbg13, hbg14]
        exact hK _ _ ⟨rfl, rfl⟩
       ·
        replace hg14 := ifT hbg14 hg14
        replace hg14 := Option.some.inj hg14; subst hg14
        try simp -dsimp -implicitDefEqProofs (maxDischargeDepth := 6) [hbg12, hbg13, hbg14]
        exact hK _ _ ⟨rfl, rfl⟩
    rintro a σ ⟨rfl, rfl⟩
    replace H := Option.some.inj H; subst H
    refine AWP_kp [2] [(2, .bool g14)] rfl ?_
    refine AWP_ret ?_
    exact ⟨[.bool g14], by simp, 4, by simp [encL_nil]⟩
   ·
    replace H := ifF C3 H
    refine AWP_sr tok [] [1, 3, 4, 5, 26, 69] (fun a σ => a = [(1, .fptr [.int .i64 p0.Op, .int .i64 p0.Rd, .int .i64 p0.Rs, .int .i64 p0.Rt, .int .i64 p0.Imm] 0), (3, .bool r1), (4, .bool r2), (5, .bool r3), (26, .int .u8 r5), (69, .bool (ieq r5 66))] ∧ σ = hp E0 [] (N0 + 34)) (fun K hK => ?_) ?_
    ·
     simp -dsimp -implicitDefEqProofs (maxDischargeDepth := 6)
     exact hK _ _ ⟨rfl, rfl⟩
    rintro a σ ⟨rfl, rfl⟩
    refine AWP_cond (ieq r5 66) rfl (fun C4 => ?_) (fun C4 => ?_)
    ·
     replace H := ifT C4 H
     obtain ⟨g15, hg15, H⟩ := bindE H
     obtain ⟨g16, hg16, H⟩ := bindE H
     obtain ⟨g17, hg17, H⟩ := bindE H
     obtain ⟨g18, hg18, H⟩ := bindE H
     obtain ⟨g20, hg20, H⟩ := bindE H
     refine AWP_sr tok [] [2] (fun a σ => a = [(2, .bool g20)] ∧ σ = hp E0 [] (N0 + 60)) (fun K hK => ?_) ?_
     ·
      simp -dsimp -implicitDefEqProofs (maxDischargeDepth := 6)
      cases hbg15 : ieq p0.Rd 0
      ·
       replace hg15 := ifF hbg15 hg15
       replace hg15 := Option.some.inj hg15; subst hg15
       try simp -dsimp -implicitDefEqProofs (maxDischargeDepth := 6) [hbg15]
       replace hg16 := ifF rfl hg16
       replace hg16 := Option.some.inj hg16; subst hg16
       try simp -dsimp -implicitDefEqProofs (maxDischargeDepth := 6) [hbg15]
       replace hg17 := ifF rfl hg17
       replace hg17 := Option.some.inj hg17; subst hg17
       try simp -dsimp -implicitDefEqProofs (maxDischargeDepth := 6) [hbg15]
       replace hg18 := ifF rfl hg18
       replace hg18 := Option.some.inj hg18; subst hg18
       try simp -dsimp -implicitDefEqProofs (maxDischargeDepth := 6) [hbg15]
       replace hg20 := ifF rfl hg20
       replace hg20 := Option.some.inj hg20; subst hg20
       try simp -dsimp -implicitDefEqProofs (maxDischargeDepth := 6) [hbg15]
       exact hK _ _ ⟨rfl, rfl⟩
      ·
       replace hg15 := ifT hbg15 hg15
       replace hg15 := Option.some.inj hg15; subst hg15
       try simp -dsimp -implicitDefEqProofs (maxDischargeDepth := 6) [hbg15]
       cases hbg16 : r2
       ·
        replace hg16 := ifF hbg16 hg16
        replace hg16 := Option.some.inj hg16; subst hg16
        try simp -dsimp -implicitDefEqProofs (maxDischargeDepth := 6) [hbg15, hbg16]
        replace hg17 := ifF rfl hg17
        replace hg17 := Option.some.inj hg17; subst hg17
        try simp -dsimp -implicitDefEqProofs (maxDischargeDepth := 6) [hbg15, hbg16]
        replace hg18 := ifF rfl hg18
        replace hg18 := Option.some.inj hg18; subst hg18
        try simp -dsimp -implicitDefEqProofs (maxDischargeDepth := 6) [hbg15, hbg16]
        replace hg20 := ifF rfl hg20
        replace hg20 := Option.some.inj hg20; subst hg20
        try simp -dsimp -implicitDefEqProofs (maxDischargeDepth := 6) [hbg15, hbg16]
        exact hK _ _ ⟨rfl, rfl⟩
       ·
        replace hg16 := ifT hbg16 hg16
        replace hg16 := Option.some.inj hg16; subst hg16
        try simp -dsimp -implicitDefEqProofs (maxDischargeDepth := 6) [hbg15, hbg16]
        cases hbg17 : r3
        ·
         replace hg17 := ifF hbg17 hg17
         replace hg17 := Option.some.inj hg17; subst hg17
         try simp -dsimp -implicitDefEqProofs (maxDischargeDepth := 6) [hbg15, hbg16, hbg17]
         replace hg18 := ifF rfl hg18
         replace hg18 := Option.some.inj hg18; subst hg18
         try simp -dsimp -implicitDefEqProofs (maxDischargeDepth := 6) [hbg15, hbg16, hbg17]
         replace hg20 := ifF rfl hg20
         replace hg20 := Option.some.inj hg20; subst hg20
         try simp -dsimp -implicitDefEqProofs (maxDischargeDepth := 6) [hbg15, hbg16, hbg17]
         exact hK _ _ ⟨rfl, rfl⟩
        ·
         replace hg17 := ifT hbg17 hg17
         replace hg17 := Option.some.inj hg17; subst hg17
         try simp -dsimp -implicitDefEqProofs (maxDischargeDepth := 6) [hbg15, hbg16, hbg17]
         cases hbg18 : (ige p0.Imm (-4096))
         ·
          replace hg18 := ifF hbg18 hg18
          replace hg18 := Option.some.inj hg18; subst hg18
          try simp -dsimp -implicitDefEqProofs (maxDischargeDepth := 6) [hbg15, hbg16, hbg17, hbg18]
          replace hg20 := ifF rfl hg20
          replace hg20 := Option.some.inj hg20; subst hg20
          try simp -dsimp -implicitDefEqProofs (maxDischargeDepth := 6) [hbg15, hbg16, hbg17, hbg18]
          exact hK _ _ ⟨rfl, rfl⟩
         ·
          replace hg18 := ifT hbg18 hg18
          replace hg18 := Option.some.inj hg18; subst hg18
          try simp -dsimp -implicitDefEqProofs (maxDischargeDepth := 6) [hbg15, hbg16, hbg17, hbg18]
          cases hbg20 : (ile p0.Imm 4094)
          ·
           replace hg20 := ifF hbg20 hg20
           replace hg20 := Option.some.inj hg20; subst hg20
           try simp -dsimp -implicitDefEqProofs (maxDischargeDepth := 6) [hbg15, hbg16, hbg17, hbg18, hbg20]
           exact hK _ _ ⟨rfl, rfl⟩
          ·
           replace hg20 := ifT hbg20 hg20
           obtain ⟨v19, hv19, hg20⟩ := bindE hg20
           replace hg20 := Option.some.inj hg20; subst hg20
           try simp -dsimp -implicitDefEqProofs (maxDischargeDepth := 6) [hbg15, hbg16, hbg17, hbg18, hbg20, hv19]
           exact hK _ _ ⟨rfl, rfl⟩
     rintro a σ ⟨rfl, rfl⟩
     replace H := Option.some.inj H; subst H
     refine AWP_kp [2] [(2, .bool g20)] rfl ?_
     refine AWP_ret ?_
     exact ⟨[.bool g20], by simp, 4, by simp [encL_nil]⟩
    ·
     replace H := ifF C4 H
     refine AWP_sr tok [] [1, 3, 26, 96] (fun a σ => a = [(1, .fptr [.int .i64 p0.Op, .int .i64 p0.Rd, .int .i64 p0.Rs, .int .i64 p0.Rt, .int .i64 p0.Imm] 0), (3, .bool r1), (26, .int .u8 r5), (96, .bool (ieq r5 85))] ∧ σ = hp E0 [] (N0 + 36)) (fun K hK => ?_) ?_
     ·
      simp -dsimp -implicitDefEqProofs (maxDischargeDepth := 6)
      exact hK _ _ ⟨rfl, rfl⟩
     rintro a σ ⟨rfl, rfl⟩
     refine AWP_cond (ieq r5 85) rfl (fun C5 => ?_) (fun C5 => ?_)
     ·
      replace H := ifT C5 H
      obtain ⟨g21, hg21, H⟩ := bindE H
      obtain ⟨g22, hg22, H⟩ := bindE H
      obtain ⟨g23, hg23, H⟩ := bindE H
      obtain ⟨g24, hg24, H⟩ := bindE H
      refine AWP_sr tok [] [2] (fun a σ => a = [(2, .bool g24)] ∧ σ = hp E0 [] (N0 + 58)) (fun K hK => ?_) ?_
      ·
       simp -dsimp -implicitDefEqProofs (maxDischargeDepth := 6)
       cases hbg21 : r1
       ·
        replace hg21 := ifF hbg21 hg21
        replace hg21 := Option.some.inj hg21; subst hg21
        try simp -dsimp -implicitDefEqProofs (maxDischargeDepth := 6) [hbg21]
        replace hg22 := ifF rfl hg22
        replace hg22 := Option.some.inj hg22; subst hg22
        try simp -dsimp -implicitDefEqProofs (maxDischargeDepth := 6) [hbg21]
        replace hg23 := ifF rfl hg23
        replace hg23 := Option.some.inj hg23; subst hg23
        try simp -dsimp -implicitDefEqProofs (maxDischargeDepth := 6) [hbg21]
        replace hg24 := ifF rfl hg24
        replace hg24 := Option.some.inj hg24; subst hg24
        try simp -dsimp -implicitDefEqProofs (maxDischargeDepth := 6) [hbg21]
        exact hK _ _ ⟨rfl, rfl⟩
       ·
        replace hg21 := ifT hbg21 hg21
        replace hg21 := Option.some.inj hg21; subst hg21
        try simp -dsimp -implicitDefEqProofs (maxDischargeDepth := 6) [hbg21]
        cases hbg22 : (ieq p0.Rs 0)
        ·
         replace hg22 := ifF hbg22 hg22
         replace hg22 := Option.some.inj hg22; subst hg22
         try simp -dsimp -implicitDefEqProofs (maxDischargeDepth := 6) [hbg21, hbg22]
         replace hg23 := ifF rfl hg23
         replace hg23 := Option.some.inj hg23; subst hg23
         try simp -dsimp -implicitDefEqProofs (maxDischargeDepth := 6) [hbg21, hbg22]
         replace hg24 := ifF rfl hg24
         replace hg24 := Option.some.inj hg24; subst hg24
         try simp -dsimp -implicitDefEqProofs (maxDischargeDepth := 6) [hbg21, hbg22]
         exact hK _ _ ⟨rfl, rfl⟩
        ·
         replace hg22 := ifT hbg22 hg22
         replace hg22 := Option.some.inj hg22; subst hg22
         try simp -dsimp -implicitDefEqProofs (maxDischargeDepth := 6) [hbg21, hbg22]
         cases hbg23 : (ieq p0.Rt 0)
         ·
          replace hg23 := ifF hbg23 hg23
          replace hg23 := Option.some.inj hg23; subst hg23
          try simp -dsimp -implicitDefEqProofs (maxDischargeDepth := 6) [hbg21, hbg22, hbg23]
          replace hg24 := ifF rfl hg24
          replace hg24 := Option.some.inj hg24; subst hg24
          try simp -dsimp -implicitDefEqProofs (maxDischargeDepth := 6) [hbg21, hbg22, hbg23]
          exact hK _ _ ⟨rfl, rfl⟩
         ·
          replace hg23 := ifT hbg23 hg23
          replace hg23 := Option.some.inj hg23; subst hg23
          try simp -dsimp -implicitDefEqProofs (maxDischargeDepth := 6) [hbg21, hbg22, hbg23]
          cases hbg24 : (ige p0.Imm 0)
          ·
           replace hg24 := ifF hbg24 hg24
           replace hg24 := Option.some.inj hg24; subst hg24
           try simp -dsimp -implicitDefEqProofs (maxDischargeDepth := 6) [hbg21, hbg22, hbg23, hbg24]
           exact hK _ _ ⟨rfl, rfl⟩
          ·
           replace hg24 := ifT hbg24 hg24
           replace hg24 := Option.some.inj hg24; subst hg24
           try simp -dsimp -implicitDefEqProofs (maxDischargeDepth := 6) [hbg21, hbg22, hbg23, hbg24]
           exact hK _ _ ⟨rfl, rfl⟩
      rintro a σ ⟨rfl, rfl⟩
      replace H := Option.some.inj H; subst H
      refine AWP_kp [2] [(2, .bool g24)] rfl ?_
      refine AWP_ret ?_
      exact ⟨[.bool g24], by simp, 4, by simp [encL_nil]⟩
     ·
      replace H := ifF C5 H
      refine AWP_sr tok [] [1, 3, 26, 119] (fun a σ => a = [(1, .fptr [.int .i64 p0.Op, .int .i64 p0.Rd, .int .i64 p0.Rs, .int .i64 p0.Rt, .int .i64 p0.Imm] 0), (3, .bool r1), (26, .int .u8 r5), (119, .bool (ieq r5 74))] ∧ σ = hp E0 [] (N0 + 38)) (fun K hK => ?_) ?_
      ·
       simp -dsimp -implicitDefEqProofs (maxDischargeDepth := 6)
       exact hK _ _ ⟨rfl, rfl⟩
      rintro a σ ⟨rfl, rfl⟩
      refine AWP_cond (ieq r5 74) rfl (fun C6 => ?_) (fun C6 => ?_)
      ·
       replace H := ifT C6 H
       obtain ⟨g25, hg25, H⟩ := bindE H
       obtain ⟨g26, hg26, H⟩ := bindE H
       obtain ⟨g27, hg27, H⟩ := bindE H
       obtain ⟨g28, hg28, H⟩ := bindE H
       obtain ⟨g30, hg30, H⟩ := bindE H
       refine AWP_sr tok [] [2] (fun a σ => a = [(2, .bool g30)] ∧ σ = hp E0 [] (N0 + 66)) (fun K hK => ?_) ?_
       ·
        simp -dsimp -implicitDefEqProofs (maxDischargeDepth := 6)
        cases hbg25 : r1
        ·
         replace hg25 := ifF hbg25 hg25
         replace hg25 := Option.some.inj hg25; subst hg25
         try simp -dsimp -implicitDefEqProofs (maxDischargeDepth := 6) [hbg25]
         replace hg26 := ifF rfl hg26
         replace hg26 := Option.some.inj hg26; subst hg26
         try simp -dsimp -implicitDefEqProofs (maxDischargeDepth := 6) [hbg25]
         replace hg27 := ifF rfl hg27
         replace hg27 := Option.some.inj hg27; subst hg27
         try simp -dsimp -implicitDefEqProofs (maxDischargeDepth := 6) [hbg25]
         replace hg28 := ifF rfl hg28
         replace hg28 := Option.some.inj hg28; subst hg28
         try simp -dsimp -implicitDefEqProofs (maxDischargeDepth := 6) [hbg25]
         replace hg30 := ifF rfl hg30
         replace hg30 := Option.some.inj hg30; subst hg30
         try simp -dsimp -implicitDefEqProofs (maxDischargeDepth := 6) [hbg25]
         exact hK _ _ ⟨rfl, rfl⟩
        ·
         replace hg25 := ifT hbg25 hg25
         replace hg25 := Option.some.inj hg25; subst hg25
         try simp -dsimp -implicitDefEqProofs (maxDischargeDepth := 6) [hbg25]
         cases hbg26 : (ieq p0.Rs 0)
         ·
          replace hg26 := ifF hbg26 hg26
          replace hg26 := Option.some.inj hg26; subst hg26
          try simp -dsimp -implicitDefEqProofs (maxDischargeDepth := 6) [hbg25, hbg26]
          replace hg27 := ifF rfl hg27
          replace hg27 := Option.some.inj hg27; subst hg27
          try simp -dsimp -implicitDefEqProofs (maxDischargeDepth := 6) [hbg25, hbg26]
          replace hg28 := ifF rfl hg28
          replace hg28 := Option.some.inj hg28; subst hg28
          try simp -dsimp -implicitDefEqProofs (maxDischargeDepth := 6) [hbg25, hbg26]
          replace hg30 := ifF rfl hg30
          replace hg30 := Option.some.inj hg30; subst hg30
          try simp -dsimp -implicitDefEqProofs (maxDischargeDepth := 6) [hbg25, hbg26]
          exact hK _ _ ⟨rfl, rfl⟩
         ·
          replace hg26 := ifT hbg26 hg26
          replace hg26 := Option.some.inj hg26; subst hg26
          try simp -dsimp -implicitDefEqProofs (maxDischargeDepth := 6) [hbg25, hbg26]
          cases hbg27 : (ieq p0.Rt 0)
          ·
           replace hg27 := ifF hbg27 hg27
           replace hg27 := Option.some.inj hg27; subst hg27
           try simp -dsimp -implicitDefEqProofs (maxDischargeDepth := 6) [hbg25, hbg26, hbg27]
           replace hg28 := ifF rfl hg28
           replace hg28 := Option.some.inj hg28; subst hg28
           try simp -dsimp -implicitDefEqProofs (maxDischargeDepth := 6) [hbg25, hbg26, hbg27]
           replace hg30 := ifF rfl hg30
           replace hg30 := Option.some.inj hg30; subst hg30
           try simp -dsimp -implicitDefEqProofs (maxDischargeDepth := 6) [hbg25, hbg26, hbg27]
           exact hK _ _ ⟨rfl, rfl⟩
          ·
           replace hg27 := ifT hbg27 hg27
           replace hg27 := Option.some.inj hg27; subst hg27
           try simp -dsimp -implicitDefEqProofs (maxDischargeDepth := 6) [hbg25, hbg26, hbg27]
           cases hbg28 : (ige p0.Imm (-1048576))
           ·
            replace hg28 := ifF hbg28 hg28
            replace hg28 := Option.some.inj hg28; subst hg28
            try simp -dsimp -implicitDefEqProofs (maxDischargeDepth := 6) [hbg25, hbg26, hbg27, hbg28]
            replace hg30 := ifF rfl hg30
            replace hg30 := Option.some.inj hg30; subst hg30
            try simp -dsimp -implicitDefEqProofs (maxDischargeDepth := 6) [hbg25, hbg26, hbg27, hbg28]
            exact hK _ _ ⟨rfl, rfl⟩
           ·
            replace hg28 := ifT hbg28 hg28
            replace hg28 := Option.some.inj hg28; subst hg28
            try simp -dsimp -implicitDefEqProofs (maxDischargeDepth := 6) [hbg25, hbg26, hbg27, hbg28]
            cases hbg30 : (ile p0.Imm 1048574)
            ·
             replace hg30 := ifF hbg30 hg30
             replace hg30 := Option.some.inj hg30; subst hg30
             try simp -dsimp -implicitDefEqProofs (maxDischargeDepth := 6) [hbg25, hbg26, hbg27, hbg28, hbg30]
             exact hK _ _ ⟨rfl, rfl⟩
            ·
             replace hg30 := ifT hbg30 hg30
             obtain ⟨v29, hv29, hg30⟩ := bindE hg30
             replace hg30 := Option.some.inj hg30; subst hg30
             try simp -dsimp -implicitDefEqProofs (maxDischargeDepth := 6) [hbg25, hbg26, hbg27, hbg28, hbg30, hv29]
             exact hK _ _ ⟨rfl, rfl⟩
       rintro a σ ⟨rfl, rfl⟩
       replace H := Option.some.inj H; subst H
       refine AWP_kp [2] [(2, .bool g30)] rfl ?_
       refine AWP_ret ?_
       exact ⟨[.bool g30], by simp, 4, by simp [encL_nil]⟩
      ·
       replace H := ifF C6 H
       refine AWP_sr tok [] [1, 148] (fun a σ => a = [(1, .fptr [.int .i64 p0.Op, .int .i64 p0.Rd, .int .i64 p0.Rs, .int .i64 p0.Rt, .int .i64 p0.Imm] 0), (148, .bool (ieq r5 69))] ∧ σ = hp E0 [] (N0 + 40)) (fun K hK => ?_) ?_
       ·
        simp -dsimp -implicitDefEqProofs (maxDischargeDepth := 6)
        exact hK _ _ ⟨rfl, rfl⟩
       rintro a σ ⟨rfl, rfl⟩
       refine AWP_cond (ieq r5 69) rfl (fun C7 => ?_) (fun C7 => ?_)
       ·
        replace H := ifT C7 H
        refine AWP_sr tok [] [2] (fun a σ => a = [(2, .bool (eqD p0 (⟨21, 0, 0, 0, 0⟩ : gInstr)))] ∧ σ = hp E0 [] (N0 + 44)) (fun K hK => ?_) ?_
        ·
         simp -dsimp -implicitDefEqProofs (maxDischargeDepth := 6)
         exact hK _ _ ⟨rfl, rfl⟩
        rintro a σ ⟨rfl, rfl⟩
        replace H := Option.some.inj H; subst H
        refine AWP_kp [2] [(2, .bool (eqD p0 (⟨21, 0, 0, 0, 0⟩ : gInstr)))] rfl ?_
        refine AWP_ret ?_
        exact ⟨[.bool (eqD p0 (⟨21, 0, 0, 0, 0⟩ : gInstr))], by simp, 4, by simp [encL_nil]⟩
       ·
        replace H := ifF C7 H
        refine AWP_skip ?_
        show K1 _ _
        refine keepE (l := []) (x := []) rfl fun a' ha => ?_
        refine hK1 _ _ ?_; rw [ha]
        refine Rc.mk ?_
        refine AWP_sr tok [] [2] (fun a σ => a = [(2, .bool false)] ∧ σ = hp E0 [] (N0 + 41)) (fun K hK => ?_) ?_
        ·
         simp -dsimp -implicitDefEqProofs (maxDischargeDepth := 6)
         exact hK _ _ ⟨rfl, rfl⟩
        rintro a σ ⟨rfl, rfl⟩
        replace H := Option.some.inj H; subst H
        refine AWP_kp [2] [(2, .bool false)] rfl ?_
        refine AWP_ret ?_
        exact ⟨[.bool false], by simp, 4, by simp [encL_nil]⟩
theorem c55 {p0 : Int} {r : Bool} (H : i_WordValid p0 = some r) : APure Tryd.prog G 55 [.int .i64 p0] (.bool r) := by
 refine APure_fn (fun N0 => ?_) (by simp)
 refine ACalls_fn tok Tryd.func55 (by kernel_rfl) rfl Tryd.ntmps55 Tryd.results55 rfl ?_
 simp only [argsA, Nat.reduceAdd, hp_next]
 unfold i_WordValid at H
 refine AWP_sr tok [] [0] (fun a σ => a = [(0, .int .i64 p0)] ∧ σ = hp E0 [] (N0 + 1)) (fun K hK => ?_) ?_
 ·
  simp -dsimp -implicitDefEqProofs (maxDischargeDepth := 6)
  exact hK _ _ ⟨rfl, rfl⟩
 rintro a σ ⟨rfl, rfl⟩
 obtain ⟨g1, hg1, H⟩ := bindE H
 refine AWP_sr tok [] [2] (fun a σ => a = [(2, .bool g1)] ∧ σ = hp E0 [] (N0 + 8)) (fun K hK => ?_) ?_
 ·
  simp -dsimp -implicitDefEqProofs (maxDischargeDepth := 6)
  cases hbg1 : ige p0 (-2147483648)
  ·
   replace hg1 := ifF hbg1 hg1
   replace hg1 := Option.some.inj hg1; subst hg1
   try simp -dsimp -implicitDefEqProofs (maxDischargeDepth := 6) [hbg1]
   exact hK _ _ ⟨rfl, rfl⟩
  ·
   replace hg1 := ifT hbg1 hg1
   replace hg1 := Option.some.inj hg1; subst hg1
   try simp -dsimp -implicitDefEqProofs (maxDischargeDepth := 6) [hbg1]
   exact hK _ _ ⟨rfl, rfl⟩
 rintro a σ ⟨rfl, rfl⟩
 replace H := Option.some.inj H; subst H
 refine AWP_kp [2] [(2, .bool g1)] rfl ?_
 refine AWP_ret ?_
 exact ⟨[.bool g1], by simp, 4, by simp [encL_nil]⟩
theorem c90 {p0 : Int} {r : Int} (H : i_Unsigned p0 = some r) : APure Tryd.prog G 90 [.int .i64 p0] (.int .i64 r) := by
 refine APure_fn (fun N0 => ?_) (by simp)
 refine ACalls_fn tok Tryd.func90 (by kernel_rfl) rfl Tryd.ntmps90 Tryd.results90 rfl ?_
 simp only [argsA, Nat.reduceAdd, hp_next]
 unfold i_Unsigned at H
 refine AWP_sr tok [] [0] (fun a σ => a = [(0, .int .i64 p0)] ∧ σ = hp E0 [] (N0 + 1)) (fun K hK => ?_) ?_
 ·
  simp -dsimp -implicitDefEqProofs (maxDischargeDepth := 6)
  exact hK _ _ ⟨rfl, rfl⟩
 rintro a σ ⟨rfl, rfl⟩
 refine AWP_sq [0] fun K1 hK1 => ?_
 obtain ⟨r1, hr1, H⟩ := bindE H
 refine AWP_sr tok [] [0, 5] (fun a σ => a = [(0, .int .i64 p0), (5, .bool (bnot r1))] ∧ σ = hp E0 [] (N0 + 4)) (fun K hK => ?_) ?_
 ·
  simp -dsimp -implicitDefEqProofs (maxDischargeDepth := 6)
  refine (c55 hr1).app ?_; try simp -dsimp -implicitDefEqProofs (maxDischargeDepth := 6)
  exact hK _ _ ⟨rfl, rfl⟩
 rintro a σ ⟨rfl, rfl⟩
 refine AWP_cond (bnot r1) rfl (fun C1 => ?_) (fun C1 => ?_)
 ·
  replace H := ifT C1 H
  refine AWP_sr tok [] [2] (fun a σ => a = [(2, .int .i64 (-1))] ∧ σ = hp E0 [] (N0 + 5)) (fun K hK => ?_) ?_
  ·
   simp -dsimp -implicitDefEqProofs (maxDischargeDepth := 6)
   exact hK _ _ ⟨rfl, rfl⟩
  rintro a σ ⟨rfl, rfl⟩
  replace H := Option.some.inj H; subst H
  refine AWP_kp [2] [(2, .int .i64 (-1))] rfl ?_
  refine AWP_ret ?_
  exact ⟨[.int .i64 (-1)], by simp, 4, by simp [encL_nil]⟩
 ·
  replace H := ifF C1 H
  refine AWP_skip ?_
  show K1 _ _
  refine keepE (l := [0]) (x := [(0, .int .i64 p0)]) rfl fun a' ha => ?_
  refine hK1 _ _ ?_; rw [ha]
  refine Rc.mk ?_
  refine AWP_sr tok [] [2] (fun a σ => a = [(2, .int .i64 (iconv .i64 (iconv .u32 p0)))] ∧ σ = hp E0 [] (N0 + 8)) (fun K hK => ?_) ?_
  ·
   simp -dsimp -implicitDefEqProofs (maxDischargeDepth := 6)
   exact hK _ _ ⟨rfl, rfl⟩
  rintro a σ ⟨rfl, rfl⟩
  replace H := Option.some.inj H; subst H
  refine AWP_kp [2] [(2, .int .i64 (iconv .i64 (iconv .u32 p0)))] rfl ?_
  refine AWP_ret ?_
  exact ⟨[.int .i64 (iconv .i64 (iconv .u32 p0))], by simp, 4, by simp [encL_nil]⟩
theorem c112 {p0 : Int} {r : Bool} (H : i_isUnsigned p0 = some r) : APure Tryd.prog G 112 [.int .i64 p0] (.bool r) := by
 refine APure_fn (fun N0 => ?_) (by simp)
 refine ACalls_fn tok Tryd.func112 (by kernel_rfl) rfl Tryd.ntmps112 Tryd.results112 rfl ?_
 simp only [argsA, Nat.reduceAdd, hp_next]
 unfold i_isUnsigned at H
 refine AWP_sr tok [] [0] (fun a σ => a = [(0, .int .i64 p0)] ∧ σ = hp E0 [] (N0 + 1)) (fun K hK => ?_) ?_
 ·
  simp -dsimp -implicitDefEqProofs (maxDischargeDepth := 6)
  exact hK _ _ ⟨rfl, rfl⟩
 rintro a σ ⟨rfl, rfl⟩
 obtain ⟨g1, hg1, H⟩ := bindE H
 refine AWP_sr tok [] [2] (fun a σ => a = [(2, .bool g1)] ∧ σ = hp E0 [] (N0 + 8)) (fun K hK => ?_) ?_
 ·
  simp -dsimp -implicitDefEqProofs (maxDischargeDepth := 6)
  cases hbg1 : ige p0 0
  ·
   replace hg1 := ifF hbg1 hg1
   replace hg1 := Option.some.inj hg1; subst hg1
   try simp -dsimp -implicitDefEqProofs (maxDischargeDepth := 6) [hbg1]
   exact hK _ _ ⟨rfl, rfl⟩
  ·
   replace hg1 := ifT hbg1 hg1
   replace hg1 := Option.some.inj hg1; subst hg1
   try simp -dsimp -implicitDefEqProofs (maxDischargeDepth := 6) [hbg1]
   exact hK _ _ ⟨rfl, rfl⟩
 rintro a σ ⟨rfl, rfl⟩
 replace H := Option.some.inj H; subst H
 refine AWP_kp [2] [(2, .bool g1)] rfl ?_
 refine AWP_ret ?_
 exact ⟨[.bool g1], by simp, 4, by simp [encL_nil]⟩
theorem c92 {p0 : Int} {p1 : Int} {p2 : Int} {r : Int} (H : i_Bits p0 p1 p2 = some r) : APure Tryd.prog G 92 [.int .i64 p0, .int .i64 p1, .int .i64 p2] (.int .i64 r) := by
 refine APure_fn (fun N0 => ?_) (by simp)
 refine ACalls_fn tok Tryd.func92 (by kernel_rfl) rfl Tryd.ntmps92 Tryd.results92 rfl ?_
 simp only [argsA, Nat.reduceAdd, hp_next]
 unfold i_Bits at H
 refine AWP_sr tok [] [0, 1, 2] (fun a σ => a = [(0, .int .i64 p0), (1, .int .i64 p1), (2, .int .i64 p2)] ∧ σ = hp E0 [] (N0 + 1)) (fun K hK => ?_) ?_
 ·
  simp -dsimp -implicitDefEqProofs (maxDischargeDepth := 6)
  exact hK _ _ ⟨rfl, rfl⟩
 rintro a σ ⟨rfl, rfl⟩
 refine AWP_sq [0, 1, 2] fun K1 hK1 => ?_
 obtain ⟨r1, hr1, H⟩ := bindE H
 obtain ⟨g2, hg2, H⟩ := bindE H
 obtain ⟨g3, hg3, H⟩ := bindE H
 obtain ⟨g4, hg4, H⟩ := bindE H
 obtain ⟨g5, hg5, H⟩ := bindE H
 refine AWP_sr tok [] [0, 1, 2, 27] (fun a σ => a = [(0, .int .i64 p0), (1, .int .i64 p1), (2, .int .i64 p2), (27, .bool g5)] ∧ σ = hp E0 [] (N0 + 22)) (fun K hK => ?_) ?_
 ·
  simp -dsimp -implicitDefEqProofs (maxDischargeDepth := 6)
  refine (c112 hr1).app ?_; try simp -dsimp -implicitDefEqProofs (maxDischargeDepth := 6)
  cases hbg2 : bnot r1
  ·
   replace hg2 := ifF hbg2 hg2
   replace hg2 := Option.some.inj hg2; subst hg2
   try simp -dsimp -implicitDefEqProofs (maxDischargeDepth := 6) [hbg2]
   cases hbg3 : (ilt p1 0)
   ·
    replace hg3 := ifF hbg3 hg3
    replace hg3 := Option.some.inj hg3; subst hg3
    try simp -dsimp -implicitDefEqProofs (maxDischargeDepth := 6) [hbg2, hbg3]
    cases hbg4 : (igt p1 31)
    ·
     replace hg4 := ifF hbg4 hg4
     replace hg4 := Option.some.inj hg4; subst hg4
     try simp -dsimp -implicitDefEqProofs (maxDischargeDepth := 6) [hbg2, hbg3, hbg4]
     cases hbg5 : (ilt p2 1)
     ·
      replace hg5 := ifF hbg5 hg5
      replace hg5 := Option.some.inj hg5; subst hg5
      try simp -dsimp -implicitDefEqProofs (maxDischargeDepth := 6) [hbg2, hbg3, hbg4, hbg5]
      exact hK _ _ ⟨rfl, rfl⟩
     ·
      replace hg5 := ifT hbg5 hg5
      replace hg5 := Option.some.inj hg5; subst hg5
      try simp -dsimp -implicitDefEqProofs (maxDischargeDepth := 6) [hbg2, hbg3, hbg4, hbg5]
      exact hK _ _ ⟨rfl, rfl⟩
    ·
     replace hg4 := ifT hbg4 hg4
     replace hg4 := Option.some.inj hg4; subst hg4
     try simp -dsimp -implicitDefEqProofs (maxDischargeDepth := 6) [hbg2, hbg3, hbg4]
     replace hg5 := ifT rfl hg5
     replace hg5 := Option.some.inj hg5; subst hg5
     try simp -dsimp -implicitDefEqProofs (maxDischargeDepth := 6) [hbg2, hbg3, hbg4]
     exact hK _ _ ⟨rfl, rfl⟩
   ·
    replace hg3 := ifT hbg3 hg3
    replace hg3 := Option.some.inj hg3; subst hg3
    try simp -dsimp -implicitDefEqProofs (maxDischargeDepth := 6) [hbg2, hbg3]
    replace hg4 := ifT rfl hg4
    replace hg4 := Option.some.inj hg4; subst hg4
    try simp -dsimp -implicitDefEqProofs (maxDischargeDepth := 6) [hbg2, hbg3]
    replace hg5 := ifT rfl hg5
    replace hg5 := Option.some.inj hg5; subst hg5
    try simp -dsimp -implicitDefEqProofs (maxDischargeDepth := 6) [hbg2, hbg3]
    exact hK _ _ ⟨rfl, rfl⟩
  ·
   replace hg2 := ifT hbg2 hg2
   replace hg2 := Option.some.inj hg2; subst hg2
   try simp -dsimp -implicitDefEqProofs (maxDischargeDepth := 6) [hbg2]
   replace hg3 := ifT rfl hg3
   replace hg3 := Option.some.inj hg3; subst hg3
   try simp -dsimp -implicitDefEqProofs (maxDischargeDepth := 6) [hbg2]
   replace hg4 := ifT rfl hg4
   replace hg4 := Option.some.inj hg4; subst hg4
   try simp -dsimp -implicitDefEqProofs (maxDischargeDepth := 6) [hbg2]
   replace hg5 := ifT rfl hg5
   replace hg5 := Option.some.inj hg5; subst hg5
   try simp -dsimp -implicitDefEqProofs (maxDischargeDepth := 6) [hbg2]
   exact hK _ _ ⟨rfl, rfl⟩
 rintro a σ ⟨rfl, rfl⟩
 refine AWP_cond g5 rfl (fun C1 => ?_) (fun C1 => ?_)
 ·
  replace H := ifT C1 H
  refine AWP_sr tok [] [6] (fun a σ => a = [(6, .int .i64 0)] ∧ σ = hp E0 [] (N0 + 23)) (fun K hK => ?_) ?_
  ·
   simp -dsimp -implicitDefEqProofs (maxDischargeDepth := 6)
   exact hK _ _ ⟨rfl, rfl⟩
  rintro a σ ⟨rfl, rfl⟩
  replace H := Option.some.inj H; subst H
  refine AWP_kp [6] [(6, .int .i64 0)] rfl ?_
  refine AWP_ret ?_
  exact ⟨[.int .i64 0], by simp, 4, by simp [encL_nil]⟩
 ·
  replace H := ifF C1 H
  refine AWP_skip ?_
  show K1 _ _
  refine keepE (l := [0, 1, 2]) (x := [(0, .int .i64 p0), (1, .int .i64 p1), (2, .int .i64 p2)]) rfl fun a' ha => ?_
  refine hK1 _ _ ?_; rw [ha]
  refine Rc.mk ?_
  obtain ⟨v6, hv6, H⟩ := bindE H
  obtain ⟨v7, hv7, H⟩ := bindE H
  refine AWP_sd tok tokM [] [] [0, 1, 2, 3, 4, 5, 6, 7] [6] (fun a σ => a = [(6, .int .i64 (iand .i64 v6 (isub .i64 v7 1)))] ∧ σ = hp E0 [] (N0 + 30)) (by decide) (fun K hK => ?_) ?_
  ·
   simp only [pickL, nthO_succ, nthO_zero]
   simp -dsimp -implicitDefEqProofs (maxDischargeDepth := 6) [hv6, hv7]
   exact hK _ _ ⟨rfl, rfl⟩
  rintro a σ ⟨rfl, rfl⟩
  replace H := Option.some.inj H; subst H
  refine AWP_kp [6] [(6, .int .i64 (iand .i64 v6 (isub .i64 v7 1)))] rfl ?_
  refine AWP_ret ?_
  exact ⟨[.int .i64 (iand .i64 v6 (isub .i64 v7 1))], by simp, 4, by simp [encL_nil]⟩
theorem c91 {p0 : Int} {p1 : Int} {p2 : Int} {pf0 : Int} {r : Int} (H : i_InstrEncode_1 p0 p1 p2 pf0 = some r) : APure Tryd.prog G 91 [.int .i64 p0, .int .i64 p1, .int .i64 p2, .fptr [.int .i64 pf0] 0] (.int .i64 r) := by
 refine APure_fn (fun N0 => ?_) (by simp)
 refine ACalls_fn tok Tryd.func91 (by kernel_rfl) rfl Tryd.ntmps91 Tryd.results91 rfl ?_
 simp only [argsA, Nat.reduceAdd, hp_next]
 unfold i_InstrEncode_1 at H
 refine AWP_sr tok [] [0, 1, 2, 3] (fun a σ => a = [(0, .int .i64 p0), (1, .int .i64 p1), (2, .int .i64 p2), (3, .fptr [.int .i64 pf0] 0)] ∧ σ = hp E0 [] (N0 + 1)) (fun K hK => ?_) ?_
 ·
  simp -dsimp -implicitDefEqProofs (maxDischargeDepth := 6)
  exact hK _ _ ⟨rfl, rfl⟩
 rintro a σ ⟨rfl, rfl⟩
 obtain ⟨r1, hr1, H⟩ := bindE H
 obtain ⟨v2, hv2, H⟩ := bindE H
 refine AWP_sr tok [] [7] (fun a σ => a = [(7, .int .i64 v2)] ∧ σ = hp E0 [] (N0 + 8)) (fun K hK => ?_) ?_
 ·
  simp -dsimp -implicitDefEqProofs (maxDischargeDepth := 6) [hv2]
  refine (c92 hr1).app ?_; try simp -dsimp -implicitDefEqProofs (maxDischargeDepth := 6) [hv2]
  exact hK _ _ ⟨rfl, rfl⟩
 rintro a σ ⟨rfl, rfl⟩
 replace H := Option.some.inj H; subst H
 refine AWP_kp [7] [(7, .int .i64 v2)] rfl ?_
 refine AWP_ret ?_
 exact ⟨[.int .i64 v2], by simp, 4, by simp [encL_nil]⟩
theorem c50 {p0 : gInstr} {r : Int × Bool} (H : i_InstrEncode p0 = some r) : APure Tryd.prog G 50 [.agg [.int .i64 p0.Op, .int .i64 p0.Rd, .int .i64 p0.Rs, .int .i64 p0.Rt, .int .i64 p0.Imm]] (.tup [.int .i64 r.1, .bool r.2]) := by
 refine APure_fn (fun N0 => ?_) (by simp)
 refine ACalls_fn tok Tryd.func50 (by kernel_rfl) rfl Tryd.ntmps50 Tryd.results50 rfl ?_
 simp only [argsA, Nat.reduceAdd, hp_next]
 unfold i_InstrEncode at H
 refine AWP_sr tok [0] [1] (fun a σ => a = [(1, .fptr [.int .i64 p0.Op, .int .i64 p0.Rd, .int .i64 p0.Rs, .int .i64 p0.Rt, .int .i64 p0.Imm] 0)] ∧ σ = hp E0 [] (N0 + 3)) (fun K hK => ?_) ?_
 ·
  simp -dsimp -implicitDefEqProofs (maxDischargeDepth := 6)
  exact hK _ _ ⟨rfl, rfl⟩
 rintro a σ ⟨rfl, rfl⟩
 refine AWP_sq [1] fun K1 hK1 => ?_
 obtain ⟨r1, hr1, H⟩ := bindE H
 refine AWP_sr tok [] [1, 10] (fun a σ => a = [(1, .fptr [.int .i64 p0.Op, .int .i64 p0.Rd, .int .i64 p0.Rs, .int .i64 p0.Rt, .int .i64 p0.Imm] 0), (10, .bool (bnot r1))] ∧ σ = hp E0 [] (N0 + 6)) (fun K hK => ?_) ?_
 ·
  simp -dsimp -implicitDefEqProofs (maxDischargeDepth := 6)
  refine (c89 hr1).app ?_; try simp -dsimp -implicitDefEqProofs (maxDischargeDepth := 6)
  exact hK _ _ ⟨rfl, rfl⟩
 rintro a σ ⟨rfl, rfl⟩
 refine AWP_cond (bnot r1) rfl (fun C1 => ?_) (fun C1 => ?_)
 ·
  replace H := ifT C1 H
  refine AWP_sr tok [] [2, 3] (fun a σ => a = [(2, .int .i64 0), (3, .bool false)] ∧ σ = hp E0 [] (N0 + 8)) (fun K hK => ?_) ?_
  ·
   simp -dsimp -implicitDefEqProofs (maxDischargeDepth := 6)
   exact hK _ _ ⟨rfl, rfl⟩
  rintro a σ ⟨rfl, rfl⟩
  replace H := Option.some.inj H; subst H
  refine AWP_kp [2, 3] [(2, .int .i64 0), (3, .bool false)] rfl ?_
  refine AWP_ret ?_
  exact ⟨[.int .i64 0, .bool false], by simp, 4, by simp [encL_nil]⟩
 ·
  replace H := ifF C1 H
  refine AWP_skip ?_
  show K1 _ _
  refine keepE (l := [1]) (x := [(1, .fptr [.int .i64 p0.Op, .int .i64 p0.Rd, .int .i64 p0.Rs, .int .i64 p0.Rt, .int .i64 p0.Imm] 0)]) rfl fun a' ha => ?_
  refine hK1 _ _ ?_; rw [ha]
  refine Rc.mk ?_
  obtain ⟨v2, hv2, H⟩ := bindE H
  refine AWP_sr tok [] [1, 4] (fun a σ => a = [(1, .fptr [.int .i64 p0.Op, .int .i64 p0.Rd, .int .i64 p0.Rs, .int .i64 p0.Rt, .int .i64 p0.Imm] 0), (4, .ptr (N0 + 11) 0 0)] ∧ σ = hp E0 [(N0 + 11, some ⟨118, 4, [[.str v2.name, .int .i64 v2.opcode, .int .i64 v2.funct3, .int .i64 v2.funct7]]⟩)] (N0 + 13)) (fun K hK => ?_) ?_
  ·
   simp -dsimp -implicitDefEqProofs (maxDischargeDepth := 6) [gx119 hv2]
   exact hK _ _ ⟨rfl, rfl⟩
  rintro a σ ⟨rfl, rfl⟩
  obtain ⟨r3, hr3, H⟩ := bindE H
  refine AWP_sr tok [] [1, 4, 5] (fun a σ => a = [(1, .fptr [.int .i64 p0.Op, .int .i64 p0.Rd, .int .i64 p0.Rs, .int .i64 p0.Rt, .int .i64 p0.Imm] 0), (4, .ptr (N0 + 11) 0 0), (5, .ptr (N0 + 16) 0 0)] ∧ σ = hp E0 [(N0 + 11, some ⟨118, 4, [[.str v2.name, .int .i64 v2.opcode, .int .i64 v2.funct3, .int .i64 v2.funct7]]⟩), (N0 + 16, some ⟨3, 1, [[.int .i64 r3]]⟩)] (N0 + 18)) (fun K hK => ?_) ?_
  ·
   simp -dsimp -implicitDefEqProofs (maxDischargeDepth := 6)
   refine (c90 hr3).app ?_; try simp -dsimp -implicitDefEqProofs (maxDischargeDepth := 6)
   exact hK _ _ ⟨rfl, rfl⟩
  rintro a σ ⟨rfl, rfl⟩
  refine AWP_sr tok [] [1, 4, 6] (fun a σ => a = [(1, .fptr [.int .i64 p0.Op, .int .i64 p0.Rd, .int .i64 p0.Rs, .int .i64 p0.Rt, .int .i64 p0.Imm] 0), (4, .ptr (N0 + 11) 0 0), (6, .clo 91 [] [.ptr (N0 + 16) 0 0])] ∧ σ = hp E0 [(N0 + 11, some ⟨118, 4, [[.str v2.name, .int .i64 v2.opcode, .int .i64 v2.funct3, .int .i64 v2.funct7]]⟩), (N0 + 16, some ⟨3, 1, [[.int .i64 r3]]⟩)] (N0 + 20)) (fun K hK => ?_) ?_
  ·
   simp -dsimp -implicitDefEqProofs (maxDischargeDepth := 6)
   exact hK _ _ ⟨rfl, rfl⟩
  rintro a σ ⟨rfl, rfl⟩
  obtain ⟨v4, hv4, H⟩ := bindE H
  obtain ⟨v5, hv5, H⟩ := bindE H
  obtain ⟨v6, hv6, H⟩ := bindE H
  refine AWP_sr tok [] [1, 4, 6, 7] (fun a σ => a = [(1, .fptr [.int .i64 p0.Op, .int .i64 p0.Rd, .int .i64 p0.Rs, .int .i64 p0.Rt, .int .i64 p0.Imm] 0), (4, .ptr (N0 + 11) 0 0), (6, .clo 91 [] [.ptr (N0 + 16) 0 0]), (7, .int .i64 (ior .i64 (ior .i64 (ior .i64 v4 v5) v6) v2.opcode))] ∧ σ = hp E0 [(N0 + 11, some ⟨118, 4, [[.str v2.name, .int .i64 v2.opcode, .int .i64 v2.funct3, .int .i64 v2.funct7]]⟩), (N0 + 16, some ⟨3, 1, [[.int .i64 r3]]⟩)] (N0 + 35)) (fun K hK => ?_) ?_
  ·
   simp -dsimp -implicitDefEqProofs (maxDischargeDepth := 6) [hv4, hv5, hv6]
   exact hK _ _ ⟨rfl, rfl⟩
  rintro a σ ⟨rfl, rfl⟩
  refine AWP_sq [4] fun K2 hK2 => ?_
  obtain ⟨r7, hr7, H⟩ := bindE H
  refine AWP_sr tok [] [1, 4, 6, 7, 36] (fun a σ => a = [(1, .fptr [.int .i64 p0.Op, .int .i64 p0.Rd, .int .i64 p0.Rs, .int .i64 p0.Rt, .int .i64 p0.Imm] 0), (4, .ptr (N0 + 11) 0 0), (6, .clo 91 [] [.ptr (N0 + 16) 0 0]), (7, .int .i64 (ior .i64 (ior .i64 (ior .i64 v4 v5) v6) v2.opcode)), (36, .int .u8 r7)] ∧ σ = hp E0 [(N0 + 11, some ⟨118, 4, [[.str v2.name, .int .i64 v2.opcode, .int .i64 v2.funct3, .int .i64 v2.funct7]]⟩), (N0 + 16, some ⟨3, 1, [[.int .i64 r3]]⟩)] (N0 + 38)) (fun K hK => ?_) ?_
  ·
   simp -dsimp -implicitDefEqProofs (maxDischargeDepth := 6)
   refine (c93 hr7).app ?_; try simp -dsimp -implicitDefEqProofs (maxDischargeDepth := 6)
   exact hK _ _ ⟨rfl, rfl⟩
  rintro a σ ⟨rfl, rfl⟩
  refine AWP_block (AWP_thenB ?_)
  refine AWP_sr tok [] [1, 4, 6, 7, 36, 37] (fun a σ => a = [(1, .fptr [.int .i64 p0.Op, .int .i64 p0.Rd, .int .i64 p0.Rs, .int .i64 p0.Rt, .int .i64 p0.Imm] 0), (4, .ptr (N0 + 11) 0 0), (6, .clo 91 [] [.ptr (N0 + 16) 0 0]), (7, .int .i64 (ior .i64 (ior .i64 (ior .i64 v4 v5) v6) v2.opcode)), (36, .int .u8 r7), (37, .bool (ieq r7 82))] ∧ σ = hp E0 [(N0 + 11, some ⟨118, 4, [[.str v2.name, .int .i64 v2.opcode, .int .i64 v2.funct3, .int .i64 v2.funct7]]⟩), (N0 + 16, some ⟨3, 1, [[.int .i64 r3]]⟩)] (N0 + 40)) (fun K hK => ?_) ?_
  ·
   simp -dsimp -implicitDefEqProofs (maxDischargeDepth := 6)
   exact hK _ _ ⟨rfl, rfl⟩
  rintro a σ ⟨rfl, rfl⟩
  refine AWP_cond (ieq r7 82) rfl (fun C2 => ?_) (fun C2 => ?_)
  ·
   replace H := ifT C2 H
   obtain ⟨v8, hv8, H⟩ := bindE H
   obtain ⟨v9, hv9, H⟩ := bindE H
   refine AWP_sr tok [] [2, 3] (fun a σ => a = [(2, .int .i64 (ior .i64 (ior .i64 v8 (ior .i64 (ior .i64 (ior .i64 v4 v5) v6) v2.opcode)) v9)), (3, .bool true)] ∧ σ = hp E0 [(N0 + 11, some ⟨118, 4, [[.str v2.name, .int .i64 v2.opcode, .int .i64 v2.funct3, .int .i64 v2.funct7]]⟩), (N0 + 16, some ⟨3, 1, [[.int .i64 r3]]⟩)] (N0 + 51)) (fun K hK => ?_) ?_
   ·
    simp -dsimp -implicitDefEqProofs (maxDischargeDepth := 6) [hv8, hv9]
    exact hK _ _ ⟨rfl, rfl⟩
   rintro a σ ⟨rfl, rfl⟩
   replace H := Option.some.inj H; subst H
   refine AWP_kp [2, 3] [(2, .int .i64 (ior .i64 (ior .i64 v8 (ior .i64 (ior .i64 (ior .i64 v4 v5) v6) v2.opcode)) v9)), (3, .bool true)] rfl ?_
   refine AWP_ret ?_
   exact ⟨[.int .i64 (ior .i64 (ior .i64 v8 (ior .i64 (ior .i64 (ior .i64 v4 v5) v6) v2.opcode)) v9), .bool true], by simp, 4, by simp [encL_nil]⟩
  ·
   replace H := ifF C2 H
   refine AWP_sr tok [] [1, 4, 6, 7, 36, 48] (fun a σ => a = [(1, .fptr [.int .i64 p0.Op, .int .i64 p0.Rd, .int .i64 p0.Rs, .int .i64 p0.Rt, .int .i64 p0.Imm] 0), (4, .ptr (N0 + 11) 0 0), (6, .clo 91 [] [.ptr (N0 + 16) 0 0]), (7, .int .i64 (ior .i64 (ior .i64 (ior .i64 v4 v5) v6) v2.opcode)), (36, .int .u8 r7), (48, .bool (ieq r7 73))] ∧ σ = hp E0 [(N0 + 11, some ⟨118, 4, [[.str v2.name, .int .i64 v2.opcode, .int .i64 v2.funct3, .int .i64 v2.funct7]]⟩), (N0 + 16, some ⟨3, 1, [[.int .i64 r3]]⟩)] (N0 + 42)) (fun K hK => ?_) ?_
   ·
    simp -dsimp -implicitDefEqProofs (maxDischargeDepth := 6)
    exact hK _ _ ⟨rfl, rfl⟩
   rintro a σ ⟨rfl, rfl⟩
   refine AWP_cond (ieq r7 73) rfl (fun C3 => ?_) (fun C3 => ?_)
   ·
    replace H := ifT C3 H
    obtain ⟨v10, hv10, H⟩ := bindE H
    obtain ⟨r11, hr11, H⟩ := bindE H
    refine AWP_sd tok tokM [] [1] [0, 2, 4, 5, 6, 1, 3, 7, 8, 9] [2, 3] (fun a σ => a = [(2, .int .i64 (ior .i64 (ior .i64 r11 (ior .i64 (ior .i64 (ior .i64 v4 v5) v6) v2.opcode)) v10)), (3, .bool true)] ∧ σ = hp E0 [(N0 + 11, some ⟨118, 4, [[.str v2.name, .int .i64 v2.opcode, .int .i64 v2.funct3, .int .i64 v2.funct7]]⟩), (N0 + 16, some ⟨3, 1, [[.int .i64 r3]]⟩)] (N0 + 52)) (by decide) (fun K hK => ?_) ?_
    ·
     simp only [pickL, nthO_succ, nthO_zero]
     simp -dsimp -implicitDefEqProofs (maxDischargeDepth := 6) [hv10]
     refine (borrow 8 (c91 hr11) (by simp [hv10]) rfl).mono ?_; rintro _ _ ⟨rfl, rfl⟩; try simp -dsimp -implicitDefEqProofs (maxDischargeDepth := 6) [hv10]
     exact hK _ _ ⟨rfl, rfl⟩
    rintro a σ ⟨rfl, rfl⟩
    replace H := Option.some.inj H; subst H
    refine AWP_kp [2, 3] [(2, .int .i64 (ior .i64 (ior .i64 r11 (ior .i64 (ior .i64 (ior .i64 v4 v5) v6) v2.opcode)) v10)), (3, .bool true)] rfl ?_
    refine AWP_ret ?_
    exact ⟨[.int .i64 (ior .i64 (ior .i64 r11 (ior .i64 (ior .i64 (ior .i64 v4 v5) v6) v2.opcode)) v10), .bool true], by simp, 4, by simp [encL_nil]⟩
   ·
    replace H := ifF C3 H
    refine AWP_sr tok [] [1, 4, 6, 7, 36, 58] (fun a σ => a = [(1, .fptr [.int .i64 p0.Op, .int .i64 p0.Rd, .int .i64 p0.Rs, .int .i64 p0.Rt, .int .i64 p0.Imm] 0), (4, .ptr (N0 + 11) 0 0), (6, .clo 91 [] [.ptr (N0 + 16) 0 0]), (7, .int .i64 (ior .i64 (ior .i64 (ior .i64 v4 v5) v6) v2.opcode)), (36, .int .u8 r7), (58, .bool (ieq r7 83))] ∧ σ = hp E0 [(N0 + 11, some ⟨118, 4, [[.str v2.name, .int .i64 v2.opcode, .int .i64 v2.funct3, .int .i64 v2.funct7]]⟩), (N0 + 16, some ⟨3, 1, [[.int .i64 r3]]⟩)] (N0 + 44)) (fun K hK => ?_) ?_
    ·
     simp -dsimp -implicitDefEqProofs (maxDischargeDepth := 6)
     exact hK _ _ ⟨rfl, rfl⟩
    rintro a σ ⟨rfl, rfl⟩
    refine AWP_cond (ieq r7 83) rfl (fun C4 => ?_) (fun C4 => ?_)
    ·
     replace H := ifT C4 H
     obtain ⟨r12, hr12, H⟩ := bindE H
     obtain ⟨r13, hr13, H⟩ := bindE H
     refine AWP_sr tok [] [2, 3] (fun a σ => a = [(2, .int .i64 (ior .i64 (ior .i64 r12 (ior .i64 (ior .i64 (ior .i64 v4 v5) v6) v2.opcode)) r13)), (3, .bool true)] ∧ σ = hp E0 [(N0 + 11, some ⟨118, 4, [[.str v2.name, .int .i64 v2.opcode, .int .i64 v2.funct3, .int .i64 v2.funct7]]⟩), (N0 + 16, some ⟨3, 1, [[.int .i64 r3]]⟩)] (N0 + 53)) (fun K hK => ?_) ?_
     ·
      simp -dsimp -implicitDefEqProofs (maxDischargeDepth := 6)
      refine (borrow 8 (c91 hr12) (by simp []) rfl).mono ?_; rintro _ _ ⟨rfl, rfl⟩; try simp -dsimp -implicitDefEqProofs (maxDischargeDepth := 6)
      refine (borrow 8 (c91 hr13) (by simp []) rfl).mono ?_; rintro _ _ ⟨rfl, rfl⟩; try simp -dsimp -implicitDefEqProofs (maxDischargeDepth := 6)
      exact hK _ _ ⟨rfl, rfl⟩
     rintro a σ ⟨rfl, rfl⟩
     replace H := Option.some.inj H; subst H
     refine AWP_kp [2, 3] [(2, .int .i64 (ior .i64 (ior .i64 r12 (ior .i64 (ior .i64 (ior .i64 v4 v5) v6) v2.opcode)) r13)), (3, .bool true)] rfl ?_
     refine AWP_ret ?_
     exact ⟨[.int .i64 (ior .i64 (ior .i64 r12 (ior .i64 (ior .i64 (ior .i64 v4 v5) v6) v2.opcode)) r13), .bool true], by simp, 4, by simp [encL_nil]⟩
    ·
     replace H := ifF C4 H
     refine AWP_sr tok [] [1, 4, 6, 7, 36, 67] (fun a σ => a = [(1, .fptr [.int .i64 p0.Op, .int .i64 p0.Rd, .int .i64 p0.Rs, .int .i64 p0.Rt, .int .i64 p0.Imm] 0), (4, .ptr (N0 + 11) 0 0), (6, .clo 91 [] [.ptr (N0 + 16) 0 0]), (7, .int .i64 (ior .i64 (ior .i64 (ior .i64 v4 v5) v6) v2.opcode)), (36, .int .u8 r7), (67, .bool (ieq r7 66))] ∧ σ = hp E0 [(N0 + 11, some ⟨118, 4, [[.str v2.name, .int .i64 v2.opcode, .int .i64 v2.funct3, .int .i64 v2.funct7]]⟩), (N0 + 16, some ⟨3, 1, [[.int .i64 r3]]⟩)] (N0 + 46)) (fun K hK => ?_) ?_
     ·
      simp -dsimp -implicitDefEqProofs (maxDischargeDepth := 6)
      exact hK _ _ ⟨rfl, rfl⟩
     rintro a σ ⟨rfl, rfl⟩
     refine AWP_cond (ieq r7 66) rfl (fun C5 => ?_) (fun C5 => ?_)
     ·
      replace H := ifT C5 H
      obtain ⟨r14, hr14, H⟩ := bindE H
      obtain ⟨r15, hr15, H⟩ := bindE H
      obtain ⟨r16, hr16, H⟩ := bindE H
      obtain ⟨r17, hr17, H⟩ := bindE H
      refine AWP_sr tok [] [2, 3] (fun a σ => a = [(2, .int .i64 (ior .i64 (ior .i64 (ior .i64 (ior .i64 r14 r15) (ior .i64 (ior .i64 (ior .i64 v4 v5) v6) v2.opcode)) r16) r17)), (3, .bool true)] ∧ σ = hp E0 [(N0 + 11, some ⟨118, 4, [[.str v2.name, .int .i64 v2.opcode, .int .i64 v2.funct3, .int .i64 v2.funct7]]⟩), (N0 + 16, some ⟨3, 1, [[.int .i64 r3]]⟩)] (N0 + 61)) (fun K hK => ?_) ?_
      ·
       simp -dsimp -implicitDefEqProofs (maxDischargeDepth := 6)
       refine (borrow 8 (c91 hr14) (by simp []) rfl).mono ?_; rintro _ _ ⟨rfl, rfl⟩; try simp -dsimp -implicitDefEqProofs (maxDischargeDepth := 6)
       refine (borrow 8 (c91 hr15) (by simp []) rfl).mono ?_; rintro _ _ ⟨rfl, rfl⟩; try simp -dsimp -implicitDefEqProofs (maxDischargeDepth := 6)
       refine (borrow 8 (c91 hr16) (by simp []) rfl).mono ?_; rintro _ _ ⟨rfl, rfl⟩; try simp -dsimp -implicitDefEqProofs (maxDischargeDepth := 6)
       refine (borrow 8 (c91 hr17) (by simp []) rfl).mono ?_; rintro _ _ ⟨rfl, rfl⟩; try simp -dsimp -implicitDefEqProofs (maxDischargeDepth := 6)
       exact hK _ _ ⟨rfl, rfl⟩
      rintro a σ ⟨rfl, rfl⟩
      replace H := Option.some.inj H; subst H
      refine AWP_kp [2, 3] [(2, .int .i64 (ior .i64 (ior .i64 (ior .i64 (ior .i64 r14 r15) (ior .i64 (ior .i64 (ior .i64 v4 v5) v6) v2.opcode)) r16) r17)), (3, .bool true)] rfl ?_
      refine AWP_ret ?_
      exact ⟨[.int .i64 (ior .i64 (ior .i64 (ior .i64 (ior .i64 r14 r15) (ior .i64 (ior .i64 (ior .i64 v4 v5) v6) v2.opcode)) r16) r17), .bool true], by simp, 4, by simp [encL_nil]⟩
     ·
      replace H := ifF C5 H
      refine AWP_sr tok [] [1, 4, 6, 36, 82] (fun a σ => a = [(1, .fptr [.int .i64 p0.Op, .int .i64 p0.Rd, .int .i64 p0.Rs, .int .i64 p0.Rt, .int .i64 p0.Imm] 0), (4, .ptr (N0 + 11) 0 0), (6, .clo 91 [] [.ptr (N0 + 16) 0 0]), (36, .int .u8 r7), (82, .bool (ieq r7 85))] ∧ σ = hp E0 [(N0 + 11, some ⟨118, 4, [[.str v2.name, .int .i64 v2.opcode, .int .i64 v2.funct3, .int .i64 v2.funct7]]⟩), (N0 + 16, some ⟨3, 1, [[.int .i64 r3]]⟩)] (N0 + 48)) (fun K hK => ?_) ?_
      ·
       simp -dsimp -implicitDefEqProofs (maxDischargeDepth := 6)
       exact hK _ _ ⟨rfl, rfl⟩
      rintro a σ ⟨rfl, rfl⟩
      refine AWP_cond (ieq r7 85) rfl (fun C6 => ?_) (fun C6 => ?_)
      ·
       replace H := ifT C6 H
       obtain ⟨v18, hv18, H⟩ := bindE H
       obtain ⟨r19, hr19, H⟩ := bindE H
       refine AWP_sy tok tokM [] [1, 5, 7] [0, 2, 3, 4, 6, 7, 1, 5, 8, 9, 10] [(1, [7])] [2, 3] (fun a σ => a = [(2, .int .i64 (ior .i64 (ior .i64 r19 v18) v2.opcode)), (3, .bool true)] ∧ σ = hp E0 [(N0 + 11, some ⟨118, 4, [[.str v2.name, .int .i64 v2.opcode, .int .i64 v2.funct3, .int .i64 v2.funct7]]⟩), (N0 + 16, some ⟨3, 1, [[.int .i64 r3]]⟩)] (N0 + 59)) (by decide) (fun K hK => ?_) ?_
       ·
        simp only [pickL, nthO_succ, nthO_zero]
        simp -dsimp -implicitDefEqProofs (maxDischargeDepth := 6) [hv18]
        refine (borrow 8 (c91 hr19) (by simp [hv18]) rfl).mono ?_; rintro _ _ ⟨rfl, rfl⟩; try simp -dsimp -implicitDefEqProofs (maxDischargeDepth := 6) [hv18]
        exact hK _ _ ⟨rfl, rfl⟩
       rintro a σ ⟨rfl, rfl⟩
       replace H := Option.some.inj H; subst H
       refine AWP_kp [2, 3] [(2, .int .i64 (ior .i64 (ior .i64 r19 v18) v2.opcode)), (3, .bool true)] rfl ?_
       refine AWP_ret ?_
       exact ⟨[.int .i64 (ior .i64 (ior .i64 r19 v18) v2.opcode), .bool true], by simp, 4, by simp [encL_nil]⟩
      ·
       replace H := ifF C6 H
       refine AWP_sr tok [] [1, 4, 6, 93] (fun a σ => a = [(1, .fptr [.int .i64 p0.Op, .int .i64 p0.Rd, .int .i64 p0.Rs, .int .i64 p0.Rt, .int .i64 p0.Imm] 0), (4, .ptr (N0 + 11) 0 0), (6, .clo 91 [] [.ptr (N0 + 16) 0 0]), (93, .bool (ieq r7 74))] ∧ σ = hp E0 [(N0 + 11, some ⟨118, 4, [[.str v2.name, .int .i64 v2.opcode, .int .i64 v2.funct3, .int .i64 v2.funct7]]⟩), (N0 + 16, some ⟨3, 1, [[.int .i64 r3]]⟩)] (N0 + 50)) (fun K hK => ?_) ?_
       ·
        simp -dsimp -implicitDefEqProofs (maxDischargeDepth := 6)
        exact hK _ _ ⟨rfl, rfl⟩
       rintro a σ ⟨rfl, rfl⟩
       refine AWP_cond (ieq r7 74) rfl (fun C7 => ?_) (fun C7 => ?_)
       ·
        replace H := ifT C7 H
        obtain ⟨v20, hv20, H⟩ := bindE H
        obtain ⟨r21, hr21, H⟩ := bindE H
        obtain ⟨r22, hr22, H⟩ := bindE H
        obtain ⟨r23, hr23, H⟩ := bindE H
        obtain ⟨r24, hr24, H⟩ := bindE H
        refine AWP_sy tok tokM [] [1, 3, 4, 6, 7, 9, 10, 14, 16] [0, 2, 5, 8, 11, 12, 13, 15, 16, 1, 3, 4, 6, 7, 9, 10, 14, 17, 18, 19] [(1, [16]), (3, [16]), (6, [4, 16]), (9, [4, 7, 16])] [2, 3] (fun a σ => a = [(2, .int .i64 (ior .i64 (ior .i64 (ior .i64 (ior .i64 (ior .i64 r21 r22) r23) r24) v20) v2.opcode)), (3, .bool true)] ∧ σ = hp E0 [(N0 + 11, some ⟨118, 4, [[.str v2.name, .int .i64 v2.opcode, .int .i64 v2.funct3, .int .i64 v2.funct7]]⟩), (N0 + 16, some ⟨3, 1, [[.int .i64 r3]]⟩)] (N0 + 70)) (by decide) (fun K hK => ?_) ?_
        ·
         simp only [pickL, nthO_succ, nthO_zero]
         simp -dsimp -implicitDefEqProofs (maxDischargeDepth := 6) [hv20]
         refine (borrow 8 (c91 hr21) (by simp [hv20]) rfl).mono ?_; rintro _ _ ⟨rfl, rfl⟩; try simp -dsimp -implicitDefEqProofs (maxDischargeDepth := 6) [hv20]
         refine (borrow 8 (c91 hr22) (by simp [hv20]) rfl).mono ?_; rintro _ _ ⟨rfl, rfl⟩; try simp -dsimp -implicitDefEqProofs (maxDischargeDepth := 6) [hv20]
         refine (borrow 8 (c91 hr23) (by simp [hv20]) rfl).mono ?_; rintro _ _ ⟨rfl, rfl⟩; try simp -dsimp -implicitDefEqProofs (maxDischargeDepth := 6) [hv20]
         refine (borrow 8 (c91 hr24) (by simp [hv20]) rfl).mono ?_; rintro _ _ ⟨rfl, rfl⟩; try simp -dsimp -implicitDefEqProofs (maxDischargeDepth := 6) [hv20]
         exact hK _ _ ⟨rfl, rfl⟩
        rintro a σ ⟨rfl, rfl⟩
        replace H := Option.some.inj H; subst H
        refine AWP_kp [2, 3] [(2, .int .i64 (ior .i64 (ior .i64 (ior .i64 (ior .i64 (ior .i64 r21 r22) r23) r24) v20) v2.opcode)), (3, .bool true)] rfl ?_
        refine AWP_ret ?_
        exact ⟨[.int .i64 (ior .i64 (ior .i64 (ior .i64 (ior .i64 (ior .i64 r21 r22) r23) r24) v20) v2.opcode), .bool true], by simp, 4, by simp [encL_nil]⟩
       ·
        replace H := ifF C7 H
        refine AWP_skip ?_
        show K2 _ _
        refine keepE (l := [4]) (x := [(4, .ptr (N0 + 11) 0 0)]) rfl fun a' ha => ?_
        refine hK2 _ _ ?_; rw [ha]
        refine Rc.mk ?_
        refine AWP_sr tok [] [2, 3] (fun a σ => a = [(2, .int .i64 v2.opcode), (3, .bool true)] ∧ σ = hp E0 [(N0 + 11, some ⟨118, 4, [[.str v2.name, .int .i64 v2.opcode, .int .i64 v2.funct3, .int .i64 v2.funct7]]⟩), (N0 + 16, some ⟨3, 1, [[.int .i64 r3]]⟩)] (N0 + 54)) (fun K hK => ?_) ?_
        ·
         simp -dsimp -implicitDefEqProofs (maxDischargeDepth := 6)
         exact hK _ _ ⟨rfl, rfl⟩
        rintro a σ ⟨rfl, rfl⟩
        replace H := Option.some.inj H; subst H
        refine AWP_kp [2, 3] [(2, .int .i64 v2.opcode), (3, .bool true)] rfl ?_
        refine AWP_ret ?_
        exact ⟨[.int .i64 v2.opcode, .bool true], by simp, 4, by simp [encL_nil]⟩
theorem c21 {p0 : Int} {r : Int} (H : i_Wrap p0 = some r) : APure Tryd.prog G 21 [.int .i64 p0] (.int .i64 r) := by
 refine APure_fn (fun N0 => ?_) (by simp)
 refine ACalls_fn tok Tryd.func21 (by kernel_rfl) rfl Tryd.ntmps21 Tryd.results21 rfl ?_
 simp only [argsA, Nat.reduceAdd, hp_next]
 unfold i_Wrap at H
 refine AWP_sr tok [] [0] (fun a σ => a = [(0, .int .i64 p0)] ∧ σ = hp E0 [] (N0 + 1)) (fun K hK => ?_) ?_
 ·
  simp -dsimp -implicitDefEqProofs (maxDischargeDepth := 6)
  exact hK _ _ ⟨rfl, rfl⟩
 rintro a σ ⟨rfl, rfl⟩
 refine AWP_sr tok [] [2] (fun a σ => a = [(2, .int .i64 (iconv .i64 (iconv .i32 p0)))] ∧ σ = hp E0 [] (N0 + 5)) (fun K hK => ?_) ?_
 ·
  simp -dsimp -implicitDefEqProofs (maxDischargeDepth := 6)
  exact hK _ _ ⟨rfl, rfl⟩
 rintro a σ ⟨rfl, rfl⟩
 replace H := Option.some.inj H; subst H
 refine AWP_kp [2] [(2, .int .i64 (iconv .i64 (iconv .i32 p0)))] rfl ?_
 refine AWP_ret ?_
 exact ⟨[.int .i64 (iconv .i64 (iconv .i32 p0))], by simp, 4, by simp [encL_nil]⟩
theorem c59 {p0 : (List gInstr)} {r : (List Int) × Bool} (H : i_wordsOf p0 = some r) : APure Tryd.prog G 59 [.fsl (encL rInstr p0)] (.tup [.fsl (encL rI r.1), .bool r.2]) := by
 refine APure_fn (fun N0 => ?_) (by simp)
 refine ACalls_fn tok Tryd.func59 (by kernel_rfl) rfl Tryd.ntmps59 Tryd.results59 rfl ?_
 simp only [argsA, Nat.reduceAdd, hp_next]
 unfold i_wordsOf at H
 refine AWP_sr tok [] [0] (fun a σ => a = [(0, .fsl (encL rInstr p0))] ∧ σ = hp E0 [] (N0 + 2)) (fun K hK => ?_) ?_
 ·
  simp -dsimp -implicitDefEqProofs (maxDischargeDepth := 6)
  exact hK _ _ ⟨rfl, rfl⟩
 rintro a σ ⟨rfl, rfl⟩
 refine AWP_sr tok [] [0, 4] (fun a σ => a = [(0, .fsl (encL rInstr p0)), (4, .nilsl)] ∧ σ = hp E0 [] (N0 + 3)) (fun K hK => ?_) ?_
 ·
  simp -dsimp -implicitDefEqProofs (maxDischargeDepth := 6)
  exact hK _ _ ⟨rfl, rfl⟩
 rintro a σ ⟨rfl, rfl⟩
 refine AWP_sq [4] fun K1 hK1 => ?_
 refine AWP_sr tok [] [4, 9, 10, 11] (fun a σ => a = [(4, .nilsl), (9, .fsl (encL rInstr p0)), (10, .int .i64 (ilen p0)), (11, .int .i64 0)] ∧ σ = hp E0 [] (N0 + 6)) (fun K hK => ?_) ?_
 ·
  simp -dsimp -implicitDefEqProofs (maxDischargeDepth := 6)
  exact hK _ _ ⟨rfl, rfl⟩
 rintro a σ ⟨rfl, rfl⟩
 refine AWP_block (AWP_thenB ?_)
 obtain ⟨e1, hse1, H⟩ := bindE H
 refine AWP_lp [4, 9, 10, 11] (fun s a σ => ∃ M1 o1 : Nat, N0 ≤ M1 ∧ N0 ≤ o1 ∧ o1 < M1 ∧ a = [(4, .sl o1 0 s.2.length), (9, .fsl (encL rInstr p0)), (10, .int .i64 (ilen p0)), (11, .int .i64 s.1)] ∧ σ = hp E0 [(o1, some ⟨3, 1, encL rI s.2⟩)] M1) (fun e x a σ => match e with | .inl s => x = .exit 0 ∧ Rc G 29 N0 (fun a σ => ∃ M2 o2 : Nat, N0 ≤ M2 ∧ N0 ≤ o2 ∧ o2 < M2 ∧ a = [(4, .sl o2 0 s.length)] ∧ σ = hp E0 [(o2, some ⟨3, 1, encL rI s⟩)] M2) (AAct.keep a [4]) σ | .inr s => x = .ret ∧ ∃ vs, resA T σ a [.tmp 2, .tmp 3] = some vs ∧ ∃ d, thawA (fun _ => true) σ d (tupA vs) = .tup [.fsl (encL rI s.1), .bool s.2]) hse1 ?_ ?_ ?_
 ·
  refine Rc.kp [4, 9, 10, 11] [(4, .nilsl), (9, .fsl (encL rInstr p0)), (10, .int .i64 (ilen p0)), (11, .int .i64 0)] rfl ?_
  refine gNilS Rc_ref 4 3 1 [(N0 + 6, some ⟨3, 1, encL rI ([] : List Int)⟩)] [(4, .sl (N0 + 6) 0 ([] : List Int).length), (9, .fsl (encL rInstr p0)), (10, .int .i64 (ilen p0)), (11, .int .i64 0)] (by simp (disch := omega)) (by simp (disch := omega) [encL_nil]) [4, 9, 10, 11] rfl ?_
  exact Rc.fin (AHeap.Sub.refl _) ⟨N0 + 7, (N0 + 6), (by omega), (by omega), (by omega), rfl, rfl⟩
 ·
  clear H hse1
  rintro ⟨s1, s2⟩ fl a σ H ⟨M1, o1, fM1_0, fM1_1, fM1_2, rfl, rfl⟩ K2 O2 hK2 hO2
  unfold i_wordsOf_L1 at H; dsimp only at H
  refine AWP_sr tok [] [4, 9, 10, 11, 12] (fun a σ => a = [(4, .sl o1 0 s2.length), (9, .fsl (encL rInstr p0)), (10, .int .i64 (ilen p0)), (11, .int .i64 s1), (12, .bool (ilt s1 (ilen p0)))] ∧ σ = hp E0 [(o1, some ⟨3, 1, encL rI s2⟩)] (M1 + 1)) (fun K hK => ?_) ?_
  ·
   simp -dsimp -implicitDefEqProofs (maxDischargeDepth := 6)
   exact hK _ _ ⟨rfl, rfl⟩
  rintro a σ ⟨rfl, rfl⟩
  refine AWP_sq [4, 9, 10, 11] fun K3 hK3 => ?_
  refine AWP_cond (ilt s1 (ilen p0)) rfl (fun C1 => ?_) (fun C1 => ?_)
  ·
   replace H := ifT C1 H
   refine AWP_skip ?_
   show K3 _ _
   refine keepE (l := [4, 9, 10, 11]) (x := [(4, .sl o1 0 s2.length), (9, .fsl (encL rInstr p0)), (10, .int .i64 (ilen p0)), (11, .int .i64 s1)]) rfl fun a' ha => ?_
   refine hK3 _ _ ?_; rw [ha]
   refine Rc.mk ?_
   refine AWP_sq [4, 9, 10, 11] fun K4 hK4 => ?_
   refine AWP_block (AWP_thenB ?_)
   obtain ⟨v4, hv4, H⟩ := bindE H
   refine AWP_sr tok [] [4, 6, 9, 10, 11] (fun a σ => a = [(4, .sl o1 0 s2.length), (6, .ptr (M1 + 3) 0 0), (9, .fsl (encL rInstr p0)), (10, .int .i64 (ilen p0)), (11, .int .i64 s1)] ∧ σ = hp E0 [(o1, some ⟨3, 1, encL rI s2⟩), (M1 + 3, some ⟨78, 5, [[.int .i64 v4.Op, .int .i64 v4.Rd, .int .i64 v4.Rs, .int .i64 v4.Rt, .int .i64 v4.Imm]]⟩)] (M1 + 5)) (fun K hK => ?_) ?_
   ·
    have e0 := nq (a := o1) (b := M1 + 3) (by omega)
    simp -dsimp -implicitDefEqProofs (maxDischargeDepth := 6) [e0, ix46 hv4]
    exact hK _ _ ⟨rfl, rfl⟩
   rintro a σ ⟨rfl, rfl⟩
   obtain ⟨r5, hr5, H⟩ := bindE H
   refine AWP_sr tok [] [4, 7, 8, 9, 10, 11] (fun a σ => a = [(4, .sl o1 0 s2.length), (7, .int .i64 r5.1), (8, .bool r5.2), (9, .fsl (encL rInstr p0)), (10, .int .i64 (ilen p0)), (11, .int .i64 s1)] ∧ σ = hp E0 [(o1, some ⟨3, 1, encL rI s2⟩), (M1 + 3, some ⟨78, 5, [[.int .i64 v4.Op, .int .i64 v4.Rd, .int .i64 v4.Rs, .int .i64 v4.Rt, .int .i64 v4.Imm]]⟩)] (M1 + 12)) (fun K hK => ?_) ?_
   ·
    have e0 := nq (a := o1) (b := M1 + 3) (by omega)
    simp -dsimp -implicitDefEqProofs (maxDischargeDepth := 6) [e0]
    refine (c50 hr5).app ?_; try simp -dsimp -implicitDefEqProofs (maxDischargeDepth := 6) [e0]
    exact hK _ _ ⟨rfl, rfl⟩
   rintro a σ ⟨rfl, rfl⟩
   refine AWP_sq [4, 7, 9, 10, 11] fun K5 hK5 => ?_
   refine AWP_sr tok [] [4, 7, 9, 10, 11, 21] (fun a σ => a = [(4, .sl o1 0 s2.length), (7, .int .i64 r5.1), (9, .fsl (encL rInstr p0)), (10, .int .i64 (ilen p0)), (11, .int .i64 s1), (21, .bool (bnot r5.2))] ∧ σ = hp E0 [(o1, some ⟨3, 1, encL rI s2⟩), (M1 + 3, some ⟨78, 5, [[.int .i64 v4.Op, .int .i64 v4.Rd, .int .i64 v4.Rs, .int .i64 v4.Rt, .int .i64 v4.Imm]]⟩)] (M1 + 14)) (fun K hK => ?_) ?_
   ·
    have e0 := nq (a := o1) (b := M1 + 3) (by omega)
    simp -dsimp -implicitDefEqProofs (maxDischargeDepth := 6) [e0]
    exact hK _ _ ⟨rfl, rfl⟩
   rintro a σ ⟨rfl, rfl⟩
   refine AWP_cond (bnot r5.2) rfl (fun C2 => ?_) (fun C2 => ?_)
   ·
    replace H := ifT C2 H
    refine AWP_sr tok [] [2, 3] (fun a σ => a = [(2, .nilsl), (3, .bool false)] ∧ σ = hp E0 [(o1, some ⟨3, 1, encL rI s2⟩), (M1 + 3, some ⟨78, 5, [[.int .i64 v4.Op, .int .i64 v4.Rd, .int .i64 v4.Rs, .int .i64 v4.Rt, .int .i64 v4.Imm]]⟩)] (M1 + 16)) (fun K hK => ?_) ?_
    ·
     have e0 := nq (a := o1) (b := M1 + 3) (by omega)
     simp -dsimp -implicitDefEqProofs (maxDischargeDepth := 6) [e0]
     exact hK _ _ ⟨rfl, rfl⟩
    rintro a σ ⟨rfl, rfl⟩
    replace H := Option.some.inj H; subst H
    refine AWP_kp [2, 3] [(2, .nilsl), (3, .bool false)] rfl ?_
    have z0 := nq (a := o1) (b := M1 + 3) (by omega)
    refine AWP_ret (hO2 _ _ _ _ rfl ⟨rfl, ?_⟩)
    exact ⟨[.nilsl, .bool false], by simp [z0], 4, by simp [encL_nil, z0]⟩
   ·
    replace H := ifF C2 H
    refine AWP_skip ?_
    show K5 _ _
    refine keepE (l := [4, 7, 9, 10, 11]) (x := [(4, .sl o1 0 s2.length), (7, .int .i64 r5.1), (9, .fsl (encL rInstr p0)), (10, .int .i64 (ilen p0)), (11, .int .i64 s1)]) rfl fun a' ha => ?_
    refine hK5 _ _ ?_; rw [ha]
    refine Rc.mk ?_
    obtain ⟨r6, hr6, H⟩ := bindE H
    obtain ⟨l7, hl7, H⟩ := bindE H
    have q0 : ∀ σ i, buildSliceA T 22 true i 1 [(0, .int .i64 r6)] σ = some (.fsl (encL rI ([r6] : List Int)), σ) := fun _ _ => rfl
    refine AWP_rt tok [3] [4, 9, 10, 11] (fun a σ => a = [(4, .sl (M1 + 18) 0 l7.length), (9, .fsl (encL rInstr p0)), (10, .int .i64 (ilen p0)), (11, .int .i64 s1)] ∧ σ = hp E0 [(M1 + 3, some ⟨78, 5, [[.int .i64 v4.Op, .int .i64 v4.Rd, .int .i64 v4.Rs, .int .i64 v4.Rt, .int .i64 v4.Imm]]⟩), (M1 + 18, some ⟨3, 1, encL rI l7⟩)] (M1 + 20)) (fun K hK => ?_) ?_
    ·
     have e0 := nq (a := o1) (b := M1 + 3) (by omega)
     have e1 := nq (a := o1) (b := M1 + 18) (by omega)
     simp -dsimp -implicitDefEqProofs (maxDischargeDepth := 6) [e0, e1, q0, app22 hl7]
     refine (c21 hr6).app ?_; try simp -dsimp -implicitDefEqProofs (maxDischargeDepth := 6) [e0, e1, q0, app22 hl7]
     exact hK _ _ ⟨rfl, rfl⟩
    rintro a σ ⟨ha, rfl⟩
    refine hK4 _ _ ?_; rw [ha]
    refine Rc.mk ?_
    refine AWP_rt tok [] [4, 9, 10, 11] (fun a σ => a = [(4, .sl (M1 + 18) 0 l7.length), (9, .fsl (encL rInstr p0)), (10, .int .i64 (ilen p0)), (11, .int .i64 (iadd .i64 s1 1))] ∧ σ = hp E0 [(M1 + 3, some ⟨78, 5, [[.int .i64 v4.Op, .int .i64 v4.Rd, .int .i64 v4.Rs, .int .i64 v4.Rt, .int .i64 v4.Imm]]⟩), (M1 + 18, some ⟨3, 1, encL rI l7⟩)] (M1 + 22)) (fun K hK => ?_) ?_
    ·
     simp -dsimp -implicitDefEqProofs (maxDischargeDepth := 6)
     exact hK _ _ ⟨rfl, rfl⟩
    rintro a σ ⟨ha, rfl⟩
    replace H := Option.some.inj H; subst H
    refine hK2 _ _ _ rfl ?_; rw [ha]
    exact Rc.fin (AHeap.Sub.trans (hp_skip (AHeap.Sub.refl _)) (hp_drop rfl (by simp; try omega))) ⟨M1 + 22, (M1 + 18), (by omega), (by omega), (by omega), rfl, rfl⟩
  ·
   replace H := ifF C1 H
   replace H := Option.some.inj H; subst H
   refine AWP_exit (hO2 _ _ _ _ rfl ⟨rfl, ?_⟩)
   refine Rc.rw (l := [4]) (X := [(4, .sl o1 0 s2.length)]) rfl ?_
   exact Rc.fin (AHeap.Sub.refl _) ⟨M1 + 1, o1, (by omega), (by omega), (by omega), rfl, rfl⟩
 ·
  intro x a σ hx
  rcases e1 with y3 | r0
  ·
   obtain ⟨rfl, b, τ, hr, M2, o2, fM2_0, fM2_1, fM2_2, rfl, rfl⟩ := hx
   dsimp only at H
   show K1 _ _
   refine hK1 _ _ (Rc_ref hr ?_)
   refine Rc.mk ?_
   refine AWP_sr tok [] [2, 3] (fun a σ => a = [(2, .sl o2 0 y3.length), (3, .bool true)] ∧ σ = hp E0 [(o2, some ⟨3, 1, encL rI y3⟩)] (M2 + 3)) (fun K hK => ?_) ?_
   ·
    simp -dsimp -implicitDefEqProofs (maxDischargeDepth := 6)
    exact hK _ _ ⟨rfl, rfl⟩
   rintro a σ ⟨rfl, rfl⟩
   replace H := Option.some.inj H; subst H
   refine AWP_kp [2, 3] [(2, .sl o2 0 y3.length), (3, .bool true)] rfl ?_
   refine AWP_ret ?_
   exact ⟨[.sl o2 0 y3.length, .bool true], by simp, 4, by simp [encL_nil]⟩
  ·
   obtain ⟨rfl, hx2⟩ := hx
   dsimp only at H
   replace H := Option.some.inj H; subst H; exact hx2
theorem c33 {p0 : (List gInstr)} {r : gMachine × Bool} (H : i_HartNew p0 = some r) : APure Tryd.prog G 33 [.fsl (encL rInstr p0)] (.tup [.agg [.fsl (encL rI r.1.Regs), .int .i64 r.1.Pc, .fsl (encL rI r.1.Mem)], .bool r.2]) := by
 refine APure_fn (fun N0 => ?_) (by simp)
 refine ACalls_fn tok Tryd.func33 (by kernel_rfl) rfl Tryd.ntmps33 Tryd.results33 rfl ?_
 simp only [argsA, Nat.reduceAdd, hp_next]
 unfold i_HartNew at H
 refine AWP_sr tok [] [0, 2] (fun a σ => a = [(0, .fsl (encL rInstr p0)), (2, .ptr N0 0 0)] ∧ σ = hp E0 [(N0, some ⟨53, 3, [[.nilsl, .int .i64 0, .nilsl]]⟩)] (N0 + 2)) (fun K hK => ?_) ?_
 ·
  simp -dsimp -implicitDefEqProofs (maxDischargeDepth := 6)
  exact hK _ _ ⟨rfl, rfl⟩
 rintro a σ ⟨rfl, rfl⟩
 refine gWkC AWP_ref (o := N0) (ob := ⟨53, 3, [[.nilsl, .int .i64 0, .nilsl]]⟩) (row := [.nilsl, .int .i64 0, .nilsl]) (r := 0) (i := 0) [(N0, some ⟨53, 3, [[.fsl [], .int .i64 0, .nilsl]]⟩)] (by simp (disch := omega)) rfl rfl (by simp (disch := omega)) (by simp (disch := omega) [encL_nil, List.set_set, app_set]) ?_
 refine gWkC AWP_ref (o := N0) (ob := ⟨53, 3, [[.fsl [], .int .i64 0, .nilsl]]⟩) (row := [.fsl [], .int .i64 0, .nilsl]) (r := 0) (i := 2) [(N0, some ⟨53, 3, [[.fsl [], .int .i64 0, .fsl []]]⟩)] (by simp (disch := omega)) rfl rfl (by simp (disch := omega)) (by simp (disch := omega) [encL_nil, List.set_set, app_set]) ?_
 obtain ⟨r1, hr1, H⟩ := bindE H
 refine AWP_sr tok [] [2, 4, 5] (fun a σ => a = [(2, .ptr N0 0 0), (4, .fsl (encL rI r1.1)), (5, .bool r1.2)] ∧ σ = hp E0 [(N0, some ⟨53, 3, [[.fsl [], .int .i64 0, .fsl []]]⟩)] (N0 + 9)) (fun K hK => ?_) ?_
 ·
  simp -dsimp -implicitDefEqProofs (maxDischargeDepth := 6)
  refine (c59 hr1).app ?_; try simp -dsimp -implicitDefEqProofs (maxDischargeDepth := 6)
  exact hK _ _ ⟨rfl, rfl⟩
 rintro a σ ⟨rfl, rfl⟩
 refine AWP_sq [2, 4] fun K1 hK1 => ?_
 obtain ⟨g2, hg2, H⟩ := bindE H
 refine AWP_sr tok [] [2, 4, 20] (fun a σ => a = [(2, .ptr N0 0 0), (4, .fsl (encL rI r1.1)), (20, .bool g2)] ∧ σ = hp E0 [(N0, some ⟨53, 3, [[.fsl [], .int .i64 0, .fsl []]]⟩)] (N0 + 18)) (fun K hK => ?_) ?_
 ·
  simp -dsimp -implicitDefEqProofs (maxDischargeDepth := 6)
  cases hbg2 : bnot r1.2
  ·
   replace hg2 := ifF hbg2 hg2
   replace hg2 := Option.some.inj hg2; subst hg2
   try simp -dsimp -implicitDefEqProofs (maxDischargeDepth := 6) [hbg2]
   exact hK _ _ ⟨rfl, rfl⟩
  ·
   replace hg2 := ifT hbg2 hg2
   replace hg2 := Option.some.inj hg2; subst hg2
   try simp -dsimp -implicitDefEqProofs (maxDischargeDepth := 6) [hbg2]
   exact hK _ _ ⟨rfl, rfl⟩
 rintro a σ ⟨rfl, rfl⟩
 refine AWP_cond g2 rfl (fun C1 => ?_) (fun C1 => ?_)
 ·
  replace H := ifT C1 H
  refine AWP_sr tok [] [2, 3] (fun a σ => a = [(2, .ptr N0 0 0), (3, .bool false)] ∧ σ = hp E0 [(N0, some ⟨53, 3, [[.fsl [], .int .i64 0, .fsl []]]⟩)] (N0 + 21)) (fun K hK => ?_) ?_
  ·
   simp -dsimp -implicitDefEqProofs (maxDischargeDepth := 6)
   exact hK _ _ ⟨rfl, rfl⟩
  rintro a σ ⟨rfl, rfl⟩
  replace H := Option.some.inj H; subst H
  refine AWP_kp [2, 3] [(2, .ptr N0 0 0), (3, .bool false)] rfl ?_
  refine AWP_ret ?_
  exact ⟨[.agg [.fsl [], .int .i64 0, .fsl []], .bool false], by simp, 4, by simp [encL_nil]⟩
 ·
  replace H := ifF C1 H
  refine AWP_skip ?_
  show K1 _ _
  refine keepE (l := [2, 4]) (x := [(2, .ptr N0 0 0), (4, .fsl (encL rI r1.1))]) rfl fun a' ha => ?_
  refine hK1 _ _ ?_; rw [ha]
  refine Rc.mk ?_
  obtain ⟨l3, hl3, H⟩ := bindE H
  obtain ⟨l4, hl4, H⟩ := bindE H
  obtain ⟨l5, hl5, H⟩ := bindE H
  have q0 : ∀ σ i, buildSliceA T 22 false i 1 [(0, .int .i64 0)] σ = some (.sl i 0 (List.length l3), σ.put i ⟨3, 1, encL rI l3⟩) := by rw [← Option.some.inj hl3]; intro _ _; rfl
  refine AWP_sd tok tokM [] [0, 1, 3, 5, 6] [2, 1, 3, 0, 4, 5, 6] [2, 6] (fun a σ => a = [(2, .ptr N0 0 0), (6, .ptr (N0 + 23) 0 0)] ∧ σ = hp E0 [(N0, some ⟨53, 3, [[.fsl [], .int .i64 0, .fsl []]]⟩), (N0 + 21, some ⟨3, 1, encL rI l4⟩), (N0 + 18, some ⟨3, 1, encL rI l5⟩), (N0 + 23, some ⟨53, 3, [[.sl (N0 + 18) 0 l5.length, .int .i64 4, .sl (N0 + 21) 0 l4.length]]⟩)] (N0 + 25)) (by decide) (fun K hK => ?_) ?_
  ·
   simp only [pickL, nthO_succ, nthO_zero]
   simp -dsimp -implicitDefEqProofs (maxDischargeDepth := 6) [q0, app22 hl4, mak22 hl5]
   exact hK _ _ ⟨rfl, rfl⟩
  rintro a σ ⟨rfl, rfl⟩
  obtain ⟨v6, hv6, H⟩ := bindE H
  obtain ⟨l7, hl7, H⟩ := bindE H
  refine AWP_sr tok [] [2, 6] (fun a σ => a = [(2, .ptr N0 0 0), (6, .ptr (N0 + 23) 0 0)] ∧ σ = hp E0 [(N0, some ⟨53, 3, [[.fsl [], .int .i64 0, .fsl []]]⟩), (N0 + 21, some ⟨3, 1, encL rI l4⟩), (N0 + 18, some ⟨3, 1, encL rI l7⟩), (N0 + 23, some ⟨53, 3, [[.sl (N0 + 18) 0 l5.length, .int .i64 4, .sl (N0 + 21) 0 l4.length]]⟩)] (N0 + 33)) (fun K hK => ?_) ?_
  ·
   simp -dsimp -implicitDefEqProofs (maxDischargeDepth := 6) [ixo22 hv6, (show _[2]? = some v6 from (idx_lt3 hv6).2.2), (show List.set _ 2 _ = l7 from (setx_iff.1 hl7).2.symm)]
   exact hK _ _ ⟨rfl, rfl⟩
  rintro a σ ⟨rfl, rfl⟩
  try rw [← setx_len hl7]
  obtain ⟨l8, hl8, H⟩ := bindE H
  refine AWP_sr tok [] [2, 6] (fun a σ => a = [(2, .ptr N0 0 0), (6, .ptr (N0 + 23) 0 0)] ∧ σ = hp E0 [(N0, some ⟨53, 3, [[.fsl [], .int .i64 0, .fsl []]]⟩), (N0 + 18, some ⟨3, 1, encL rI l7⟩), (N0 + 23, some ⟨53, 3, [[.sl (N0 + 18) 0 l7.length, .int .i64 4, .sl (N0 + 35) 0 l8.length]]⟩), (N0 + 35, some ⟨3, 1, encL rI l8⟩)] (N0 + 38)) (fun K hK => ?_) ?_
  ·
   simp -dsimp -implicitDefEqProofs (maxDischargeDepth := 6) [appz22_3 hl8]
   exact hK _ _ ⟨rfl, rfl⟩
  rintro a σ ⟨rfl, rfl⟩
  refine AWP_sr tok [] [2, 3] (fun a σ => a = [(2, .ptr N0 0 0), (3, .bool true)] ∧ σ = hp E0 [(N0, some ⟨53, 3, [[.sl (N0 + 18) 0 l7.length, .int .i64 4, .sl (N0 + 35) 0 l8.length]]⟩), (N0 + 18, some ⟨3, 1, encL rI l7⟩), (N0 + 23, some ⟨53, 3, [[.sl (N0 + 18) 0 l7.length, .int .i64 4, .sl (N0 + 35) 0 l8.length]]⟩), (N0 + 35, some ⟨3, 1, encL rI l8⟩)] (N0 + 41)) (fun K hK => ?_) ?_
  ·
   simp -dsimp -implicitDefEqProofs (maxDischargeDepth := 6)
   exact hK _ _ ⟨rfl, rfl⟩
  rintro a σ ⟨rfl, rfl⟩
  replace H := Option.some.inj H; subst H
  refine AWP_kp [2, 3] [(2, .ptr N0 0 0), (3, .bool true)] rfl ?_
  refine AWP_ret ?_
  exact ⟨[.agg [.sl (N0 + 18) 0 l7.length, .int .i64 4, .sl (N0 + 35) 0 l8.length], .bool true], by simp, 4, by simp [encL_nil]⟩
theorem c9 {p0 : (List Int)} {p1 : (List (List gInstr))} {r : gSquad × Bool} (H : i_SquadNew p0 p1 = some r) : APure Tryd.prog G 9 [.fsl (encL rI p0), .fsl (encL rL_Instr p1)] (.tup [.agg [.fsl (encL rMachine r.1.Harts), .fsl (encL rBox r.1.Boxes), .int .i64 r.1.Turn, .int .i64 r.1.Idle, .fsl (encL rI r.1.Out)], .bool r.2]) := by
 refine APure_fn (fun N0 => ?_) (by simp)
 refine ACalls_fn tok Tryd.func9 (by kernel_rfl) rfl Tryd.ntmps9 Tryd.results9 rfl ?_
 simp only [argsA, Nat.reduceAdd, hp_next]
 unfold i_SquadNew at H
 refine AWP_sr tok [] [0, 1, 4] (fun a σ => a = [(0, .fsl (encL rI p0)), (1, .fsl (encL rL_Instr p1)), (4, .ptr N0 0 0)] ∧ σ = hp E0 [(N0, some ⟨28, 5, [[.nilsl, .nilsl, .int .i64 0, .int .i64 0, .nilsl]]⟩)] (N0 + 2)) (fun K hK => ?_) ?_
 ·
  simp -dsimp -implicitDefEqProofs (maxDischargeDepth := 6)
  exact hK _ _ ⟨rfl, rfl⟩
 rintro a σ ⟨rfl, rfl⟩
 refine AWP_sq [0, 1, 4] fun K1 hK1 => ?_
 refine gWkC AWP_ref (o := N0) (ob := ⟨28, 5, [[.nilsl, .nilsl, .int .i64 0, .int .i64 0, .nilsl]]⟩) (row := [.nilsl, .nilsl, .int .i64 0, .int .i64 0, .nilsl]) (r := 0) (i := 0) [(N0, some ⟨28, 5, [[.fsl [], .nilsl, .int .i64 0, .int .i64 0, .nilsl]]⟩)] (by simp (disch := omega)) rfl rfl (by simp (disch := omega)) (by simp (disch := omega) [encL_nil, List.set_set, app_set]) ?_
 refine gWkC AWP_ref (o := N0) (ob := ⟨28, 5, [[.fsl [], .nilsl, .int .i64 0, .int .i64 0, .nilsl]]⟩) (row := [.fsl [], .nilsl, .int .i64 0, .int .i64 0, .nilsl]) (r := 0) (i := 1) [(N0, some ⟨28, 5, [[.fsl [], .fsl [], .int .i64 0, .int .i64 0, .nilsl]]⟩)] (by simp (disch := omega)) rfl rfl (by simp (disch := omega)) (by simp (disch := omega) [encL_nil, List.set_set, app_set]) ?_
 refine gWkC AWP_ref (o := N0) (ob := ⟨28, 5, [[.fsl [], .fsl [], .int .i64 0, .int .i64 0, .nilsl]]⟩) (row := [.fsl [], .fsl [], .int .i64 0, .int .i64 0, .nilsl]) (r := 0) (i := 4) [(N0, some ⟨28, 5, [[.fsl [], .fsl [], .int .i64 0, .int .i64 0, .fsl []]]⟩)] (by simp (disch := omega)) rfl rfl (by simp (disch := omega)) (by simp (disch := omega) [encL_nil, List.set_set, app_set]) ?_
 obtain ⟨r1, hr1, H⟩ := bindE H
 obtain ⟨g2, hg2, H⟩ := bindE H
 obtain ⟨g3, hg3, H⟩ := bindE H
 refine AWP_sr tok [] [0, 1, 4, 23] (fun a σ => a = [(0, .fsl (encL rI p0)), (1, .fsl (encL rL_Instr p1)), (4, .ptr N0 0 0), (23, .bool g3)] ∧ σ = hp E0 [(N0, some ⟨28, 5, [[.fsl [], .fsl [], .int .i64 0, .int .i64 0, .fsl []]]⟩)] (N0 + 15)) (fun K hK => ?_) ?_
 ·
  simp -dsimp -implicitDefEqProofs (maxDischargeDepth := 6)
  refine (c31 hr1).app ?_; try simp -dsimp -implicitDefEqProofs (maxDischargeDepth := 6)
  cases hbg2 : bnot r1
  ·
   replace hg2 := ifF hbg2 hg2
   replace hg2 := Option.some.inj hg2; subst hg2
   try simp -dsimp -implicitDefEqProofs (maxDischargeDepth := 6) [hbg2]
   cases hbg3 : (ilt (ilen p1) 1)
   ·
    replace hg3 := ifF hbg3 hg3
    replace hg3 := Option.some.inj hg3; subst hg3
    try simp -dsimp -implicitDefEqProofs (maxDischargeDepth := 6) [hbg2, hbg3]
    exact hK _ _ ⟨rfl, rfl⟩
   ·
    replace hg3 := ifT hbg3 hg3
    replace hg3 := Option.some.inj hg3; subst hg3
    try simp -dsimp -implicitDefEqProofs (maxDischargeDepth := 6) [hbg2, hbg3]
    exact hK _ _ ⟨rfl, rfl⟩
  ·
   replace hg2 := ifT hbg2 hg2
   replace hg2 := Option.some.inj hg2; subst hg2
   try simp -dsimp -implicitDefEqProofs (maxDischargeDepth := 6) [hbg2]
   replace hg3 := ifT rfl hg3
   replace hg3 := Option.some.inj hg3; subst hg3
   try simp -dsimp -implicitDefEqProofs (maxDischargeDepth := 6) [hbg2]
   exact hK _ _ ⟨rfl, rfl⟩
 rintro a σ ⟨rfl, rfl⟩
 refine AWP_cond g3 rfl (fun C1 => ?_) (fun C1 => ?_)
 ·
  replace H := ifT C1 H
  refine AWP_sr tok [] [4, 5] (fun a σ => a = [(4, .ptr N0 0 0), (5, .bool false)] ∧ σ = hp E0 [(N0, some ⟨28, 5, [[.fsl [], .fsl [], .int .i64 0, .int .i64 0, .fsl []]]⟩)] (N0 + 18)) (fun K hK => ?_) ?_
  ·
   simp -dsimp -implicitDefEqProofs (maxDischargeDepth := 6)
   exact hK _ _ ⟨rfl, rfl⟩
  rintro a σ ⟨rfl, rfl⟩
  replace H := Option.some.inj H; subst H
  refine AWP_kp [4, 5] [(4, .ptr N0 0 0), (5, .bool false)] rfl ?_
  refine AWP_ret ?_
  exact ⟨[.agg [.fsl [], .fsl [], .int .i64 0, .int .i64 0, .fsl []], .bool false], by simp, 4, by simp [encL_nil]⟩
 ·
  replace H := ifF C1 H
  refine AWP_skip ?_
  show K1 _ _
  refine keepE (l := [0, 1, 4]) (x := [(0, .fsl (encL rI p0)), (1, .fsl (encL rL_Instr p1)), (4, .ptr N0 0 0)]) rfl fun a' ha => ?_
  refine hK1 _ _ ?_; rw [ha]
  refine Rc.mk ?_
  obtain ⟨r4, hr4, H⟩ := bindE H
  refine AWP_sr tok [2] [1, 4, 6] (fun a σ => a = [(1, .fsl (encL rL_Instr p1)), (4, .ptr N0 0 0), (6, .ptr (N0 + 18) 0 0)] ∧ σ = hp E0 [(N0, some ⟨28, 5, [[.fsl [], .fsl [], .int .i64 0, .int .i64 0, .fsl []]]⟩), (N0 + 18, some ⟨28, 5, [[.nilsl, .fsl (encL rBox r4), .int .i64 0, .int .i64 0, .nilsl]]⟩)] (N0 + 20)) (fun K hK => ?_) ?_
  ·
   simp -dsimp -implicitDefEqProofs (maxDischargeDepth := 6)
   refine (c32 hr4).app ?_; try simp -dsimp -implicitDefEqProofs (maxDischargeDepth := 6)
   exact hK _ _ ⟨rfl, rfl⟩
  rintro a σ ⟨rfl, rfl⟩
  refine AWP_sq [4, 6] fun K2 hK2 => ?_
  refine AWP_sr tok [] [4, 6, 28, 29, 30] (fun a σ => a = [(4, .ptr N0 0 0), (6, .ptr (N0 + 18) 0 0), (28, .fsl (encL rL_Instr p1)), (29, .int .i64 (ilen p1)), (30, .int .i64 0)] ∧ σ = hp E0 [(N0, some ⟨28, 5, [[.fsl [], .fsl [], .int .i64 0, .int .i64 0, .fsl []]]⟩), (N0 + 18, some ⟨28, 5, [[.nilsl, .fsl (encL rBox r4), .int .i64 0, .int .i64 0, .nilsl]]⟩)] (N0 + 23)) (fun K hK => ?_) ?_
  ·
   simp -dsimp -implicitDefEqProofs (maxDischargeDepth := 6)
   exact hK _ _ ⟨rfl, rfl⟩
  rintro a σ ⟨rfl, rfl⟩
  refine AWP_block (AWP_thenB ?_)
  obtain ⟨e1, hse1, H⟩ := bindE H
  refine AWP_lp [4, 6, 28, 29, 30] (fun s a σ => ∃ M1 o1 o2 : Nat, N0 ≤ M1 ∧ N0 ≤ o1 ∧ o1 < M1 ∧ N0 ≤ o2 ∧ o2 < M1 ∧ ¬ o1 = o2 ∧ a = [(4, .ptr o1 0 0), (6, .ptr o2 0 0), (28, .fsl (encL rL_Instr p1)), (29, .int .i64 (ilen p1)), (30, .int .i64 s.1)] ∧ σ = hp E0 [(o1, some ⟨28, 5, [[.fsl (encL rMachine s.2.1.Harts), .fsl (encL rBox s.2.1.Boxes), .int .i64 s.2.1.Turn, .int .i64 s.2.1.Idle, .fsl (encL rI s.2.1.Out)]]⟩), (o2, some ⟨28, 5, [[.osl 53 3 (encL rMachine s.2.2.Harts), .fsl (encL rBox s.2.2.Boxes), .int .i64 s.2.2.Turn, .int .i64 s.2.2.Idle, .fsl (encL rI s.2.2.Out)]]⟩)] M1) (fun e x a σ => match e with | .inl s => x = .exit 0 ∧ Rc G 50 N0 (fun a σ => ∃ M2 o3 o4 : Nat, N0 ≤ M2 ∧ N0 ≤ o3 ∧ o3 < M2 ∧ N0 ≤ o4 ∧ o4 < M2 ∧ ¬ o3 = o4 ∧ a = [(4, .ptr o3 0 0), (6, .ptr o4 0 0)] ∧ σ = hp E0 [(o3, some ⟨28, 5, [[.fsl (encL rMachine s.1.Harts), .fsl (encL rBox s.1.Boxes), .int .i64 s.1.Turn, .int .i64 s.1.Idle, .fsl (encL rI s.1.Out)]]⟩), (o4, some ⟨28, 5, [[.osl 53 3 (encL rMachine s.2.Harts), .fsl (encL rBox s.2.Boxes), .int .i64 s.2.Turn, .int .i64 s.2.Idle, .fsl (encL rI s.2.Out)]]⟩)] M2) (AAct.keep a [4, 6]) σ | .inr s => x = .ret ∧ ∃ vs, resA T σ a [.cell 4 28, .tmp 5] = some vs ∧ ∃ d, thawA (fun _ => true) σ d (tupA vs) = .tup [.agg [.fsl (encL rMachine s.1.Harts), .fsl (encL rBox s.1.Boxes), .int .i64 s.1.Turn, .int .i64 s.1.Idle, .fsl (encL rI s.1.Out)], .bool s.2]) hse1 ?_ ?_ ?_
  ·
   refine Rc.kp [4, 6, 28, 29, 30] [(4, .ptr N0 0 0), (6, .ptr (N0 + 18) 0 0), (28, .fsl (encL rL_Instr p1)), (29, .int .i64 (ilen p1)), (30, .int .i64 0)] rfl ?_
   refine gPk0 Rc_ref (o := (N0 + 18)) (ob := ⟨28, 5, [[.nilsl, .fsl (encL rBox r4), .int .i64 0, .int .i64 0, .nilsl]]⟩) (row := [.nilsl, .fsl (encL rBox r4), .int .i64 0, .int .i64 0, .nilsl]) (r := 0) (i := 0) 53 3 [(N0, some ⟨28, 5, [[.fsl [], .fsl [], .int .i64 0, .int .i64 0, .fsl []]]⟩), (N0 + 18, some ⟨28, 5, [[.osl 53 3 (encL rMachine ([] : List gMachine)), .fsl (encL rBox r4), .int .i64 0, .int .i64 0, .nilsl]]⟩)] (by simp (disch := omega)) rfl rfl (by simp (disch := omega)) (by simp (disch := omega) [encL_nil, List.set_set, app_set]) ?_
   refine gWkC Rc_ref (o := (N0 + 18)) (ob := ⟨28, 5, [[.osl 53 3 (encL rMachine ([] : List gMachine)), .fsl (encL rBox r4), .int .i64 0, .int .i64 0, .nilsl]]⟩) (row := [.osl 53 3 (encL rMachine ([] : List gMachine)), .fsl (encL rBox r4), .int .i64 0, .int .i64 0, .nilsl]) (r := 0) (i := 4) [(N0, some ⟨28, 5, [[.fsl [], .fsl [], .int .i64 0, .int .i64 0, .fsl []]]⟩), (N0 + 18, some ⟨28, 5, [[.osl 53 3 (encL rMachine ([] : List gMachine)), .fsl (encL rBox r4), .int .i64 0, .int .i64 0, .fsl []]]⟩)] (by simp (disch := omega)) rfl rfl (by simp (disch := omega)) (by simp (disch := omega) [encL_nil, List.set_set, app_set]) ?_
   exact Rc.fin (AHeap.Sub.refl _) ⟨N0 + 23, N0, (N0 + 18), (by omega), (by omega), (by omega), (by omega), (by omega), (by omega), rfl, rfl⟩
  ·
   clear H hse1
   rintro ⟨s5, s6, s7⟩ fl a σ H ⟨M1, o1, o2, fM1_0, fM1_1, fM1_2, fM1_3, fM1_4, fM1_5, rfl, rfl⟩ K3 O3 hK3 hO3
   unfold i_SquadNew_L1 at H; dsimp only at H
   refine AWP_sr tok [] [4, 6, 28, 29, 30, 31] (fun a σ => a = [(4, .ptr o1 0 0), (6, .ptr o2 0 0), (28, .fsl (encL rL_Instr p1)), (29, .int .i64 (ilen p1)), (30, .int .i64 s5), (31, .bool (ilt s5 (ilen p1)))] ∧ σ = hp E0 [(o1, some ⟨28, 5, [[.fsl (encL rMachine s6.Harts), .fsl (encL rBox s6.Boxes), .int .i64 s6.Turn, .int .i64 s6.Idle, .fsl (encL rI s6.Out)]]⟩), (o2, some ⟨28, 5, [[.osl 53 3 (encL rMachine s7.Harts), .fsl (encL rBox s7.Boxes), .int .i64 s7.Turn, .int .i64 s7.Idle, .fsl (encL rI s7.Out)]]⟩)] (M1 + 1)) (fun K hK => ?_) ?_
   ·
    have e0 := nq (a := o1) (b := o2) (by omega)
    simp -dsimp -implicitDefEqProofs (maxDischargeDepth := 6) [e0]
    exact hK _ _ ⟨rfl, rfl⟩
   rintro a σ ⟨rfl, rfl⟩
   refine AWP_sq [4, 6, 28, 29, 30] fun K4 hK4 => ?_
   refine AWP_cond (ilt s5 (ilen p1)) rfl (fun C2 => ?_) (fun C2 => ?_)
   ·
    replace H := ifT C2 H
    refine AWP_skip ?_
    show K4 _ _
    refine keepE (l := [4, 6, 28, 29, 30]) (x := [(4, .ptr o1 0 0), (6, .ptr o2 0 0), (28, .fsl (encL rL_Instr p1)), (29, .int .i64 (ilen p1)), (30, .int .i64 s5)]) rfl fun a' ha => ?_
    refine hK4 _ _ ?_; rw [ha]
    refine Rc.mk ?_
    refine AWP_sq [4, 6, 28, 29, 30] fun K5 hK5 => ?_
    refine AWP_block (AWP_thenB ?_)
    obtain ⟨v10, hv10, H⟩ := bindE H
    refine AWP_sr tok [] [4, 6, 8, 28, 29, 30] (fun a σ => a = [(4, .ptr o1 0 0), (6, .ptr o2 0 0), (8, .fsl (encL rInstr v10)), (28, .fsl (encL rL_Instr p1)), (29, .int .i64 (ilen p1)), (30, .int .i64 s5)] ∧ σ = hp E0 [(o1, some ⟨28, 5, [[.fsl (encL rMachine s6.Harts), .fsl (encL rBox s6.Boxes), .int .i64 s6.Turn, .int .i64 s6.Idle, .fsl (encL rI s6.Out)]]⟩), (o2, some ⟨28, 5, [[.osl 53 3 (encL rMachine s7.Harts), .fsl (encL rBox s7.Boxes), .int .i64 s7.Turn, .int .i64 s7.Idle, .fsl (encL rI s7.Out)]]⟩)] (M1 + 4)) (fun K hK => ?_) ?_
    ·
     have e0 := nq (a := o1) (b := o2) (by omega)
     simp -dsimp -implicitDefEqProofs (maxDischargeDepth := 6) [e0, ix32 hv10]
     exact hK _ _ ⟨rfl, rfl⟩
    rintro a σ ⟨rfl, rfl⟩
    obtain ⟨r11, hr11, H⟩ := bindE H
    refine AWP_sr tok [] [4, 6, 9, 10, 28, 29, 30] (fun a σ => a = [(4, .ptr o1 0 0), (6, .ptr o2 0 0), (9, .ptr (M1 + 9) 0 0), (10, .bool r11.2), (28, .fsl (encL rL_Instr p1)), (29, .int .i64 (ilen p1)), (30, .int .i64 s5)] ∧ σ = hp E0 [(o1, some ⟨28, 5, [[.fsl (encL rMachine s6.Harts), .fsl (encL rBox s6.Boxes), .int .i64 s6.Turn, .int .i64 s6.Idle, .fsl (encL rI s6.Out)]]⟩), (o2, some ⟨28, 5, [[.osl 53 3 (encL rMachine s7.Harts), .fsl (encL rBox s7.Boxes), .int .i64 s7.Turn, .int .i64 s7.Idle, .fsl (encL rI s7.Out)]]⟩), (M1 + 9, some ⟨53, 3, [[.fsl (encL rI r11.1.Regs), .int .i64 r11.1.Pc, .fsl (encL rI r11.1.Mem)]]⟩)] (M1 + 12)) (fun K hK => ?_) ?_
    ·
     have e0 := nq (a := o1) (b := o2) (by omega)
     have e1 := nq (a := o1) (b := M1 + 9) (by omega)
     have e2 := nq (a := o2) (b := M1 + 9) (by omega)
     simp -dsimp -implicitDefEqProofs (maxDischargeDepth := 6) [e0, e1, e2]
     refine (c33 hr11).app ?_; try simp -dsimp -implicitDefEqProofs (maxDischargeDepth := 6) [e0, e1, e2]
     exact hK _ _ ⟨rfl, rfl⟩
    rintro a σ ⟨rfl, rfl⟩
    refine AWP_sq [4, 6, 9, 28, 29, 30] fun K6 hK6 => ?_
    refine AWP_sr tok [] [4, 6, 9, 28, 29, 30, 40] (fun a σ => a = [(4, .ptr o1 0 0), (6, .ptr o2 0 0), (9, .ptr (M1 + 9) 0 0), (28, .fsl (encL rL_Instr p1)), (29, .int .i64 (ilen p1)), (30, .int .i64 s5), (40, .bool (bnot r11.2))] ∧ σ = hp E0 [(o1, some ⟨28, 5, [[.fsl (encL rMachine s6.Harts), .fsl (encL rBox s6.Boxes), .int .i64 s6.Turn, .int .i64 s6.Idle, .fsl (encL rI s6.Out)]]⟩), (o2, some ⟨28, 5, [[.osl 53 3 (encL rMachine s7.Harts), .fsl (encL rBox s7.Boxes), .int .i64 s7.Turn, .int .i64 s7.Idle, .fsl (encL rI s7.Out)]]⟩), (M1 + 9, some ⟨53, 3, [[.fsl (encL rI r11.1.Regs), .int .i64 r11.1.Pc, .fsl (encL rI r11.1.Mem)]]⟩)] (M1 + 14)) (fun K hK => ?_) ?_
    ·
     have e0 := nq (a := o1) (b := o2) (by omega)
     have e1 := nq (a := o1) (b := M1 + 9) (by omega)
     have e2 := nq (a := o2) (b := M1 + 9) (by omega)
     simp -dsimp -implicitDefEqProofs (maxDischargeDepth := 6) [e0, e1, e2]
     exact hK _ _ ⟨rfl, rfl⟩
    rintro a σ ⟨rfl, rfl⟩
    refine AWP_cond (bnot r11.2) rfl (fun C3 => ?_) (fun C3 => ?_)
    ·
     replace H := ifT C3 H
     refine AWP_sr tok [] [4, 5] (fun a σ => a = [(4, .ptr o1 0 0), (5, .bool false)] ∧ σ = hp E0 [(o1, some ⟨28, 5, [[.fsl [], .fsl [], .int .i64 0, .int .i64 0, .fsl []]]⟩), (o2, some ⟨28, 5, [[.osl 53 3 (encL rMachine s7.Harts), .fsl (encL rBox s7.Boxes), .int .i64 s7.Turn, .int .i64 s7.Idle, .fsl (encL rI s7.Out)]]⟩), (M1 + 9, some ⟨53, 3, [[.fsl (encL rI r11.1.Regs), .int .i64 r11.1.Pc, .fsl (encL rI r11.1.Mem)]]⟩)] (M1 + 17)) (fun K hK => ?_) ?_
     ·
      have e0 := nq (a := o1) (b := o2) (by omega)
      have e1 := nq (a := o1) (b := M1 + 9) (by omega)
      have e2 := nq (a := o2) (b := M1 + 9) (by omega)
      simp -dsimp -implicitDefEqProofs (maxDischargeDepth := 6) [e0, e1, e2]
      exact hK _ _ ⟨rfl, rfl⟩
     rintro a σ ⟨rfl, rfl⟩
     replace H := Option.some.inj H; subst H
     refine AWP_kp [4, 5] [(4, .ptr o1 0 0), (5, .bool false)] rfl ?_
     have z0 := nq (a := o1) (b := o2) (by omega)
     have z1 := nq (a := o1) (b := M1 + 9) (by omega)
     have z2 := nq (a := o2) (b := M1 + 9) (by omega)
     refine AWP_ret (hO3 _ _ _ _ rfl ⟨rfl, ?_⟩)
     exact ⟨[.agg [.fsl [], .fsl [], .int .i64 0, .int .i64 0, .fsl []], .bool false], by simp [z0, z1, z2], 4, by simp [encL_nil, z0, z1, z2]⟩
    ·
     replace H := ifF C3 H
     refine AWP_skip ?_
     show K6 _ _
     refine keepE (l := [4, 6, 9, 28, 29, 30]) (x := [(4, .ptr o1 0 0), (6, .ptr o2 0 0), (9, .ptr (M1 + 9) 0 0), (28, .fsl (encL rL_Instr p1)), (29, .int .i64 (ilen p1)), (30, .int .i64 s5)]) rfl fun a' ha => ?_
     refine hK6 _ _ ?_; rw [ha]
     refine Rc.mk ?_
     refine gUnp AWP_ref (ty := 53) (sz := 3) (es := encL rMachine s7.Harts) (o := o2) (ob := ⟨28, 5, [[.osl 53 3 (encL rMachine s7.Harts), .fsl (encL rBox s7.Boxes), .int .i64 s7.Turn, .int .i64 s7.Idle, .fsl (encL rI s7.Out)]]⟩) (row := [.osl 53 3 (encL rMachine s7.Harts), .fsl (encL rBox s7.Boxes), .int .i64 s7.Turn, .int .i64 s7.Idle, .fsl (encL rI s7.Out)]) (r := 0) (i := 0) [(o1, some ⟨28, 5, [[.fsl (encL rMachine s6.Harts), .fsl (encL rBox s6.Boxes), .int .i64 s6.Turn, .int .i64 s6.Idle, .fsl (encL rI s6.Out)]]⟩), (o2, some ⟨28, 5, [[.sl (M1 + 14) 0 s7.Harts.length, .fsl (encL rBox s7.Boxes), .int .i64 s7.Turn, .int .i64 s7.Idle, .fsl (encL rI s7.Out)]]⟩), (M1 + 9, some ⟨53, 3, [[.fsl (encL rI r11.1.Regs), .int .i64 r11.1.Pc, .fsl (encL rI r11.1.Mem)]]⟩), (M1 + 14, some ⟨53, 3, encL rMachine s7.Harts⟩)] (by simp (disch := omega)) rfl rfl (by simp (disch := omega) [List.set_set]) ?_
     obtain ⟨l12, hl12, H⟩ := bindE H
     have q0 : ∀ σ i, buildSliceA T 25 true i 1 [(0, .agg [.fsl (encL rI r11.1.Regs), .int .i64 r11.1.Pc, .fsl (encL rI r11.1.Mem)])] σ = some (.fsl (encL rMachine ([r11.1] : List gMachine)), σ) := fun _ _ => rfl
     refine AWP_rt tok [3] [4, 6, 28, 29, 30] (fun a σ => a = [(4, .ptr o1 0 0), (6, .ptr o2 0 0), (28, .fsl (encL rL_Instr p1)), (29, .int .i64 (ilen p1)), (30, .int .i64 s5)] ∧ σ = hp E0 [(o1, some ⟨28, 5, [[.fsl (encL rMachine s6.Harts), .fsl (encL rBox s6.Boxes), .int .i64 s6.Turn, .int .i64 s6.Idle, .fsl (encL rI s6.Out)]]⟩), (o2, some ⟨28, 5, [[.sl (M1 + 19) 0 l12.length, .fsl (encL rBox s7.Boxes), .int .i64 s7.Turn, .int .i64 s7.Idle, .fsl (encL rI s7.Out)]]⟩), (M1 + 9, some ⟨53, 3, [[.fsl (encL rI r11.1.Regs), .int .i64 r11.1.Pc, .fsl (encL rI r11.1.Mem)]]⟩), (M1 + 19, some ⟨53, 3, encL rMachine l12⟩)] (M1 + 22)) (fun K hK => ?_) ?_
     ·
      have e0 := nq (a := o1) (b := o2) (by omega)
      have e1 := nq (a := o1) (b := M1 + 9) (by omega)
      have e2 := nq (a := o1) (b := M1 + 14) (by omega)
      have e3 := nq (a := o1) (b := M1 + 19) (by omega)
      have e4 := nq (a := o2) (b := M1 + 9) (by omega)
      have e5 := nq (a := o2) (b := M1 + 14) (by omega)
      have e6 := nq (a := o2) (b := M1 + 19) (by omega)
      simp -dsimp -implicitDefEqProofs (maxDischargeDepth := 6) [e0, e1, e2, e3, e4, e5, e6, q0, app25 hl12]
      exact hK _ _ ⟨rfl, rfl⟩
     rintro a σ ⟨ha, rfl⟩
     refine hK5 _ _ ?_; rw [ha]
     refine Rc.mk ?_
     refine AWP_rt tok [] [4, 6, 28, 29, 30] (fun a σ => a = [(4, .ptr o1 0 0), (6, .ptr o2 0 0), (28, .fsl (encL rL_Instr p1)), (29, .int .i64 (ilen p1)), (30, .int .i64 (iadd .i64 s5 1))] ∧ σ = hp E0 [(o1, some ⟨28, 5, [[.fsl (encL rMachine s6.Harts), .fsl (encL rBox s6.Boxes), .int .i64 s6.Turn, .int .i64 s6.Idle, .fsl (encL rI s6.Out)]]⟩), (o2, some ⟨28, 5, [[.sl (M1 + 19) 0 l12.length, .fsl (encL rBox s7.Boxes), .int .i64 s7.Turn, .int .i64 s7.Idle, .fsl (encL rI s7.Out)]]⟩), (M1 + 9, some ⟨53, 3, [[.fsl (encL rI r11.1.Regs), .int .i64 r11.1.Pc, .fsl (encL rI r11.1.Mem)]]⟩), (M1 + 19, some ⟨53, 3, encL rMachine l12⟩)] (M1 + 24)) (fun K hK => ?_) ?_
     ·
      have e0 := nq (a := o1) (b := o2) (by omega)
      have e1 := nq (a := o1) (b := M1 + 9) (by omega)
      have e2 := nq (a := o1) (b := M1 + 19) (by omega)
      have e3 := nq (a := o2) (b := M1 + 9) (by omega)
      have e4 := nq (a := o2) (b := M1 + 19) (by omega)
      simp -dsimp -implicitDefEqProofs (maxDischargeDepth := 6) [e0, e1, e2, e3, e4]
      exact hK _ _ ⟨rfl, rfl⟩
     rintro a σ ⟨ha, rfl⟩
     replace H := Option.some.inj H; subst H
     refine hK3 _ _ _ rfl ?_; rw [ha]
     refine gPk Rc_ref (k := l12.length) (o := o2) (ob := ⟨28, 5, [[.sl (M1 + 19) 0 l12.length, .fsl (encL rBox s7.Boxes), .int .i64 s7.Turn, .int .i64 s7.Idle, .fsl (encL rI s7.Out)]]⟩) (row := [.sl (M1 + 19) 0 l12.length, .fsl (encL rBox s7.Boxes), .int .i64 s7.Turn, .int .i64 s7.Idle, .fsl (encL rI s7.Out)]) (d := (M1 + 19)) (obd := ⟨53, 3, encL rMachine l12⟩) (r := 0) (i := 0) [(o1, some ⟨28, 5, [[.fsl (encL rMachine s6.Harts), .fsl (encL rBox s6.Boxes), .int .i64 s6.Turn, .int .i64 s6.Idle, .fsl (encL rI s6.Out)]]⟩), (o2, some ⟨28, 5, [[.osl 53 3 (encL rMachine l12), .fsl (encL rBox s7.Boxes), .int .i64 s7.Turn, .int .i64 s7.Idle, .fsl (encL rI s7.Out)]]⟩), (M1 + 9, some ⟨53, 3, [[.fsl (encL rI r11.1.Regs), .int .i64 r11.1.Pc, .fsl (encL rI r11.1.Mem)]]⟩)] (by simp (disch := omega)) rfl rfl (by simp (disch := omega)) (by simp (disch := omega)) (by first | omega | simp) (by simp (disch := omega) [List.set_set, app_set] <;> omega) (by simp (disch := omega) [List.set_set, app_set]) ?_
     exact Rc.fin (hp_skip (hp_skip (AHeap.Sub.trans (AHeap.Sub.refl _) (hp_drop rfl (by simp; try omega))))) ⟨M1 + 24, o1, o2, (by omega), (by omega), (by omega), (by omega), (by omega), (by omega), rfl, rfl⟩
   ·
    replace H := ifF C2 H
    replace H := Option.some.inj H; subst H
    refine AWP_exit (hO3 _ _ _ _ rfl ⟨rfl, ?_⟩)
    refine Rc.rw (l := [4, 6]) (X := [(4, .ptr o1 0 0), (6, .ptr o2 0 0)]) rfl ?_
    exact Rc.fin (AHeap.Sub.refl _) ⟨M1 + 1, o1, o2, (by omega), (by omega), (by omega), (by omega), (by omega), (by omega), rfl, rfl⟩
  ·
   intro x a σ hx
   rcases e1 with ⟨y8, y9⟩ | r0
   ·
    obtain ⟨rfl, b, τ, hr, M2, o3, o4, fM2_0, fM2_1, fM2_2, fM2_3, fM2_4, fM2_5, rfl, rfl⟩ := hx
    dsimp only at H
    show K2 _ _
    refine hK2 _ _ (Rc_ref hr ?_)
    refine Rc.mk ?_
    refine gUnp AWP_ref (ty := 53) (sz := 3) (es := encL rMachine y9.Harts) (o := o4) (ob := ⟨28, 5, [[.osl 53 3 (encL rMachine y9.Harts), .fsl (encL rBox y9.Boxes), .int .i64 y9.Turn, .int .i64 y9.Idle, .fsl (encL rI y9.Out)]]⟩) (row := [.osl 53 3 (encL rMachine y9.Harts), .fsl (encL rBox y9.Boxes), .int .i64 y9.Turn, .int .i64 y9.Idle, .fsl (encL rI y9.Out)]) (r := 0) (i := 0) [(o3, some ⟨28, 5, [[.fsl (encL rMachine y8.Harts), .fsl (encL rBox y8.Boxes), .int .i64 y8.Turn, .int .i64 y8.Idle, .fsl (encL rI y8.Out)]]⟩), (o4, some ⟨28, 5, [[.sl M2 0 y9.Harts.length, .fsl (encL rBox y9.Boxes), .int .i64 y9.Turn, .int .i64 y9.Idle, .fsl (encL rI y9.Out)]]⟩), (M2, some ⟨53, 3, encL rMachine y9.Harts⟩)] (by simp (disch := omega)) rfl rfl (by simp (disch := omega) [List.set_set]) ?_
    refine AWP_sr tok [] [4, 5] (fun a σ => a = [(4, .ptr o3 0 0), (5, .bool true)] ∧ σ = hp E0 [(o3, some ⟨28, 5, [[.sl M2 0 y9.Harts.length, .fsl (encL rBox y9.Boxes), .int .i64 y9.Turn, .int .i64 y9.Idle, .fsl (encL rI y9.Out)]]⟩), (o4, some ⟨28, 5, [[.sl M2 0 y9.Harts.length, .fsl (encL rBox y9.Boxes), .int .i64 y9.Turn, .int .i64 y9.Idle, .fsl (encL rI y9.Out)]]⟩), (M2, some ⟨53, 3, encL rMachine y9.Harts⟩)] (M2 + 4)) (fun K hK => ?_) ?_
    ·
     have e0 := nq (a := o3) (b := o4) (by omega)
     have e1 := nq (a := o3) (b := M2) (by omega)
     have e2 := nq (a := o4) (b := M2) (by omega)
     simp -dsimp -implicitDefEqProofs (maxDischargeDepth := 6) [e0, e1, e2]
     exact hK _ _ ⟨rfl, rfl⟩
    rintro a σ ⟨rfl, rfl⟩
    replace H := Option.some.inj H; subst H
    refine AWP_kp [4, 5] [(4, .ptr o3 0 0), (5, .bool true)] rfl ?_
    have z3 := nq (a := o3) (b := o4) (by omega)
    have z4 := nq (a := o3) (b := M2) (by omega)
    have z5 := nq (a := o4) (b := M2) (by omega)
    refine AWP_ret ?_
    exact ⟨[.agg [.sl M2 0 y9.Harts.length, .fsl (encL rBox y9.Boxes), .int .i64 y9.Turn, .int .i64 y9.Idle, .fsl (encL rI y9.Out)], .bool true], by simp [z3, z4, z5], 4, by simp [encL_nil, z3, z4, z5]⟩
   ·
    obtain ⟨rfl, hx2⟩ := hx
    dsimp only at H
    replace H := Option.some.inj H; subst H; exact hx2
theorem c11 {p0 : (List Int)} {p1 : (List Int)} {r : Bool} (H : l_eqIntS p0 p1 = some r) : APure Tryd.prog G 11 [.fsl (encL rI p0), .fsl (encL rI p1)] (.bool r) := by
 refine APure_fn (fun N0 => ?_) (by simp)
 refine ACalls_fn tok Tryd.func11 (by kernel_rfl) rfl Tryd.ntmps11 Tryd.results11 rfl ?_
 simp only [argsA, Nat.reduceAdd, hp_next]
 unfold l_eqIntS at H
 refine AWP_sr tok [] [0, 1] (fun a σ => a = [(0, .fsl (encL rI p0)), (1, .fsl (encL rI p1))] ∧ σ = hp E0 [] (N0 + 1)) (fun K hK => ?_) ?_
 ·
  simp -dsimp -implicitDefEqProofs (maxDischargeDepth := 6)
  exact hK _ _ ⟨rfl, rfl⟩
 rintro a σ ⟨rfl, rfl⟩
 refine AWP_sq [0, 1] fun K1 hK1 => ?_
 refine AWP_sr tok [] [0, 1, 10] (fun a σ => a = [(0, .fsl (encL rI p0)), (1, .fsl (encL rI p1)), (10, .bool (ine (ilen p0) (ilen p1)))] ∧ σ = hp E0 [] (N0 + 6)) (fun K hK => ?_) ?_
 ·
  simp -dsimp -implicitDefEqProofs (maxDischargeDepth := 6)
  exact hK _ _ ⟨rfl, rfl⟩
 rintro a σ ⟨rfl, rfl⟩
 refine AWP_cond (ine (ilen p0) (ilen p1)) rfl (fun C1 => ?_) (fun C1 => ?_)
 ·
  replace H := ifT C1 H
  refine AWP_sr tok [] [4] (fun a σ => a = [(4, .bool false)] ∧ σ = hp E0 [] (N0 + 7)) (fun K hK => ?_) ?_
  ·
   simp -dsimp -implicitDefEqProofs (maxDischargeDepth := 6)
   exact hK _ _ ⟨rfl, rfl⟩
  rintro a σ ⟨rfl, rfl⟩
  replace H := Option.some.inj H; subst H
  refine AWP_kp [4] [(4, .bool false)] rfl ?_
  refine AWP_ret ?_
  exact ⟨[.bool false], by simp, 4, by simp [encL_nil]⟩
 ·
  replace H := ifF C1 H
  refine AWP_skip ?_
  show K1 _ _
  refine keepE (l := [0, 1]) (x := [(0, .fsl (encL rI p0)), (1, .fsl (encL rI p1))]) rfl fun a' ha => ?_
  refine hK1 _ _ ?_; rw [ha]
  refine Rc.mk ?_
  refine AWP_sq [] fun K2 hK2 => ?_
  refine AWP_sr tok [] [0, 1, 5] (fun a σ => a = [(0, .fsl (encL rI p0)), (1, .fsl (encL rI p1)), (5, .int .i64 0)] ∧ σ = hp E0 [] (N0 + 7)) (fun K hK => ?_) ?_
  ·
   simp -dsimp -implicitDefEqProofs (maxDischargeDepth := 6)
   exact hK _ _ ⟨rfl, rfl⟩
  rintro a σ ⟨rfl, rfl⟩
  refine AWP_block (AWP_thenB ?_)
  obtain ⟨e1, hse1, H⟩ := bindE H
  refine AWP_lp [0, 1, 5] (fun s a σ => ∃ M1 : Nat, N0 ≤ M1 ∧ a = [(0, .fsl (encL rI p0)), (1, .fsl (encL rI p1)), (5, .int .i64 s)] ∧ σ = hp E0 [] M1) (fun e x a σ => match e with | .inl s => x = .exit 0 ∧ Rc G 26 N0 (fun a σ => ∃ M2 : Nat, N0 ≤ M2 ∧ a = [] ∧ σ = hp E0 [] M2) (AAct.keep a []) σ | .inr s => x = .ret ∧ ∃ vs, resA T σ a [.tmp 4] = some vs ∧ ∃ d, thawA (fun _ => true) σ d (tupA vs) = .bool s) hse1 ?_ ?_ ?_
  ·
   refine Rc.kp [0, 1, 5] [(0, .fsl (encL rI p0)), (1, .fsl (encL rI p1)), (5, .int .i64 0)] rfl ?_
   exact Rc.fin (AHeap.Sub.refl _) ⟨N0 + 7, (by omega), rfl, rfl⟩
  ·
   clear H hse1
   rintro s1 fl a σ H ⟨M1, fM1_0, rfl, rfl⟩ K3 O3 hK3 hO3
   unfold l_eqIntS_L1 at H; dsimp only at H
   refine AWP_sq [0, 1, 5] fun K4 hK4 => ?_
   refine AWP_sr tok [] [0, 1, 5, 14] (fun a σ => a = [(0, .fsl (encL rI p0)), (1, .fsl (encL rI p1)), (5, .int .i64 s1), (14, .bool (ilt s1 (ilen p0)))] ∧ σ = hp E0 [] (M1 + 4)) (fun K hK => ?_) ?_
   ·
    simp -dsimp -implicitDefEqProofs (maxDischargeDepth := 6)
    exact hK _ _ ⟨rfl, rfl⟩
   rintro a σ ⟨rfl, rfl⟩
   refine AWP_cond (ilt s1 (ilen p0)) rfl (fun C2 => ?_) (fun C2 => ?_)
   ·
    replace H := ifT C2 H
    refine AWP_skip ?_
    show K4 _ _
    refine keepE (l := [0, 1, 5]) (x := [(0, .fsl (encL rI p0)), (1, .fsl (encL rI p1)), (5, .int .i64 s1)]) rfl fun a' ha => ?_
    refine hK4 _ _ ?_; rw [ha]
    refine Rc.mk ?_
    refine AWP_sq [0, 1, 5] fun K5 hK5 => ?_
    refine AWP_block (AWP_thenB ?_)
    obtain ⟨v2, hv2, H⟩ := bindE H
    obtain ⟨v3, hv3, H⟩ := bindE H
    refine AWP_sd tok tokM [] [] [0, 1, 2, 3, 4, 5, 6, 7, 8] [0, 1, 5, 25] (fun a σ => a = [(0, .fsl (encL rI p0)), (1, .fsl (encL rI p1)), (5, .int .i64 s1), (25, .bool (ine v2 v3))] ∧ σ = hp E0 [] (M1 + 13)) (by decide) (fun K hK => ?_) ?_
    ·
     simp only [pickL, nthO_succ, nthO_zero]
     simp -dsimp -implicitDefEqProofs (maxDischargeDepth := 6) [ix22 hv2, ix22 hv3]
     exact hK _ _ ⟨rfl, rfl⟩
    rintro a σ ⟨rfl, rfl⟩
    refine AWP_cond (ine v2 v3) rfl (fun C3 => ?_) (fun C3 => ?_)
    ·
     replace H := ifT C3 H
     refine AWP_sr tok [] [4] (fun a σ => a = [(4, .bool false)] ∧ σ = hp E0 [] (M1 + 14)) (fun K hK => ?_) ?_
     ·
      simp -dsimp -implicitDefEqProofs (maxDischargeDepth := 6)
      exact hK _ _ ⟨rfl, rfl⟩
     rintro a σ ⟨rfl, rfl⟩
     replace H := Option.some.inj H; subst H
     refine AWP_kp [4] [(4, .bool false)] rfl ?_
     refine AWP_ret (hO3 _ _ _ _ rfl ⟨rfl, ?_⟩)
     exact ⟨[.bool false], by simp, 4, by simp [encL_nil]⟩
    ·
     replace H := ifF C3 H
     refine AWP_skip ?_
     show K5 _ _
     refine keepE (l := [0, 1, 5]) (x := [(0, .fsl (encL rI p0)), (1, .fsl (encL rI p1)), (5, .int .i64 s1)]) rfl fun a' ha => ?_
     refine hK5 _ _ ?_; rw [ha]
     refine Rc.mk ?_
     refine AWP_rt tok [] [0, 1, 5] (fun a σ => a = [(0, .fsl (encL rI p0)), (1, .fsl (encL rI p1)), (5, .int .i64 (iadd .i64 s1 1))] ∧ σ = hp E0 [] (M1 + 16)) (fun K hK => ?_) ?_
     ·
      simp -dsimp -implicitDefEqProofs (maxDischargeDepth := 6)
      exact hK _ _ ⟨rfl, rfl⟩
     rintro a σ ⟨ha, rfl⟩
     replace H := Option.some.inj H; subst H
     refine hK3 _ _ _ rfl ?_; rw [ha]
     exact Rc.fin (AHeap.Sub.refl _) ⟨M1 + 16, (by omega), rfl, rfl⟩
   ·
    replace H := ifF C2 H
    replace H := Option.some.inj H; subst H
    refine AWP_exit (hO3 _ _ _ _ rfl ⟨rfl, ?_⟩)
    refine Rc.rw (l := []) (X := []) rfl ?_
    exact Rc.fin (AHeap.Sub.refl _) ⟨M1 + 4, (by omega), rfl, rfl⟩
  ·
   intro x a σ hx
   rcases e1 with ⟨⟩ | r0
   ·
    obtain ⟨rfl, b, τ, hr, M2, fM2_0, rfl, rfl⟩ := hx
    dsimp only at H
    show K2 _ _
    refine hK2 _ _ (Rc_ref hr ?_)
    refine Rc.mk ?_
    refine AWP_sr tok [] [4] (fun a σ => a = [(4, .bool true)] ∧ σ = hp E0 [] (M2 + 1)) (fun K hK => ?_) ?_
    ·
     simp -dsimp -implicitDefEqProofs (maxDischargeDepth := 6)
     exact hK _ _ ⟨rfl, rfl⟩
    rintro a σ ⟨rfl, rfl⟩
    replace H := Option.some.inj H; subst H
    refine AWP_kp [4] [(4, .bool true)] rfl ?_
    refine AWP_ret ?_
    exact ⟨[.bool true], by simp, 4, by simp [encL_nil]⟩
   ·
    obtain ⟨rfl, hx2⟩ := hx
    dsimp only at H
    replace H := Option.some.inj H; subst H; exact hx2
theorem c60 {p0 : gMachine} {p1 : gMachine} {r : Bool} (H : l_eqMachine p0 p1 = some r) : APure Tryd.prog G 60 [.agg [.fsl (encL rI p0.Regs), .int .i64 p0.Pc, .fsl (encL rI p0.Mem)], .agg [.fsl (encL rI p1.Regs), .int .i64 p1.Pc, .fsl (encL rI p1.Mem)]] (.bool r) := by
 refine APure_fn (fun N0 => ?_) (by simp)
 refine ACalls_fn tok Tryd.func60 (by kernel_rfl) rfl Tryd.ntmps60 Tryd.results60 rfl ?_
 simp only [argsA, Nat.reduceAdd, hp_next]
 unfold l_eqMachine at H
 refine AWP_sr tok [0, 1] [2, 3] (fun a σ => a = [(2, .fptr [.fsl (encL rI p0.Regs), .int .i64 p0.Pc, .fsl (encL rI p0.Mem)] 0), (3, .fptr [.fsl (encL rI p1.Regs), .int .i64 p1.Pc, .fsl (encL rI p1.Mem)] 0)] ∧ σ = hp E0 [] (N0 + 3)) (fun K hK => ?_) ?_
 ·
  simp -dsimp -implicitDefEqProofs (maxDischargeDepth := 6)
  exact hK _ _ ⟨rfl, rfl⟩
 rintro a σ ⟨rfl, rfl⟩
 refine AWP_sq [2, 3] fun K1 hK1 => ?_
 obtain ⟨r1, hr1, H⟩ := bindE H
 refine AWP_sr tok [] [2, 3, 10] (fun a σ => a = [(2, .fptr [.fsl (encL rI p0.Regs), .int .i64 p0.Pc, .fsl (encL rI p0.Mem)] 0), (3, .fptr [.fsl (encL rI p1.Regs), .int .i64 p1.Pc, .fsl (encL rI p1.Mem)] 0), (10, .bool (bnot r1))] ∧ σ = hp E0 [] (N0 + 9)) (fun K hK => ?_) ?_
 ·
  simp -dsimp -implicitDefEqProofs (maxDischargeDepth := 6)
  refine (c11 hr1).app ?_; try simp -dsimp -implicitDefEqProofs (maxDischargeDepth := 6)
  exact hK _ _ ⟨rfl, rfl⟩
 rintro a σ ⟨rfl, rfl⟩
 refine AWP_cond (bnot r1) rfl (fun C1 => ?_) (fun C1 => ?_)
 ·
  replace H := ifT C1 H
  refine AWP_sr tok [] [4] (fun a σ => a = [(4, .bool false)] ∧ σ = hp E0 [] (N0 + 10)) (fun K hK => ?_) ?_
  ·
   simp -dsimp -implicitDefEqProofs (maxDischargeDepth := 6)
   exact hK _ _ ⟨rfl, rfl⟩
  rintro a σ ⟨rfl, rfl⟩
  replace H := Option.some.inj H; subst H
  refine AWP_kp [4] [(4, .bool false)] rfl ?_
  refine AWP_ret ?_
  exact ⟨[.bool false], by simp, 4, by simp [encL_nil]⟩
 ·
  replace H := ifF C1 H
  refine AWP_skip ?_
  show K1 _ _
  refine keepE (l := [2, 3]) (x := [(2, .fptr [.fsl (encL rI p0.Regs), .int .i64 p0.Pc, .fsl (encL rI p0.Mem)] 0), (3, .fptr [.fsl (encL rI p1.Regs), .int .i64 p1.Pc, .fsl (encL rI p1.Mem)] 0)]) rfl fun a' ha => ?_
  refine hK1 _ _ ?_; rw [ha]
  refine Rc.mk ?_
  refine AWP_sq [2, 3] fun K2 hK2 => ?_
  refine AWP_sr tok [] [2, 3, 15] (fun a σ => a = [(2, .fptr [.fsl (encL rI p0.Regs), .int .i64 p0.Pc, .fsl (encL rI p0.Mem)] 0), (3, .fptr [.fsl (encL rI p1.Regs), .int .i64 p1.Pc, .fsl (encL rI p1.Mem)] 0), (15, .bool (ine p0.Pc p1.Pc))] ∧ σ = hp E0 [] (N0 + 14)) (fun K hK => ?_) ?_
  ·
   simp -dsimp -implicitDefEqProofs (maxDischargeDepth := 6)
   exact hK _ _ ⟨rfl, rfl⟩
  rintro a σ ⟨rfl, rfl⟩
  refine AWP_cond (ine p0.Pc p1.Pc) rfl (fun C2 => ?_) (fun C2 => ?_)
  ·
   replace H := ifT C2 H
   refine AWP_sr tok [] [4] (fun a σ => a = [(4, .bool false)] ∧ σ = hp E0 [] (N0 + 15)) (fun K hK => ?_) ?_
   ·
    simp -dsimp -implicitDefEqProofs (maxDischargeDepth := 6)
    exact hK _ _ ⟨rfl, rfl⟩
   rintro a σ ⟨rfl, rfl⟩
   replace H := Option.some.inj H; subst H
   refine AWP_kp [4] [(4, .bool false)] rfl ?_
   refine AWP_ret ?_
   exact ⟨[.bool false], by simp, 4, by simp [encL_nil]⟩
  ·
   replace H := ifF C2 H
   refine AWP_skip ?_
   show K2 _ _
   refine keepE (l := [2, 3]) (x := [(2, .fptr [.fsl (encL rI p0.Regs), .int .i64 p0.Pc, .fsl (encL rI p0.Mem)] 0), (3, .fptr [.fsl (encL rI p1.Regs), .int .i64 p1.Pc, .fsl (encL rI p1.Mem)] 0)]) rfl fun a' ha => ?_
   refine hK2 _ _ ?_; rw [ha]
   refine Rc.mk ?_
   refine AWP_sq [] fun K3 hK3 => ?_
   obtain ⟨r2, hr2, H⟩ := bindE H
   refine AWP_sr tok [] [21] (fun a σ => a = [(21, .bool (bnot r2))] ∧ σ = hp E0 [] (N0 + 20)) (fun K hK => ?_) ?_
   ·
    simp -dsimp -implicitDefEqProofs (maxDischargeDepth := 6)
    refine (c11 hr2).app ?_; try simp -dsimp -implicitDefEqProofs (maxDischargeDepth := 6)
    exact hK _ _ ⟨rfl, rfl⟩
   rintro a σ ⟨rfl, rfl⟩
   refine AWP_cond (bnot r2) rfl (fun C3 => ?_) (fun C3 => ?_)
   ·
    replace H := ifT C3 H
    refine AWP_sr tok [] [4] (fun a σ => a = [(4, .bool false)] ∧ σ = hp E0 [] (N0 + 21)) (fun K hK => ?_) ?_
    ·
     simp -dsimp -implicitDefEqProofs (maxDischargeDepth := 6)
     exact hK _ _ ⟨rfl, rfl⟩
    rintro a σ ⟨rfl, rfl⟩
    replace H := Option.some.inj H; subst H
    refine AWP_kp [4] [(4, .bool false)] rfl ?_
    refine AWP_ret ?_
    exact ⟨[.bool false], by simp, 4, by simp [encL_nil]⟩
   ·
    replace H := ifF C3 H
    refine AWP_skip ?_
    show K3 _ _
    refine keepE (l := []) (x := []) rfl fun a' ha => ?_
    refine hK3 _ _ ?_; rw [ha]
    refine Rc.mk ?_
    refine AWP_sr tok [] [4] (fun a σ => a = [(4, .bool true)] ∧ σ = hp E0 [] (N0 + 21)) (fun K hK => ?_) ?_
    ·
     simp -dsimp -implicitDefEqProofs (maxDischargeDepth := 6)
     exact hK _ _ ⟨rfl, rfl⟩
    rintro a σ ⟨rfl, rfl⟩
    replace H := Option.some.inj H; subst H
    refine AWP_kp [4] [(4, .bool true)] rfl ?_
    refine AWP_ret ?_
    exact ⟨[.bool true], by simp, 4, by simp [encL_nil]⟩
theorem c34 {p0 : (List gMachine)} {p1 : (List gMachine)} {r : Bool} (H : l_eqMachineS p0 p1 = some r) : APure Tryd.prog G 34 [.fsl (encL rMachine p0), .fsl (encL rMachine p1)] (.bool r) := by
 refine APure_fn (fun N0 => ?_) (by simp)
 refine ACalls_fn tok Tryd.func34 (by kernel_rfl) rfl Tryd.ntmps34 Tryd.results34 rfl ?_
 simp only [argsA, Nat.reduceAdd, hp_next]
 unfold l_eqMachineS at H
 refine AWP_sr tok [] [0, 1] (fun a σ => a = [(0, .fsl (encL rMachine p0)), (1, .fsl (encL rMachine p1))] ∧ σ = hp E0 [] (N0 + 1)) (fun K hK => ?_) ?_
 ·
  simp -dsimp -implicitDefEqProofs (maxDischargeDepth := 6)
  exact hK _ _ ⟨rfl, rfl⟩
 rintro a σ ⟨rfl, rfl⟩
 refine AWP_sq [0, 1] fun K1 hK1 => ?_
 refine AWP_sr tok [] [0, 1, 10] (fun a σ => a = [(0, .fsl (encL rMachine p0)), (1, .fsl (encL rMachine p1)), (10, .bool (ine (ilen p0) (ilen p1)))] ∧ σ = hp E0 [] (N0 + 6)) (fun K hK => ?_) ?_
 ·
  simp -dsimp -implicitDefEqProofs (maxDischargeDepth := 6)
  exact hK _ _ ⟨rfl, rfl⟩
 rintro a σ ⟨rfl, rfl⟩
 refine AWP_cond (ine (ilen p0) (ilen p1)) rfl (fun C1 => ?_) (fun C1 => ?_)
 ·
  replace H := ifT C1 H
  refine AWP_sr tok [] [4] (fun a σ => a = [(4, .bool false)] ∧ σ = hp E0 [] (N0 + 7)) (fun K hK => ?_) ?_
  ·
   simp -dsimp -implicitDefEqProofs (maxDischargeDepth := 6)
   exact hK _ _ ⟨rfl, rfl⟩
  rintro a σ ⟨rfl, rfl⟩
  replace H := Option.some.inj H; subst H
  refine AWP_kp [4] [(4, .bool false)] rfl ?_
  refine AWP_ret ?_
  exact ⟨[.bool false], by simp, 4, by simp [encL_nil]⟩
 ·
  replace H := ifF C1 H
  refine AWP_skip ?_
  show K1 _ _
  refine keepE (l := [0, 1]) (x := [(0, .fsl (encL rMachine p0)), (1, .fsl (encL rMachine p1))]) rfl fun a' ha => ?_
  refine hK1 _ _ ?_; rw [ha]
  refine Rc.mk ?_
  refine AWP_sq [] fun K2 hK2 => ?_
  refine AWP_sr tok [] [0, 1, 5] (fun a σ => a = [(0, .fsl (encL rMachine p0)), (1, .fsl (encL rMachine p1)), (5, .int .i64 0)] ∧ σ = hp E0 [] (N0 + 7)) (fun K hK => ?_) ?_
  ·
   simp -dsimp -implicitDefEqProofs (maxDischargeDepth := 6)
   exact hK _ _ ⟨rfl, rfl⟩
  rintro a σ ⟨rfl, rfl⟩
  refine AWP_block (AWP_thenB ?_)
  obtain ⟨e1, hse1, H⟩ := bindE H
  refine AWP_lp [0, 1, 5] (fun s a σ => ∃ M1 : Nat, N0 ≤ M1 ∧ a = [(0, .fsl (encL rMachine p0)), (1, .fsl (encL rMachine p1)), (5, .int .i64 s)] ∧ σ = hp E0 [] M1) (fun e x a σ => match e with | .inl s => x = .exit 0 ∧ Rc G 27 N0 (fun a σ => ∃ M2 : Nat, N0 ≤ M2 ∧ a = [] ∧ σ = hp E0 [] M2) (AAct.keep a []) σ | .inr s => x = .ret ∧ ∃ vs, resA T σ a [.tmp 4] = some vs ∧ ∃ d, thawA (fun _ => true) σ d (tupA vs) = .bool s) hse1 ?_ ?_ ?_
  ·
   refine Rc.kp [0, 1, 5] [(0, .fsl (encL rMachine p0)), (1, .fsl (encL rMachine p1)), (5, .int .i64 0)] rfl ?_
   exact Rc.fin (AHeap.Sub.refl _) ⟨N0 + 7, (by omega), rfl, rfl⟩
  ·
   clear H hse1
   rintro s1 fl a σ H ⟨M1, fM1_0, rfl, rfl⟩ K3 O3 hK3 hO3
   unfold l_eqMachineS_L1 at H; dsimp only at H
   refine AWP_sq [0, 1, 5] fun K4 hK4 => ?_
   refine AWP_sr tok [] [0, 1, 5, 14] (fun a σ => a = [(0, .fsl (encL rMachine p0)), (1, .fsl (encL rMachine p1)), (5, .int .i64 s1), (14, .bool (ilt s1 (ilen p0)))] ∧ σ = hp E0 [] (M1 + 4)) (fun K hK => ?_) ?_
   ·
    simp -dsimp -implicitDefEqProofs (maxDischargeDepth := 6)
    exact hK _ _ ⟨rfl, rfl⟩
   rintro a σ ⟨rfl, rfl⟩
   refine AWP_cond (ilt s1 (ilen p0)) rfl (fun C2 => ?_) (fun C2 => ?_)
   ·
    replace H := ifT C2 H
    refine AWP_skip ?_
    show K4 _ _
    refine keepE (l := [0, 1, 5]) (x := [(0, .fsl (encL rMachine p0)), (1, .fsl (encL rMachine p1)), (5, .int .i64 s1)]) rfl fun a' ha => ?_
    refine hK4 _ _ ?_; rw [ha]
    refine Rc.mk ?_
    refine AWP_sq [0, 1, 5] fun K5 hK5 => ?_
    refine AWP_block (AWP_thenB ?_)
    obtain ⟨v2, hv2, H⟩ := bindE H
    obtain ⟨v3, hv3, H⟩ := bindE H
    obtain ⟨r4, hr4, H⟩ := bindE H
    refine AWP_sd tok tokM [] [] [0, 1, 2, 3, 4, 5, 6, 7, 8, 9] [0, 1, 5, 26] (fun a σ => a = [(0, .fsl (encL rMachine p0)), (1, .fsl (encL rMachine p1)), (5, .int .i64 s1), (26, .bool (bnot r4))] ∧ σ = hp E0 [] (M1 + 14)) (by decide) (fun K hK => ?_) ?_
    ·
     simp only [pickL, nthO_succ, nthO_zero]
     simp -dsimp -implicitDefEqProofs (maxDischargeDepth := 6) [ix25 hv2, ix25 hv3]
     refine Pc.mk (c60 hr4) ?_; try simp -dsimp -implicitDefEqProofs (maxDischargeDepth := 6) [ix25 hv2, ix25 hv3]
     exact hK _ _ ⟨rfl, rfl⟩
    rintro a σ ⟨rfl, rfl⟩
    refine AWP_cond (bnot r4) rfl (fun C3 => ?_) (fun C3 => ?_)
    ·
     replace H := ifT C3 H
     refine AWP_sr tok [] [4] (fun a σ => a = [(4, .bool false)] ∧ σ = hp E0 [] (M1 + 15)) (fun K hK => ?_) ?_
     ·
      simp -dsimp -implicitDefEqProofs (maxDischargeDepth := 6)
      exact hK _ _ ⟨rfl, rfl⟩
     rintro a σ ⟨rfl, rfl⟩
     replace H := Option.some.inj H; subst H
     refine AWP_kp [4] [(4, .bool false)] rfl ?_
     refine AWP_ret (hO3 _ _ _ _ rfl ⟨rfl, ?_⟩)
     exact ⟨[.bool false], by simp, 4, by simp [encL_nil]⟩
    ·
     replace H := ifF C3 H
     refine AWP_skip ?_
     show K5 _ _
     refine keepE (l := [0, 1, 5]) (x := [(0, .fsl (encL rMachine p0)), (1, .fsl (encL rMachine p1)), (5, .int .i64 s1)]) rfl fun a' ha => ?_
     refine hK5 _ _ ?_; rw [ha]
     refine Rc.mk ?_
     refine AWP_rt tok [] [0, 1, 5] (fun a σ => a = [(0, .fsl (encL rMachine p0)), (1, .fsl (encL rMachine p1)), (5, .int .i64 (iadd .i64 s1 1))] ∧ σ = hp E0 [] (M1 + 17)) (fun K hK => ?_) ?_
     ·
      simp -dsimp -implicitDefEqProofs (maxDischargeDepth := 6)
      exact hK _ _ ⟨rfl, rfl⟩
     rintro a σ ⟨ha, rfl⟩
     replace H := Option.some.inj H; subst H
     refine hK3 _ _ _ rfl ?_; rw [ha]
     exact Rc.fin (AHeap.Sub.refl _) ⟨M1 + 17, (by omega), rfl, rfl⟩
   ·
    replace H := ifF C2 H
    replace H := Option.some.inj H; subst H
    refine AWP_exit (hO3 _ _ _ _ rfl ⟨rfl, ?_⟩)
    refine Rc.rw (l := []) (X := []) rfl ?_
    exact Rc.fin (AHeap.Sub.refl _) ⟨M1 + 4, (by omega), rfl, rfl⟩
  ·
   intro x a σ hx
   rcases e1 with ⟨⟩ | r0
   ·
    obtain ⟨rfl, b, τ, hr, M2, fM2_0, rfl, rfl⟩ := hx
    dsimp only at H
    show K2 _ _
    refine hK2 _ _ (Rc_ref hr ?_)
    refine Rc.mk ?_
    refine AWP_sr tok [] [4] (fun a σ => a = [(4, .bool true)] ∧ σ = hp E0 [] (M2 + 1)) (fun K hK => ?_) ?_
    ·
     simp -dsimp -implicitDefEqProofs (maxDischargeDepth := 6)
     exact hK _ _ ⟨rfl, rfl⟩
    rintro a σ ⟨rfl, rfl⟩
    replace H := Option.some.inj H; subst H
    refine AWP_kp [4] [(4, .bool true)] rfl ?_
    refine AWP_ret ?_
    exact ⟨[.bool true], by simp, 4, by simp [encL_nil]⟩
   ·
    obtain ⟨rfl, hx2⟩ := hx
    dsimp only at H
    replace H := Option.some.inj H; subst H; exact hx2
theorem c61 {p0 : gBox} {p1 : gBox} {r : Bool} (H : l_eqBox p0 p1 = some r) : APure Tryd.prog G 61 [.agg [.int .i64 p0.Room, .fsl (encL rI p0.Items)], .agg [.int .i64 p1.Room, .fsl (encL rI p1.Items)]] (.bool r) := by
 refine APure_fn (fun N0 => ?_) (by simp)
 refine ACalls_fn tok Tryd.func61 (by kernel_rfl) rfl Tryd.ntmps61 Tryd.results61 rfl ?_
 simp only [argsA, Nat.reduceAdd, hp_next]
 unfold l_eqBox at H
 refine AWP_sr tok [0, 1] [2, 3] (fun a σ => a = [(2, .fptr [.int .i64 p0.Room, .fsl (encL rI p0.Items)] 0), (3, .fptr [.int .i64 p1.Room, .fsl (encL rI p1.Items)] 0)] ∧ σ = hp E0 [] (N0 + 3)) (fun K hK => ?_) ?_
 ·
  simp -dsimp -implicitDefEqProofs (maxDischargeDepth := 6)
  exact hK _ _ ⟨rfl, rfl⟩
 rintro a σ ⟨rfl, rfl⟩
 refine AWP_sq [2, 3] fun K1 hK1 => ?_
 refine AWP_sr tok [] [2, 3, 9] (fun a σ => a = [(2, .fptr [.int .i64 p0.Room, .fsl (encL rI p0.Items)] 0), (3, .fptr [.int .i64 p1.Room, .fsl (encL rI p1.Items)] 0), (9, .bool (ine p0.Room p1.Room))] ∧ σ = hp E0 [] (N0 + 8)) (fun K hK => ?_) ?_
 ·
  simp -dsimp -implicitDefEqProofs (maxDischargeDepth := 6)
  exact hK _ _ ⟨rfl, rfl⟩
 rintro a σ ⟨rfl, rfl⟩
 refine AWP_cond (ine p0.Room p1.Room) rfl (fun C1 => ?_) (fun C1 => ?_)
 ·
  replace H := ifT C1 H
  refine AWP_sr tok [] [4] (fun a σ => a = [(4, .bool false)] ∧ σ = hp E0 [] (N0 + 9)) (fun K hK => ?_) ?_
  ·
   simp -dsimp -implicitDefEqProofs (maxDischargeDepth := 6)
   exact hK _ _ ⟨rfl, rfl⟩
  rintro a σ ⟨rfl, rfl⟩
  replace H := Option.some.inj H; subst H
  refine AWP_kp [4] [(4, .bool false)] rfl ?_
  refine AWP_ret ?_
  exact ⟨[.bool false], by simp, 4, by simp [encL_nil]⟩
 ·
  replace H := ifF C1 H
  refine AWP_skip ?_
  show K1 _ _
  refine keepE (l := [2, 3]) (x := [(2, .fptr [.int .i64 p0.Room, .fsl (encL rI p0.Items)] 0), (3, .fptr [.int .i64 p1.Room, .fsl (encL rI p1.Items)] 0)]) rfl fun a' ha => ?_
  refine hK1 _ _ ?_; rw [ha]
  refine Rc.mk ?_
  refine AWP_sq [] fun K2 hK2 => ?_
  obtain ⟨r1, hr1, H⟩ := bindE H
  refine AWP_sr tok [] [15] (fun a σ => a = [(15, .bool (bnot r1))] ∧ σ = hp E0 [] (N0 + 14)) (fun K hK => ?_) ?_
  ·
   simp -dsimp -implicitDefEqProofs (maxDischargeDepth := 6)
   refine (c11 hr1).app ?_; try simp -dsimp -implicitDefEqProofs (maxDischargeDepth := 6)
   exact hK _ _ ⟨rfl, rfl⟩
  rintro a σ ⟨rfl, rfl⟩
  refine AWP_cond (bnot r1) rfl (fun C2 => ?_) (fun C2 => ?_)
  ·
   replace H := ifT C2 H
   refine AWP_sr tok [] [4] (fun a σ => a = [(4, .bool false)] ∧ σ = hp E0 [] (N0 + 15)) (fun K hK => ?_) ?_
   ·
    simp -dsimp -implicitDefEqProofs (maxDischargeDepth := 6)
    exact hK _ _ ⟨rfl, rfl⟩
   rintro a σ ⟨rfl, rfl⟩
   replace H := Option.some.inj H; subst H
   refine AWP_kp [4] [(4, .bool false)] rfl ?_
   refine AWP_ret ?_
   exact ⟨[.bool false], by simp, 4, by simp [encL_nil]⟩
  ·
   replace H := ifF C2 H
   refine AWP_skip ?_
   show K2 _ _
   refine keepE (l := []) (x := []) rfl fun a' ha => ?_
   refine hK2 _ _ ?_; rw [ha]
   refine Rc.mk ?_
   refine AWP_sr tok [] [4] (fun a σ => a = [(4, .bool true)] ∧ σ = hp E0 [] (N0 + 15)) (fun K hK => ?_) ?_
   ·
    simp -dsimp -implicitDefEqProofs (maxDischargeDepth := 6)
    exact hK _ _ ⟨rfl, rfl⟩
   rintro a σ ⟨rfl, rfl⟩
   replace H := Option.some.inj H; subst H
   refine AWP_kp [4] [(4, .bool true)] rfl ?_
   refine AWP_ret ?_
   exact ⟨[.bool true], by simp, 4, by simp [encL_nil]⟩
theorem c35 {p0 : (List gBox)} {p1 : (List gBox)} {r : Bool} (H : l_eqBoxS p0 p1 = some r) : APure Tryd.prog G 35 [.fsl (encL rBox p0), .fsl (encL rBox p1)] (.bool r) := by
 refine APure_fn (fun N0 => ?_) (by simp)
 refine ACalls_fn tok Tryd.func35 (by kernel_rfl) rfl Tryd.ntmps35 Tryd.results35 rfl ?_
 simp only [argsA, Nat.reduceAdd, hp_next]
 unfold l_eqBoxS at H
 refine AWP_sr tok [] [0, 1] (fun a σ => a = [(0, .fsl (encL rBox p0)), (1, .fsl (encL rBox p1))] ∧ σ = hp E0 [] (N0 + 1)) (fun K hK => ?_) ?_
 ·
  simp -dsimp -implicitDefEqProofs (maxDischargeDepth := 6)
  exact hK _ _ ⟨rfl, rfl⟩
 rintro a σ ⟨rfl, rfl⟩
 refine AWP_sq [0, 1] fun K1 hK1 => ?_
 refine AWP_sr tok [] [0, 1, 10] (fun a σ => a = [(0, .fsl (encL rBox p0)), (1, .fsl (encL rBox p1)), (10, .bool (ine (ilen p0) (ilen p1)))] ∧ σ = hp E0 [] (N0 + 6)) (fun K hK => ?_) ?_
 ·
  simp -dsimp -implicitDefEqProofs (maxDischargeDepth := 6)
  exact hK _ _ ⟨rfl, rfl⟩
 rintro a σ ⟨rfl, rfl⟩
 refine AWP_cond (ine (ilen p0) (ilen p1)) rfl (fun C1 => ?_) (fun C1 => ?_)
 ·
  replace H := ifT C1 H
  refine AWP_sr tok [] [4] (fun a σ => a = [(4, .bool false)] ∧ σ = hp E0 [] (N0 + 7)) (fun K hK => ?_) ?_
  ·
   simp -dsimp -implicitDefEqProofs (maxDischargeDepth := 6)
   exact hK _ _ ⟨rfl, rfl⟩
  rintro a σ ⟨rfl, rfl⟩
  replace H := Option.some.inj H; subst H
  refine AWP_kp [4] [(4, .bool false)] rfl ?_
  refine AWP_ret ?_
  exact ⟨[.bool false], by simp, 4, by simp [encL_nil]⟩
 ·
  replace H := ifF C1 H
  refine AWP_skip ?_
  show K1 _ _
  refine keepE (l := [0, 1]) (x := [(0, .fsl (encL rBox p0)), (1, .fsl (encL rBox p1))]) rfl fun a' ha => ?_
  refine hK1 _ _ ?_; rw [ha]
  refine Rc.mk ?_
  refine AWP_sq [] fun K2 hK2 => ?_
  refine AWP_sr tok [] [0, 1, 5] (fun a σ => a = [(0, .fsl (encL rBox p0)), (1, .fsl (encL rBox p1)), (5, .int .i64 0)] ∧ σ = hp E0 [] (N0 + 7)) (fun K hK => ?_) ?_
  ·
   simp -dsimp -implicitDefEqProofs (maxDischargeDepth := 6)
   exact hK _ _ ⟨rfl, rfl⟩
  rintro a σ ⟨rfl, rfl⟩
  refine AWP_block (AWP_thenB ?_)
  obtain ⟨e1, hse1, H⟩ := bindE H
  refine AWP_lp [0, 1, 5] (fun s a σ => ∃ M1 : Nat, N0 ≤ M1 ∧ a = [(0, .fsl (encL rBox p0)), (1, .fsl (encL rBox p1)), (5, .int .i64 s)] ∧ σ = hp E0 [] M1) (fun e x a σ => match e with | .inl s => x = .exit 0 ∧ Rc G 27 N0 (fun a σ => ∃ M2 : Nat, N0 ≤ M2 ∧ a = [] ∧ σ = hp E0 [] M2) (AAct.keep a []) σ | .inr s => x = .ret ∧ ∃ vs, resA T σ a [.tmp 4] = some vs ∧ ∃ d, thawA (fun _ => true) σ d (tupA vs) = .bool s) hse1 ?_ ?_ ?_
  ·
   refine Rc.kp [0, 1, 5] [(0, .fsl (encL rBox p0)), (1, .fsl (encL rBox p1)), (5, .int .i64 0)] rfl ?_
   exact Rc.fin (AHeap.Sub.refl _) ⟨N0 + 7, (by omega), rfl, rfl⟩
  ·
   clear H hse1
   rintro s1 fl a σ H ⟨M1, fM1_0, rfl, rfl⟩ K3 O3 hK3 hO3
   unfold l_eqBoxS_L1 at H; dsimp only at H
   refine AWP_sq [0, 1, 5] fun K4 hK4 => ?_
   refine AWP_sr tok [] [0, 1, 5, 14] (fun a σ => a = [(0, .fsl (encL rBox p0)), (1, .fsl (encL rBox p1)), (5, .int .i64 s1), (14, .bool (ilt s1 (ilen p0)))] ∧ σ = hp E0 [] (M1 + 4)) (fun K hK => ?_) ?_
   ·
    simp -dsimp -implicitDefEqProofs (maxDischargeDepth := 6)
    exact hK _ _ ⟨rfl, rfl⟩
   rintro a σ ⟨rfl, rfl⟩
   refine AWP_cond (ilt s1 (ilen p0)) rfl (fun C2 => ?_) (fun C2 => ?_)
   ·
    replace H := ifT C2 H
    refine AWP_skip ?_
    show K4 _ _
    refine keepE (l := [0, 1, 5]) (x := [(0, .fsl (encL rBox p0)), (1, .fsl (encL rBox p1)), (5, .int .i64 s1)]) rfl fun a' ha => ?_
    refine hK4 _ _ ?_; rw [ha]
    refine Rc.mk ?_
    refine AWP_sq [0, 1, 5] fun K5 hK5 => ?_
    refine AWP_block (AWP_thenB ?_)
    obtain ⟨v2, hv2, H⟩ := bindE H
    obtain ⟨v3, hv3, H⟩ := bindE H
    obtain ⟨r4, hr4, H⟩ := bindE H
    refine AWP_sd tok tokM [] [] [0, 1, 2, 3, 4, 5, 6, 7, 8, 9] [0, 1, 5, 26] (fun a σ => a = [(0, .fsl (encL rBox p0)), (1, .fsl (encL rBox p1)), (5, .int .i64 s1), (26, .bool (bnot r4))] ∧ σ = hp E0 [] (M1 + 14)) (by decide) (fun K hK => ?_) ?_
    ·
     simp only [pickL, nthO_succ, nthO_zero]
     simp -dsimp -implicitDefEqProofs (maxDischargeDepth := 6) [ix26 hv2, ix26 hv3]
     refine Pc.mk (c61 hr4) ?_; try simp -dsimp -implicitDefEqProofs (maxDischargeDepth := 6) [ix26 hv2, ix26 hv3]
     exact hK _ _ ⟨rfl, rfl⟩
    rintro a σ ⟨rfl, rfl⟩
    refine AWP_cond (bnot r4) rfl (fun C3 => ?_) (fun C3 => ?_)
    ·
     replace H := ifT C3 H
     refine AWP_sr tok [] [4] (fun a σ => a = [(4, .bool false)] ∧ σ = hp E0 [] (M1 + 15)) (fun K hK => ?_) ?_
     ·
      simp -dsimp -implicitDefEqProofs (maxDischargeDepth := 6)
      exact hK _ _ ⟨rfl, rfl⟩
     rintro a σ ⟨rfl, rfl⟩
     replace H := Option.some.inj H; subst H
     refine AWP_kp [4] [(4, .bool false)] rfl ?_
     refine AWP_ret (hO3 _ _ _ _ rfl ⟨rfl, ?_⟩)
     exact ⟨[.bool false], by simp, 4, by simp [encL_nil]⟩
    ·
     replace H := ifF C3 H
     refine AWP_skip ?_
     show K5 _ _
     refine keepE (l := [0, 1, 5]) (x := [(0, .fsl (encL rBox p0)), (1, .fsl (encL rBox p1)), (5, .int .i64 s1)]) rfl fun a' ha => ?_
     refine hK5 _ _ ?_; rw [ha]
     refine Rc.mk ?_
     refine AWP_rt tok [] [0, 1, 5] (fun a σ => a = [(0, .fsl (encL rBox p0)), (1, .fsl (encL rBox p1)), (5, .int .i64 (iadd .i64 s1 1))] ∧ σ = hp E0 [] (M1 + 17)) (fun K hK => ?_) ?_
     ·
      simp -dsimp -implicitDefEqProofs (maxDischargeDepth := 6)
      exact hK _ _ ⟨rfl, rfl⟩
     rintro a σ ⟨ha, rfl⟩
     replace H := Option.some.inj H; subst H
     refine hK3 _ _ _ rfl ?_; rw [ha]
     exact Rc.fin (AHeap.Sub.refl _) ⟨M1 + 17, (by omega), rfl, rfl⟩
   ·
    replace H := ifF C2 H
    replace H := Option.some.inj H; subst H
    refine AWP_exit (hO3 _ _ _ _ rfl ⟨rfl, ?_⟩)
    refine Rc.rw (l := []) (X := []) rfl ?_
    exact Rc.fin (AHeap.Sub.refl _) ⟨M1 + 4, (by omega), rfl, rfl⟩
  ·
   intro x a σ hx
   rcases e1 with ⟨⟩ | r0
   ·
    obtain ⟨rfl, b, τ, hr, M2, fM2_0, rfl, rfl⟩ := hx
    dsimp only at H
    show K2 _ _
    refine hK2 _ _ (Rc_ref hr ?_)
    refine Rc.mk ?_
    refine AWP_sr tok [] [4] (fun a σ => a = [(4, .bool true)] ∧ σ = hp E0 [] (M2 + 1)) (fun K hK => ?_) ?_
    ·
     simp -dsimp -implicitDefEqProofs (maxDischargeDepth := 6)
     exact hK _ _ ⟨rfl, rfl⟩
    rintro a σ ⟨rfl, rfl⟩
    replace H := Option.some.inj H; subst H
    refine AWP_kp [4] [(4, .bool true)] rfl ?_
    refine AWP_ret ?_
    exact ⟨[.bool true], by simp, 4, by simp [encL_nil]⟩
   ·
    obtain ⟨rfl, hx2⟩ := hx
    dsimp only at H
    replace H := Option.some.inj H; subst H; exact hx2
theorem c10 {p0 : gSquad} {p1 : gSquad} {r : Bool} (H : l_eqSquad p0 p1 = some r) : APure Tryd.prog G 10 [.agg [.fsl (encL rMachine p0.Harts), .fsl (encL rBox p0.Boxes), .int .i64 p0.Turn, .int .i64 p0.Idle, .fsl (encL rI p0.Out)], .agg [.fsl (encL rMachine p1.Harts), .fsl (encL rBox p1.Boxes), .int .i64 p1.Turn, .int .i64 p1.Idle, .fsl (encL rI p1.Out)]] (.bool r) := by
 refine APure_fn (fun N0 => ?_) (by simp)
 refine ACalls_fn tok Tryd.func10 (by kernel_rfl) rfl Tryd.ntmps10 Tryd.results10 rfl ?_
 simp only [argsA, Nat.reduceAdd, hp_next]
 unfold l_eqSquad at H
 refine AWP_sr tok [0, 1] [2, 3] (fun a σ => a = [(2, .fptr [.fsl (encL rMachine p0.Harts), .fsl (encL rBox p0.Boxes), .int .i64 p0.Turn, .int .i64 p0.Idle, .fsl (encL rI p0.Out)] 0), (3, .fptr [.fsl (encL rMachine p1.Harts), .fsl (encL rBox p1.Boxes), .int .i64 p1.Turn, .int .i64 p1.Idle, .fsl (encL rI p1.Out)] 0)] ∧ σ = hp E0 [] (N0 + 3)) (fun K hK => ?_) ?_
 ·
  simp -dsimp -implicitDefEqProofs (maxDischargeDepth := 6)
  exact hK _ _ ⟨rfl, rfl⟩
 rintro a σ ⟨rfl, rfl⟩
 refine AWP_sq [2, 3] fun K1 hK1 => ?_
 obtain ⟨r1, hr1, H⟩ := bindE H
 refine AWP_sr tok [] [2, 3, 10] (fun a σ => a = [(2, .fptr [.fsl (encL rMachine p0.Harts), .fsl (encL rBox p0.Boxes), .int .i64 p0.Turn, .int .i64 p0.Idle, .fsl (encL rI p0.Out)] 0), (3, .fptr [.fsl (encL rMachine p1.Harts), .fsl (encL rBox p1.Boxes), .int .i64 p1.Turn, .int .i64 p1.Idle, .fsl (encL rI p1.Out)] 0), (10, .bool (bnot r1))] ∧ σ = hp E0 [] (N0 + 9)) (fun K hK => ?_) ?_
 ·
  simp -dsimp -implicitDefEqProofs (maxDischargeDepth := 6)
  refine (c34 hr1).app ?_; try simp -dsimp -implicitDefEqProofs (maxDischargeDepth := 6)
  exact hK _ _ ⟨rfl, rfl⟩
 rintro a σ ⟨rfl, rfl⟩
 refine AWP_cond (bnot r1) rfl (fun C1 => ?_) (fun C1 => ?_)
 ·
  replace H := ifT C1 H
  refine AWP_sr tok [] [4] (fun a σ => a = [(4, .bool false)] ∧ σ = hp E0 [] (N0 + 10)) (fun K hK => ?_) ?_
  ·
   simp -dsimp -implicitDefEqProofs (maxDischargeDepth := 6)
   exact hK _ _ ⟨rfl, rfl⟩
  rintro a σ ⟨rfl, rfl⟩
  replace H := Option.some.inj H; subst H
  refine AWP_kp [4] [(4, .bool false)] rfl ?_
  refine AWP_ret ?_
  exact ⟨[.bool false], by simp, 4, by simp [encL_nil]⟩
 ·
  replace H := ifF C1 H
  refine AWP_skip ?_
  show K1 _ _
  refine keepE (l := [2, 3]) (x := [(2, .fptr [.fsl (encL rMachine p0.Harts), .fsl (encL rBox p0.Boxes), .int .i64 p0.Turn, .int .i64 p0.Idle, .fsl (encL rI p0.Out)] 0), (3, .fptr [.fsl (encL rMachine p1.Harts), .fsl (encL rBox p1.Boxes), .int .i64 p1.Turn, .int .i64 p1.Idle, .fsl (encL rI p1.Out)] 0)]) rfl fun a' ha => ?_
  refine hK1 _ _ ?_; rw [ha]
  refine Rc.mk ?_
  refine AWP_sq [2, 3] fun K2 hK2 => ?_
  obtain ⟨r2, hr2, H⟩ := bindE H
  refine AWP_sr tok [] [2, 3, 16] (fun a σ => a = [(2, .fptr [.fsl (encL rMachine p0.Harts), .fsl (encL rBox p0.Boxes), .int .i64 p0.Turn, .int .i64 p0.Idle, .fsl (encL rI p0.Out)] 0), (3, .fptr [.fsl (encL rMachine p1.Harts), .fsl (encL rBox p1.Boxes), .int .i64 p1.Turn, .int .i64 p1.Idle, .fsl (encL rI p1.Out)] 0), (16, .bool (bnot r2))] ∧ σ = hp E0 [] (N0 + 15)) (fun K hK => ?_) ?_
  ·
   simp -dsimp -implicitDefEqProofs (maxDischargeDepth := 6)
   refine (c35 hr2).app ?_; try simp -dsimp -implicitDefEqProofs (maxDischargeDepth := 6)
   exact hK _ _ ⟨rfl, rfl⟩
  rintro a σ ⟨rfl, rfl⟩
  refine AWP_cond (bnot r2) rfl (fun C2 => ?_) (fun C2 => ?_)
  ·
   replace H := ifT C2 H
   refine AWP_sr tok [] [4] (fun a σ => a = [(4, .bool false)] ∧ σ = hp E0 [] (N0 + 16)) (fun K hK => ?_) ?_
   ·
    simp -dsimp -implicitDefEqProofs (maxDischargeDepth := 6)
    exact hK _ _ ⟨rfl, rfl⟩
   rintro a σ ⟨rfl, rfl⟩
   replace H := Option.some.inj H; subst H
   refine AWP_kp [4] [(4, .bool false)] rfl ?_
   refine AWP_ret ?_
   exact ⟨[.bool false], by simp, 4, by simp [encL_nil]⟩
  ·
   replace H := ifF C2 H
   refine AWP_skip ?_
   show K2 _ _
   refine keepE (l := [2, 3]) (x := [(2, .fptr [.fsl (encL rMachine p0.Harts), .fsl (encL rBox p0.Boxes), .int .i64 p0.Turn, .int .i64 p0.Idle, .fsl (encL rI p0.Out)] 0), (3, .fptr [.fsl (encL rMachine p1.Harts), .fsl (encL rBox p1.Boxes), .int .i64 p1.Turn, .int .i64 p1.Idle, .fsl (encL rI p1.Out)] 0)]) rfl fun a' ha => ?_
   refine hK2 _ _ ?_; rw [ha]
   refine Rc.mk ?_
   refine AWP_sq [2, 3] fun K3 hK3 => ?_
   refine AWP_sr tok [] [2, 3, 21] (fun a σ => a = [(2, .fptr [.fsl (encL rMachine p0.Harts), .fsl (encL rBox p0.Boxes), .int .i64 p0.Turn, .int .i64 p0.Idle, .fsl (encL rI p0.Out)] 0), (3, .fptr [.fsl (encL rMachine p1.Harts), .fsl (encL rBox p1.Boxes), .int .i64 p1.Turn, .int .i64 p1.Idle, .fsl (encL rI p1.Out)] 0), (21, .bool (ine p0.Turn p1.Turn))] ∧ σ = hp E0 [] (N0 + 20)) (fun K hK => ?_) ?_
   ·
    simp -dsimp -implicitDefEqProofs (maxDischargeDepth := 6)
    exact hK _ _ ⟨rfl, rfl⟩
   rintro a σ ⟨rfl, rfl⟩
   refine AWP_cond (ine p0.Turn p1.Turn) rfl (fun C3 => ?_) (fun C3 => ?_)
   ·
    replace H := ifT C3 H
    refine AWP_sr tok [] [4] (fun a σ => a = [(4, .bool false)] ∧ σ = hp E0 [] (N0 + 21)) (fun K hK => ?_) ?_
    ·
     simp -dsimp -implicitDefEqProofs (maxDischargeDepth := 6)
     exact hK _ _ ⟨rfl, rfl⟩
    rintro a σ ⟨rfl, rfl⟩
    replace H := Option.some.inj H; subst H
    refine AWP_kp [4] [(4, .bool false)] rfl ?_
    refine AWP_ret ?_
    exact ⟨[.bool false], by simp, 4, by simp [encL_nil]⟩
   ·
    replace H := ifF C3 H
    refine AWP_skip ?_
    show K3 _ _
    refine keepE (l := [2, 3]) (x := [(2, .fptr [.fsl (encL rMachine p0.Harts), .fsl (encL rBox p0.Boxes), .int .i64 p0.Turn, .int .i64 p0.Idle, .fsl (encL rI p0.Out)] 0), (3, .fptr [.fsl (encL rMachine p1.Harts), .fsl (encL rBox p1.Boxes), .int .i64 p1.Turn, .int .i64 p1.Idle, .fsl (encL rI p1.Out)] 0)]) rfl fun a' ha => ?_
    refine hK3 _ _ ?_; rw [ha]
    refine Rc.mk ?_
    refine AWP_sq [2, 3] fun K4 hK4 => ?_
    refine AWP_sr tok [] [2, 3, 26] (fun a σ => a = [(2, .fptr [.fsl (encL rMachine p0.Harts), .fsl (encL rBox p0.Boxes), .int .i64 p0.Turn, .int .i64 p0.Idle, .fsl (encL rI p0.Out)] 0), (3, .fptr [.fsl (encL rMachine p1.Harts), .fsl (encL rBox p1.Boxes), .int .i64 p1.Turn, .int .i64 p1.Idle, .fsl (encL rI p1.Out)] 0), (26, .bool (ine p0.Idle p1.Idle))] ∧ σ = hp E0 [] (N0 + 25)) (fun K hK => ?_) ?_
    ·
     simp -dsimp -implicitDefEqProofs (maxDischargeDepth := 6)
     exact hK _ _ ⟨rfl, rfl⟩
    rintro a σ ⟨rfl, rfl⟩
    refine AWP_cond (ine p0.Idle p1.Idle) rfl (fun C4 => ?_) (fun C4 => ?_)
    ·
     replace H := ifT C4 H
     refine AWP_sr tok [] [4] (fun a σ => a = [(4, .bool false)] ∧ σ = hp E0 [] (N0 + 26)) (fun K hK => ?_) ?_
     ·
      simp -dsimp -implicitDefEqProofs (maxDischargeDepth := 6)
      exact hK _ _ ⟨rfl, rfl⟩
     rintro a σ ⟨rfl, rfl⟩
     replace H := Option.some.inj H; subst H
     refine AWP_kp [4] [(4, .bool false)] rfl ?_
     refine AWP_ret ?_
     exact ⟨[.bool false], by simp, 4, by simp [encL_nil]⟩
    ·
     replace H := ifF C4 H
     refine AWP_skip ?_
     show K4 _ _
     refine keepE (l := [2, 3]) (x := [(2, .fptr [.fsl (encL rMachine p0.Harts), .fsl (encL rBox p0.Boxes), .int .i64 p0.Turn, .int .i64 p0.Idle, .fsl (encL rI p0.Out)] 0), (3, .fptr [.fsl (encL rMachine p1.Harts), .fsl (encL rBox p1.Boxes), .int .i64 p1.Turn, .int .i64 p1.Idle, .fsl (encL rI p1.Out)] 0)]) rfl fun a' ha => ?_
     refine hK4 _ _ ?_; rw [ha]
     refine Rc.mk ?_
     refine AWP_sq [] fun K5 hK5 => ?_
     obtain ⟨r3, hr3, H⟩ := bindE H
     refine AWP_sr tok [] [32] (fun a σ => a = [(32, .bool (bnot r3))] ∧ σ = hp E0 [] (N0 + 31)) (fun K hK => ?_) ?_
     ·
      simp -dsimp -implicitDefEqProofs (maxDischargeDepth := 6)
      refine (c11 hr3).app ?_; try simp -dsimp -implicitDefEqProofs (maxDischargeDepth := 6)
      exact hK _ _ ⟨rfl, rfl⟩
     rintro a σ ⟨rfl, rfl⟩
     refine AWP_cond (bnot r3) rfl (fun C5 => ?_) (fun C5 => ?_)
     ·
      replace H := ifT C5 H
      refine AWP_sr tok [] [4] (fun a σ => a = [(4, .bool false)] ∧ σ = hp E0 [] (N0 + 32)) (fun K hK => ?_) ?_
      ·
       simp -dsimp -implicitDefEqProofs (maxDischargeDepth := 6)
       exact hK _ _ ⟨rfl, rfl⟩
      rintro a σ ⟨rfl, rfl⟩
      replace H := Option.some.inj H; subst H
      refine AWP_kp [4] [(4, .bool false)] rfl ?_
      refine AWP_ret ?_
      exact ⟨[.bool false], by simp, 4, by simp [encL_nil]⟩
     ·
      replace H := ifF C5 H
      refine AWP_skip ?_
      show K5 _ _
      refine keepE (l := []) (x := []) rfl fun a' ha => ?_
      refine hK5 _ _ ?_; rw [ha]
      refine Rc.mk ?_
      refine AWP_sr tok [] [4] (fun a σ => a = [(4, .bool true)] ∧ σ = hp E0 [] (N0 + 32)) (fun K hK => ?_) ?_
      ·
       simp -dsimp -implicitDefEqProofs (maxDischargeDepth := 6)
       exact hK _ _ ⟨rfl, rfl⟩
      rintro a σ ⟨rfl, rfl⟩
      replace H := Option.some.inj H; subst H
      refine AWP_kp [4] [(4, .bool true)] rfl ?_
      refine AWP_ret ?_
      exact ⟨[.bool true], by simp, 4, by simp [encL_nil]⟩
end Go.Proofs.YtlcilhmkbmgkeaaDoor
