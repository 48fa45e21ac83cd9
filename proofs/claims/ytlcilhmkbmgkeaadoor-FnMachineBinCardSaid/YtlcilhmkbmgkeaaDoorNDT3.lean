/- The contracts of functions of the program, part 3: each computes what its mirror computes. No conditions. -/
import Derived.Test.YtlcilhmkbmgkeaaDoorNDT2
set_option linter.unusedSimpArgs false
set_option linter.unusedVariables false
set_option maxRecDepth 20000
set_option maxHeartbeats 4000000
namespace Go.Proofs.YtlcilhmkbmgkeaaDoor
open Go Go.Abs Go.RowKit

theorem c113 {p0 : gInstrRow} {p1 : Int} {p2 : Int} {r : Bool} (H : i_instrRow_matches p0 p1 p2 = some r) : APure Tryd.prog G 113 [.agg [.str p0.name, .int .i64 p0.opcode, .int .i64 p0.funct3, .int .i64 p0.funct7], .int .i64 p1, .int .i64 p2] (.bool r) := by
 refine APure_fn (fun N0 => ?_) (by simp)
 refine ACalls_fn tok Tryd.func113 (by kernel_rfl) rfl Tryd.ntmps113 Tryd.results113 rfl ?_
 simp only [argsA, Nat.reduceAdd, hp_next]
 unfold i_instrRow_matches at H
 refine S0 tok [0] [1, 2, 3] ?_
 refine AWP_sq [1, 2, 3] fun K1 hK1 => ?_
 refine S0 tok [] [1, 2, 3, 11] ?_
 refine AWP_cond (ine p0.opcode (iand .i64 p2 127)) rfl (fun C1 => ?_) (fun C1 => ?_)
 ·
  replace H := ifT C1 H
  refine S0 tok [] [6] ?_
  replace H := oi H; subst H; exact AWP_ret ⟨_, rfl, 4, by simp [encL_nil]⟩
 ·
  replace H := ifF C1 H
  refine AWP_skip (Jn hK1 ?_)
  refine AWP_sq [] fun K2 hK2 => ?_
  obtain ⟨r1, hr1, H⟩ := bindE H
  refine Sx tok [] [2, 3, 13] (by intro K k; (repeat first | simp -dsimp -implicitDefEqProofs (maxDischargeDepth := 6) | refine (c93 hr1).app ?_); exact k) ?_
  refine AWP_block (AWP_thenB ?_)
  refine S0 tok [] [2, 3, 13, 14] ?_
  refine AWP_cond (ieq r1 82) rfl (fun C2 => ?_) (fun C2 => ?_)
  ·
   replace H := ifT C2 H
   obtain ⟨r2, hr2, H⟩ := bindE H
   obtain ⟨g4, hg4, H⟩ := bindE H
   refine AWP_sd tok tokM [] [] [0, 1, 2, 3, 4, 5, 6, 7, 8, 9, 10, 11, 12] [6] (fun a σ => a = [(6, .bool g4)] ∧ σ = hp E0 [] (N0 + 24)) (by decide) (fun K hK => ?_) ?_
   ·
    simp only [pickL, nthO_succ, nthO_zero]
    simp -dsimp -implicitDefEqProofs (maxDischargeDepth := 6)
    refine Pc.mk (c92 hr2) ?_; try simp -dsimp -implicitDefEqProofs (maxDischargeDepth := 6)
    cases hbg4 : ieq p0.funct3 r2
    ·
     replace hg4 := ifF hbg4 hg4
     replace hg4 := oi hg4; subst hg4
     try simp -dsimp -implicitDefEqProofs (maxDischargeDepth := 6) [hbg4]
     exact hK _ _ ⟨rfl, rfl⟩
    ·
     replace hg4 := ifT hbg4 hg4
     obtain ⟨r3, hr3, hg4⟩ := bindE hg4
     replace hg4 := oi hg4; subst hg4
     try simp -dsimp -implicitDefEqProofs (maxDischargeDepth := 6) [hbg4]
     refine Pc.mk (c92 hr3) ?_; try simp -dsimp -implicitDefEqProofs (maxDischargeDepth := 6) [hbg4]
     exact hK _ _ ⟨rfl, rfl⟩
   rintro a σ ⟨rfl, rfl⟩
   replace H := oi H; subst H; exact AWP_ret ⟨_, rfl, 4, by simp [encL_nil]⟩
  ·
   replace H := ifF C2 H
   obtain ⟨j1, hj1, H⟩ := bindE H
   refine AWP_seq (AWP_named fun K3 hK3 => ?_)
   have hJ1 : ∀ a σ, Rc G 37 N0 (fun a σ => ∃ M1 : Nat, N0 ≤ M1 ∧ a = [(2, .int .i64 p2), (3, .fptr [.str p0.name, .int .i64 p0.opcode, .int .i64 p0.funct3, .int .i64 p0.funct7] 0), (28, .bool j1)] ∧ σ = hp E0 [] M1) (a.keep [2, 3, 28]) σ → K3 a σ := by
    rintro a σ ⟨b, τ, hr, M1, fM1_0, rfl, rfl⟩
    refine hK3 _ _ (AWP_keep [2, 3, 28] (AWP_ref hr ?_))
    refine AWP_cond j1 rfl (fun C3 => ?_) (fun C3 => ?_)
    ·
     replace H := ifT C3 H
     obtain ⟨r6, hr6, H⟩ := bindE H
     refine Sd tok tokM [] [] [0, 1, 2, 3, 4, 5] [6] (by
      intro K k
      simp only [pickL, nthO_succ, nthO_zero]
      repeat first | simp -dsimp -implicitDefEqProofs (maxDischargeDepth := 6) | refine Pc.mk (c92 hr6) ?_
      exact k) ?_
     replace H := oi H; subst H; exact AWP_ret ⟨_, rfl, 4, by simp [encL_nil]⟩
    ·
     replace H := ifF C3 H
     refine AWP_skip (Jn hK2 ?_)
     refine S0 tok [] [6] ?_
     replace H := oi H; subst H; exact AWP_ret ⟨_, rfl, 4, by simp [encL_nil]⟩
   replace H := hj1
   refine S0 tok [] [2, 3, 13, 28] ?_
   refine AWP_cond (ieq r1 73) rfl (fun C4 => ?_) (fun C4 => ?_)
   ·
    replace H := ifT C4 H
    refine AWP_skip ?_
    show K3 _ _
    refine kE [2, 3, 28] fun a' ha => ?_
    replace H := oi H; subst H
    refine hJ1 _ _ ?_; rw [ha]
    exact Rc.fin (AHeap.Sub.refl _) ⟨N0 + 13, (by omega), rfl, rfl⟩
   ·
    replace H := ifF C4 H
    refine S0 tok [] [2, 3, 13, 28] ?_
    refine AWP_cond (ieq r1 83) rfl (fun C5 => ?_) (fun C5 => ?_)
    ·
     replace H := ifT C5 H
     refine AWP_skip ?_
     show K3 _ _
     refine kE [2, 3, 28] fun a' ha => ?_
     replace H := oi H; subst H
     refine hJ1 _ _ ?_; rw [ha]
     exact Rc.fin (AHeap.Sub.refl _) ⟨N0 + 15, (by omega), rfl, rfl⟩
    ·
     replace H := ifF C5 H
     refine AWP_rt tok [] [2, 3, 28] (fun a σ => a = [(2, .int .i64 p2), (3, .fptr [.str p0.name, .int .i64 p0.opcode, .int .i64 p0.funct3, .int .i64 p0.funct7] 0), (28, .bool (ieq r1 66))] ∧ σ = hp E0 [] (N0 + 17)) (fun K hK => ?_) ?_
     ·
      simp -dsimp -implicitDefEqProofs (maxDischargeDepth := 6)
      exact hK _ _ ⟨rfl, rfl⟩
     rintro a σ ⟨ha, rfl⟩
     replace H := oi H; subst H
     refine hJ1 _ _ ?_; rw [ha]
     exact Rc.fin (AHeap.Sub.refl _) ⟨N0 + 17, (by omega), rfl, rfl⟩
theorem c114 {p0 : Int} {p1 : Int} {r : gInstr} (H : i_decodeAs p0 p1 = some r) : APure Tryd.prog G 114 [.int .i64 p0, .int .i64 p1] (.agg [.int .i64 r.Op, .int .i64 r.Rd, .int .i64 r.Rs, .int .i64 r.Rt, .int .i64 r.Imm]) := by
 refine APure_fn (fun N0 => ?_) (by simp)
 refine ACalls_fn tok Tryd.func114 (by kernel_rfl) rfl Tryd.ntmps114 Tryd.results114 rfl ?_
 simp only [argsA, Nat.reduceAdd, hp_next]
 unfold i_decodeAs at H
 refine S0 tok [] [0, 1, 4] ?_
 obtain ⟨r1, hr1, H⟩ := bindE H
 obtain ⟨r2, hr2, H⟩ := bindE H
 obtain ⟨r3, hr3, H⟩ := bindE H
 refine Sx tok [] [0, 1, 4, 5, 6, 7] (by intro K k; (repeat first | simp -dsimp -implicitDefEqProofs (maxDischargeDepth := 6) | refine (c92 hr1).app ?_ | refine (c92 hr2).app ?_ | refine (c92 hr3).app ?_); exact k) ?_
 refine AWP_sq [0, 4] fun K1 hK1 => ?_
 obtain ⟨r4, hr4, H⟩ := bindE H
 refine Sx tok [] [0, 1, 4, 5, 6, 7, 17] (by intro K k; (repeat first | simp -dsimp -implicitDefEqProofs (maxDischargeDepth := 6) | refine (c93 hr4).app ?_); exact k) ?_
 refine AWP_block (AWP_thenB ?_)
 refine S0 tok [] [0, 1, 4, 5, 6, 7, 17, 18] ?_
 refine AWP_cond (ieq r4 82) rfl (fun C1 => ?_) (fun C1 => ?_)
 ·
  replace H := ifT C1 H
  refine S0 tok [] [4] ?_
  replace H := oi H; subst H
  refine Kp [4] ?_
  refine AWP_ret ?_
  exact ⟨[.agg [.int .i64 p0, .int .i64 r1, .int .i64 r2, .int .i64 r3, .int .i64 0]], by simp, 4, by simp [encL_nil]⟩
 ·
  replace H := ifF C1 H
  refine S0 tok [] [0, 1, 4, 5, 6, 7, 17, 25] ?_
  refine AWP_cond (ieq r4 73) rfl (fun C2 => ?_) (fun C2 => ?_)
  ·
   replace H := ifT C2 H
   obtain ⟨r5, hr5, H⟩ := bindE H
   obtain ⟨r6, hr6, H⟩ := bindE H
   refine Sx tok [] [4] (by intro K k; (repeat first | simp -dsimp -implicitDefEqProofs (maxDischargeDepth := 6) | refine (c92 hr5).app ?_ | refine (c105 hr6).app ?_); exact k) ?_
   replace H := oi H; subst H
   refine Kp [4] ?_
   refine AWP_ret ?_
   exact ⟨[.agg [.int .i64 p0, .int .i64 r1, .int .i64 r2, .int .i64 0, .int .i64 r6]], by simp, 4, by simp [encL_nil]⟩
  ·
   replace H := ifF C2 H
   refine S0 tok [] [0, 1, 4, 5, 6, 7, 17, 34] ?_
   refine AWP_cond (ieq r4 83) rfl (fun C3 => ?_) (fun C3 => ?_)
   ·
    replace H := ifT C3 H
    obtain ⟨r7, hr7, H⟩ := bindE H
    obtain ⟨v8, hv8, H⟩ := bindE H
    obtain ⟨r9, hr9, H⟩ := bindE H
    refine Sx tok [] [4] (by intro K k; (repeat first | simp -dsimp -implicitDefEqProofs (maxDischargeDepth := 6) [hv8] | refine (c92 hr7).app ?_ | refine (c105 hr9).app ?_); exact k) ?_
    replace H := oi H; subst H
    refine Kp [4] ?_
    refine AWP_ret ?_
    exact ⟨[.agg [.int .i64 p0, .int .i64 0, .int .i64 r2, .int .i64 r3, .int .i64 r9]], by simp, 4, by simp [encL_nil]⟩
   ·
    replace H := ifF C3 H
    refine S0 tok [] [0, 1, 4, 5, 6, 7, 17, 46] ?_
    refine AWP_cond (ieq r4 66) rfl (fun C4 => ?_) (fun C4 => ?_)
    ·
     replace H := ifT C4 H
     obtain ⟨r10, hr10, H⟩ := bindE H
     obtain ⟨v11, hv11, H⟩ := bindE H
     obtain ⟨r12, hr12, H⟩ := bindE H
     obtain ⟨v13, hv13, H⟩ := bindE H
     obtain ⟨r14, hr14, H⟩ := bindE H
     obtain ⟨v15, hv15, H⟩ := bindE H
     obtain ⟨r16, hr16, H⟩ := bindE H
     obtain ⟨v17, hv17, H⟩ := bindE H
     refine Sx tok [] [0, 4, 6, 7, 8] (by intro K k; (repeat first | simp -dsimp -implicitDefEqProofs (maxDischargeDepth := 6) [hv11, hv13, hv15, hv17] | refine (c92 hr10).app ?_ | refine (c92 hr12).app ?_ | refine (c92 hr14).app ?_ | refine (c92 hr16).app ?_); exact k) ?_
     obtain ⟨r18, hr18, H⟩ := bindE H
     refine Sx tok [] [4] (by intro K k; (repeat first | simp -dsimp -implicitDefEqProofs (maxDischargeDepth := 6) | refine (c105 hr18).app ?_); exact k) ?_
     replace H := oi H; subst H
     refine Kp [4] ?_
     refine AWP_ret ?_
     exact ⟨[.agg [.int .i64 p0, .int .i64 0, .int .i64 r2, .int .i64 r3, .int .i64 r18]], by simp, 4, by simp [encL_nil]⟩
    ·
     replace H := ifF C4 H
     refine S0 tok [] [0, 1, 4, 5, 17, 69] ?_
     refine AWP_cond (ieq r4 85) rfl (fun C5 => ?_) (fun C5 => ?_)
     ·
      replace H := ifT C5 H
      obtain ⟨r19, hr19, H⟩ := bindE H
      refine Sx tok [] [4] (by intro K k; (repeat first | simp -dsimp -implicitDefEqProofs (maxDischargeDepth := 6) | refine (c92 hr19).app ?_); exact k) ?_
      replace H := oi H; subst H
      refine Kp [4] ?_
      refine AWP_ret ?_
      exact ⟨[.agg [.int .i64 p0, .int .i64 r1, .int .i64 0, .int .i64 0, .int .i64 r19]], by simp, 4, by simp [encL_nil]⟩
     ·
      replace H := ifF C5 H
      refine S0 tok [] [0, 1, 4, 5, 76] ?_
      refine AWP_cond (ieq r4 74) rfl (fun C6 => ?_) (fun C6 => ?_)
      ·
       replace H := ifT C6 H
       obtain ⟨r20, hr20, H⟩ := bindE H
       obtain ⟨v21, hv21, H⟩ := bindE H
       obtain ⟨r22, hr22, H⟩ := bindE H
       obtain ⟨v23, hv23, H⟩ := bindE H
       obtain ⟨r24, hr24, H⟩ := bindE H
       obtain ⟨v25, hv25, H⟩ := bindE H
       obtain ⟨r26, hr26, H⟩ := bindE H
       obtain ⟨v27, hv27, H⟩ := bindE H
       refine Sx tok [] [0, 4, 5, 9] (by intro K k; (repeat first | simp -dsimp -implicitDefEqProofs (maxDischargeDepth := 6) [hv21, hv23, hv25, hv27] | refine (c92 hr20).app ?_ | refine (c92 hr22).app ?_ | refine (c92 hr24).app ?_ | refine (c92 hr26).app ?_); exact k) ?_
       obtain ⟨r28, hr28, H⟩ := bindE H
       refine Sx tok [] [4] (by intro K k; (repeat first | simp -dsimp -implicitDefEqProofs (maxDischargeDepth := 6) | refine (c105 hr28).app ?_); exact k) ?_
       replace H := oi H; subst H
       refine Kp [4] ?_
       refine AWP_ret ?_
       exact ⟨[.agg [.int .i64 p0, .int .i64 r1, .int .i64 0, .int .i64 0, .int .i64 r28]], by simp, 4, by simp [encL_nil]⟩
      ·
       replace H := ifF C6 H
       refine AWP_skip (Jn hK1 ?_)
       refine S0 tok [] [4] ?_
       replace H := oi H; subst H
       refine Kp [4] ?_
       refine AWP_ret ?_
       exact ⟨[.agg [.int .i64 p0, .int .i64 0, .int .i64 0, .int .i64 0, .int .i64 0]], by simp, 4, by simp [encL_nil]⟩
theorem c97 {p0 : Int} {r : gInstr × Bool} (H : i_InstrDecode p0 = some r) : APure Tryd.prog G 97 [.int .i64 p0] (.tup [.agg [.int .i64 r.1.Op, .int .i64 r.1.Rd, .int .i64 r.1.Rs, .int .i64 r.1.Rt, .int .i64 r.1.Imm], .bool r.2]) := by
 refine APure_fn (fun N0 => ?_) (by simp)
 refine ACalls_fn tok Tryd.func97 (by kernel_rfl) rfl Tryd.ntmps97 Tryd.results97 rfl ?_
 simp only [argsA, Nat.reduceAdd, hp_next]
 unfold i_InstrDecode at H
 refine S0 tok [] [0, 2] ?_
 refine AWP_sq [0, 2] fun K1 hK1 => ?_
 obtain ⟨r1, hr1, H⟩ := bindE H
 refine Sx tok [] [0, 2, 10] (by intro K k; (repeat first | simp -dsimp -implicitDefEqProofs (maxDischargeDepth := 6) | refine (c112 hr1).app ?_); exact k) ?_
 refine AWP_cond (bnot r1) rfl (fun C1 => ?_) (fun C1 => ?_)
 ·
  replace H := ifT C1 H
  refine S0 tok [] [2, 3] ?_
  replace H := oi H; subst H
  refine Kp [2, 3] ?_
  refine AWP_ret ?_
  exact ⟨[.agg [.int .i64 0, .int .i64 0, .int .i64 0, .int .i64 0, .int .i64 0], .bool false], by simp, 4, by simp [encL_nil]⟩
 ·
  replace H := ifF C1 H
  refine AWP_skip (Jn hK1 ?_)
  refine AWP_sq [2] fun K2 hK2 => ?_
  refine S0 tok [] [0, 2, 4] ?_
  refine AWP_block (AWP_thenB ?_)
  obtain ⟨e1, hse1, H⟩ := bindE H
  refine AWP_lp [0, 2, 4] (fun s a σ => ∃ M1 o1 : Nat, N0 ≤ M1 ∧ N0 ≤ o1 ∧ o1 < M1 ∧ a = [(0, .int .i64 p0), (2, .ptr o1 0 0), (4, .int .i64 s.1)] ∧ σ = hp E0 [(o1, some ⟨78, 5, [[.int .i64 s.2.Op, .int .i64 s.2.Rd, .int .i64 s.2.Rs, .int .i64 s.2.Rt, .int .i64 s.2.Imm]]⟩)] M1) (fun e x a σ => match e with | .inl s => x = .exit 0 ∧ Rc G 40 N0 (fun a σ => ∃ M2 o2 : Nat, N0 ≤ M2 ∧ N0 ≤ o2 ∧ o2 < M2 ∧ a = [(2, .ptr o2 0 0)] ∧ σ = hp E0 [(o2, some ⟨78, 5, [[.int .i64 s.Op, .int .i64 s.Rd, .int .i64 s.Rs, .int .i64 s.Rt, .int .i64 s.Imm]]⟩)] M2) (AAct.keep a [2]) σ | .inr s => x = .ret ∧ ∃ vs, resA T σ a [.cell 2 78, .tmp 3] = some vs ∧ ∃ d, thawA (fun _ => true) σ d (tupA vs) = .tup [.agg [.int .i64 s.1.Op, .int .i64 s.1.Rd, .int .i64 s.1.Rs, .int .i64 s.1.Rt, .int .i64 s.1.Imm], .bool s.2]) hse1 ?_ ?_ ?_
  ·
   refine Rc.kp [0, 2, 4] [(0, .int .i64 p0), (2, .ptr N0 0 0), (4, .int .i64 1)] rfl ?_
   exact Rc.fin (AHeap.Sub.refl _) ⟨N0 + 6, N0, (by omega), (by omega), (by omega), rfl, rfl⟩
  ·
   clear H hse1
   rintro ⟨s2, s3⟩ fl a σ H ⟨M1, o1, fM1_0, fM1_1, fM1_2, rfl, rfl⟩ K3 O3 hK3 hO3
   unfold i_InstrDecode_L1 at H; dsimp only at H
   refine AWP_sq [0, 2, 4] fun K4 hK4 => ?_
   refine S0 tok [] [0, 2, 4, 13] ?_
   refine AWP_cond (ile s2 21) rfl (fun C2 => ?_) (fun C2 => ?_)
   ·
    replace H := ifT C2 H
    refine AWP_skip (Jn hK4 ?_)
    refine AWP_sq [0, 2, 4] fun K5 hK5 => ?_
    refine AWP_block (AWP_thenB ?_)
    refine AWP_sq [0, 2, 4] fun K6 hK6 => ?_
    obtain ⟨v5, hv5, H⟩ := bindE H
    obtain ⟨r6, hr6, H⟩ := bindE H
    refine Sx tok [] [0, 2, 4, 23] (by intro K k; (repeat first | simp -dsimp -implicitDefEqProofs (maxDischargeDepth := 6) [gx119 hv5] | refine (c113 hr6).app ?_); exact k) ?_
    refine AWP_cond (bnot r6) rfl (fun C3 => ?_) (fun C3 => ?_)
    ·
     replace H := ifT C3 H
     refine AWP_exit ?_
     show K5 _ _
     refine kE [0, 2, 4] fun a' ha => ?_
     refine hK5 _ _ ?_; rw [ha]
     refine Rc.mk ?_
     refine AWP_rt tok [] [0, 2, 4] (fun a σ => a = [(0, .int .i64 p0), (2, .ptr o1 0 0), (4, .int .i64 (iadd .i64 s2 1))] ∧ σ = hp E0 [(o1, some ⟨78, 5, [[.int .i64 s3.Op, .int .i64 s3.Rd, .int .i64 s3.Rs, .int .i64 s3.Rt, .int .i64 s3.Imm]]⟩)] (M1 + 13)) (fun K hK => ?_) ?_
     ·
      simp -dsimp -implicitDefEqProofs (maxDischargeDepth := 6)
      exact hK _ _ ⟨rfl, rfl⟩
     rintro a σ ⟨ha, rfl⟩
     replace H := oi H; subst H
     refine hK3 _ _ _ rfl ?_; rw [ha]
     exact Rc.fin (AHeap.Sub.refl _) ⟨M1 + 13, o1, (by omega), (by omega), (by omega), rfl, rfl⟩
    ·
     replace H := ifF C3 H
     refine AWP_skip (Jn hK6 ?_)
     obtain ⟨r7, hr7, H⟩ := bindE H
     refine Sx tok [] [0, 2, 4, 5] (by
      intro K k
      have e0 := nQ o1 (M1 + 13)
      repeat first | simp -dsimp -implicitDefEqProofs (maxDischargeDepth := 6) [e0] | refine (c114 hr7).app ?_
      exact k) ?_
     obtain ⟨r8, hr8, H⟩ := bindE H
     refine Sx tok [] [0, 2, 4, 5, 6, 7] (by
      intro K k
      have e0 := nQ o1 (M1 + 13)
      repeat first | simp -dsimp -implicitDefEqProofs (maxDischargeDepth := 6) [e0] | refine (c50 hr8).app ?_
      exact k) ?_
     obtain ⟨g9, hg9, H⟩ := bindE H
     refine AWP_sr tok [] [0, 2, 4, 5, 37] (fun a σ => a = [(0, .int .i64 p0), (2, .ptr o1 0 0), (4, .int .i64 s2), (5, .ptr (M1 + 13) 0 0), (37, .bool g9)] ∧ σ = hp E0 [(o1, some ⟨78, 5, [[.int .i64 s3.Op, .int .i64 s3.Rd, .int .i64 s3.Rs, .int .i64 s3.Rt, .int .i64 s3.Imm]]⟩), (M1 + 13, some ⟨78, 5, [[.int .i64 r7.Op, .int .i64 r7.Rd, .int .i64 r7.Rs, .int .i64 r7.Rt, .int .i64 r7.Imm]]⟩)] (M1 + 28)) (fun K hK => ?_) ?_
     ·
      have e0 := nQ o1 (M1 + 13)
      simp -dsimp -implicitDefEqProofs (maxDischargeDepth := 6) [e0]
      cases hbg9 : r8.2
      ·
       replace hg9 := ifF hbg9 hg9
       replace hg9 := oi hg9; subst hg9
       try simp -dsimp -implicitDefEqProofs (maxDischargeDepth := 6) [e0, hbg9]
       exact hK _ _ ⟨rfl, rfl⟩
      ·
       replace hg9 := ifT hbg9 hg9
       replace hg9 := oi hg9; subst hg9
       try simp -dsimp -implicitDefEqProofs (maxDischargeDepth := 6) [e0, hbg9]
       exact hK _ _ ⟨rfl, rfl⟩
     rintro a σ ⟨rfl, rfl⟩
     refine AWP_cond g9 rfl (fun C4 => ?_) (fun C4 => ?_)
     ·
      replace H := ifT C4 H
      refine Sx tok [] [2, 3] (by
       intro K k
       have e0 := nQ o1 (M1 + 13)
       simp -dsimp -implicitDefEqProofs (maxDischargeDepth := 6) [e0]
       exact k) ?_
      replace H := oi H; subst H
      refine Kp [2, 3] ?_
      have z0 := nQ o1 (M1 + 13)
      refine AWP_ret (hO3 _ _ _ _ rfl ⟨rfl, ?_⟩)
      exact ⟨[.agg [.int .i64 r7.Op, .int .i64 r7.Rd, .int .i64 r7.Rs, .int .i64 r7.Rt, .int .i64 r7.Imm], .bool true], by simp [z0], 4, by simp [encL_nil, z0]⟩
     ·
      replace H := ifF C4 H
      refine AWP_skip (Jn hK5 ?_)
      refine AWP_rt tok [] [0, 2, 4] (fun a σ => a = [(0, .int .i64 p0), (2, .ptr o1 0 0), (4, .int .i64 (iadd .i64 s2 1))] ∧ σ = hp E0 [(o1, some ⟨78, 5, [[.int .i64 s3.Op, .int .i64 s3.Rd, .int .i64 s3.Rs, .int .i64 s3.Rt, .int .i64 s3.Imm]]⟩), (M1 + 13, some ⟨78, 5, [[.int .i64 r7.Op, .int .i64 r7.Rd, .int .i64 r7.Rs, .int .i64 r7.Rt, .int .i64 r7.Imm]]⟩)] (M1 + 31)) (fun K hK => ?_) ?_
      ·
       have e0 := nQ o1 (M1 + 13)
       simp -dsimp -implicitDefEqProofs (maxDischargeDepth := 6) [e0]
       exact hK _ _ ⟨rfl, rfl⟩
      rintro a σ ⟨ha, rfl⟩
      replace H := oi H; subst H
      refine hK3 _ _ _ rfl ?_; rw [ha]
      exact Rc.fin (hp_skip (AHeap.Sub.trans (AHeap.Sub.refl _) (hp_drop rfl (by simp; try omega)))) ⟨M1 + 31, o1, (by omega), (by omega), (by omega), rfl, rfl⟩
   ·
    replace H := ifF C2 H
    replace H := oi H; subst H
    refine AWP_exit (hO3 _ _ _ _ rfl ⟨rfl, ?_⟩)
    refine Rc.rw (l := [2]) (X := [(2, .ptr o1 0 0)]) rfl ?_
    exact Rc.fin (AHeap.Sub.refl _) ⟨M1 + 2, o1, (by omega), (by omega), (by omega), rfl, rfl⟩
  ·
   intro x a σ hx
   rcases e1 with y4 | r0
   ·
    obtain ⟨rfl, b, τ, hr, M2, o2, fM2_0, fM2_1, fM2_2, rfl, rfl⟩ := hx
    dsimp only at H
    show K2 _ _
    refine hK2 _ _ (Rc_ref hr ?_)
    refine Rc.mk ?_
    refine S0 tok [] [2, 3] ?_
    replace H := oi H; subst H
    refine Kp [2, 3] ?_
    refine AWP_ret ?_
    exact ⟨[.agg [.int .i64 0, .int .i64 0, .int .i64 0, .int .i64 0, .int .i64 0], .bool false], by simp, 4, by simp [encL_nil]⟩
   ·
    obtain ⟨rfl, hx2⟩ := hx
    dsimp only at H
    replace H := oi H; subst H; exact hx2
theorem c96_c0_2_moo {p0 : gMachine} {p1 : Int} {r : Option Int} (H : i_Machine_word_c0_2_moo p0 p1 = some r) {σ : AHeap} {w0 : Nat} {W0 : List (List AV)} {r0_ : Nat} {w0c2 : Nat} (q0 : σ.objs w0 = some ⟨53, 3, W0⟩) (g0 : W0[r0_]? = some [.osl 3 1 (encL rI p0.Regs), .int .i64 p0.Pc, .sl w0c2 0 p0.Mem.length]) (q0c2 : σ.objs w0c2 = some ⟨3, 1, encL rI p0.Mem⟩) (d0_1 : ¬ w0 = w0c2) : ACalls Tryd.prog G 96 [.ptr w0 r0_ 0, .int .i64 p1] σ (fun v σ' => ∃ M : Nat, σ.next ≤ M ∧ v = optp w0c2 r ∧ σ' = hp σ.objs [(w0, some ⟨53, 3, W0⟩), (w0c2, some ⟨3, 1, encL rI p0.Mem⟩)] M) := by
 refine ACalls_fr (L := [(w0, some ⟨53, 3, W0⟩), (w0c2, some ⟨3, 1, encL rI p0.Mem⟩)]) (Q1 := fun v σ' => ∃ M : Nat, σ.next ≤ M ∧ v = optp w0c2 r ∧ σ' = hp E0 [(w0, some ⟨53, 3, W0⟩), (w0c2, some ⟨3, 1, encL rI p0.Mem⟩)] M) (by simp [q0, q0c2]) (fun hlt => ?_) ?_ ⟨_, Tryd.func96, rfl, rfl⟩
 rotate_left
 ·
  rintro v σ1 ⟨M, h0, rfl, rfl⟩
  exact ⟨_, M, rfl, by simp, by simp; try omega, M, h0, rfl, rfl⟩
 generalize σ.next = N0 at hlt ⊢
 have lw0 : w0 < N0 := hlt _ (.head _) rfl
 have lw0c2 : w0c2 < N0 := hlt _ (.tail _ (.head _)) rfl
 have gs_W0 : ∀ x, (W0.set r0_ x)[r0_]? = some x := gsetW g0
 rw [show W0 = W0.set r0_ [.osl 3 1 (encL rI p0.Regs), .int .i64 p0.Pc, .sl w0c2 0 p0.Mem.length] from (set_same g0).symm]
 refine ACalls_fn tok Tryd.func96 (by kernel_rfl) rfl Tryd.ntmps96 Tryd.results96 rfl ?_
 simp only [argsA, Nat.reduceAdd, hp_next]
 unfold i_Machine_word_c0_2_moo at H
 refine Sx tok [] [0, 1] (by
  intro K k
  have e0 := nQ w0 w0c2
  simp -dsimp -implicitDefEqProofs (maxDischargeDepth := 6) [e0, gs_W0, List.set_set]
  exact k) ?_
 refine AWP_sq [0, 1] fun K1 hK1 => ?_
 obtain ⟨g2, hg2, H⟩ := bindE H
 obtain ⟨g4, hg4, H⟩ := bindE H
 refine AWP_sr tok [] [0, 1, 21] (fun a σ => a = [(0, .ptr w0 r0_ 0), (1, .int .i64 p1), (21, .bool g4)] ∧ σ = hp E0 [(w0, some ⟨53, 3, W0.set r0_ [.osl 3 1 (encL rI p0.Regs), .int .i64 p0.Pc, .sl w0c2 0 p0.Mem.length]⟩), (w0c2, some ⟨3, 1, encL rI p0.Mem⟩)] (N0 + 18)) (fun K hK => ?_) ?_
 ·
  have e0 := nQ w0 w0c2
  simp -dsimp -implicitDefEqProofs (maxDischargeDepth := 6) [e0, gs_W0, List.set_set]
  cases hbg2 : ilt p1 0
  ·
   replace hg2 := ifF hbg2 hg2
   obtain ⟨v1, hv1, hg2⟩ := bindE hg2
   replace hg2 := oi hg2; subst hg2
   try simp -dsimp -implicitDefEqProofs (maxDischargeDepth := 6) [e0, gs_W0, List.set_set, hbg2, hv1]
   cases hbg4 : (ine v1 0)
   ·
    replace hg4 := ifF hbg4 hg4
    obtain ⟨v3, hv3, hg4⟩ := bindE hg4
    replace hg4 := oi hg4; subst hg4
    try simp -dsimp -implicitDefEqProofs (maxDischargeDepth := 6) [e0, gs_W0, List.set_set, hbg2, hv1, hbg4, hv3]
    exact hK _ _ ⟨rfl, rfl⟩
   ·
    replace hg4 := ifT hbg4 hg4
    replace hg4 := oi hg4; subst hg4
    try simp -dsimp -implicitDefEqProofs (maxDischargeDepth := 6) [e0, gs_W0, List.set_set, hbg2, hv1, hbg4]
    exact hK _ _ ⟨rfl, rfl⟩
  ·
   replace hg2 := ifT hbg2 hg2
   replace hg2 := oi hg2; subst hg2
   try simp -dsimp -implicitDefEqProofs (maxDischargeDepth := 6) [e0, gs_W0, List.set_set, hbg2]
   replace hg4 := ifT rfl hg4
   replace hg4 := oi hg4; subst hg4
   try simp -dsimp -implicitDefEqProofs (maxDischargeDepth := 6) [e0, gs_W0, List.set_set, hbg2]
   exact hK _ _ ⟨rfl, rfl⟩
 rintro a σ ⟨rfl, rfl⟩
 refine AWP_cond g4 rfl (fun C1 => ?_) (fun C1 => ?_)
 ·
  replace H := ifT C1 H
  refine Sx tok [] [4] (by
   intro K k
   have e0 := nQ w0 w0c2
   simp -dsimp -implicitDefEqProofs (maxDischargeDepth := 6) [e0, gs_W0, List.set_set]
   exact k) ?_
  replace H := oi H; subst H
  refine Kp [4] ?_
  refine AWP_ret ?_
  refine ⟨[.nilp], by simp, N0 + 19, by omega, ?_, ?_⟩
  ·
   simp
  ·
   rw [set_same g0]
 ·
  replace H := ifF C1 H
  refine AWP_skip (Jn hK1 ?_)
  obtain ⟨v5, hv5, H⟩ := bindE H
  obtain ⟨v6, hv6, H⟩ := bindE H
  refine Sx tok [] [4] (by
   intro K k
   have e0 := nQ w0 w0c2
   simp -dsimp -implicitDefEqProofs (maxDischargeDepth := 6) [e0, gs_W0, List.set_set, hv5, ixo22 hv6, (idx_lt3 hv6).2.2]
   exact k) ?_
  replace H := oi H; subst H
  refine Kp [4] ?_
  refine AWP_ret ?_
  refine ⟨[.ptr w0c2 v5.toNat 0], by simp, N0 + 26, by omega, ?_, ?_⟩
  ·
   simp
  ·
   rw [set_same g0]
theorem c98_moo {p0 : gMachine} {p1 : Int} {p2 : Int} {r : gMachine} (H : i_Machine_set_moo p0 p1 p2 = some r) {σ : AHeap} {w0 : Nat} {W0 : List (List AV)} {r0_ : Nat} (q0 : σ.objs w0 = some ⟨53, 3, W0⟩) (g0 : W0[r0_]? = some [.osl 3 1 (encL rI p0.Regs), .int .i64 p0.Pc, .osl 3 1 (encL rI p0.Mem)]) : ACalls Tryd.prog G 98 [.ptr w0 r0_ 0, .int .i64 p1, .int .i64 p2] σ (fun v σ' => ∃ M : Nat, σ.next ≤ M ∧ v = .tup [] ∧ σ' = hp σ.objs [(w0, some ⟨53, 3, W0.set r0_ [.osl 3 1 (encL rI r.Regs), .int .i64 r.Pc, .osl 3 1 (encL rI r.Mem)]⟩)] M) := by
 refine ACalls_fr (L := [(w0, some ⟨53, 3, W0⟩)]) (Q1 := fun v σ' => ∃ M : Nat, σ.next ≤ M ∧ v = .tup [] ∧ σ' = hp E0 [(w0, some ⟨53, 3, W0.set r0_ [.osl 3 1 (encL rI r.Regs), .int .i64 r.Pc, .osl 3 1 (encL rI r.Mem)]⟩)] M) (by simp [q0]) (fun hlt => ?_) ?_ ⟨_, Tryd.func98, rfl, rfl⟩
 rotate_left
 ·
  rintro v σ1 ⟨M, h0, rfl, rfl⟩
  exact ⟨_, M, rfl, by simp, by simp; try omega, M, h0, rfl, rfl⟩
 generalize σ.next = N0 at hlt ⊢
 have lw0 : w0 < N0 := hlt _ (.head _) rfl
 have gs_W0 : ∀ x, (W0.set r0_ x)[r0_]? = some x := gsetW g0
 rw [show W0 = W0.set r0_ [.osl 3 1 (encL rI p0.Regs), .int .i64 p0.Pc, .osl 3 1 (encL rI p0.Mem)] from (set_same g0).symm]
 refine ACalls_fn tok Tryd.func98 (by kernel_rfl) rfl Tryd.ntmps98 Tryd.results98 rfl ?_
 simp only [argsA, Nat.reduceAdd, hp_next]
 unfold i_Machine_set_moo at H
 refine AWP_end [] fun KE hKE => ?_
 refine Sx tok [] [0, 1, 2, 7] (by intro K k; simp -dsimp -implicitDefEqProofs (maxDischargeDepth := 6) [gs_W0, List.set_set]; exact k) ?_
 refine AWP_cond (ine p1 0) rfl (fun C1 => ?_) (fun C1 => ?_)
 ·
  replace H := ifT C1 H
  refine gU AWP_ref w0 r0_ 0 ?_ (hr := by exact gs_W0 _)
  obtain ⟨v1, hv1, H⟩ := bindE H
  obtain ⟨l2, hl2, H⟩ := bindE H
  refine AWP_rt tok [] [] (fun a σ => a = [] ∧ σ = hp E0 [(w0, some ⟨53, 3, W0.set r0_ [.sl (N0 + 2) 0 p0.Regs.length, .int .i64 p0.Pc, .osl 3 1 (encL rI p0.Mem)]⟩), (N0 + 2, some ⟨3, 1, encL rI l2⟩)] (N0 + 11)) (fun K hK => ?_) ?_
  ·
   have e0 := nQ w0 (N0 + 2)
   simp -dsimp -implicitDefEqProofs (maxDischargeDepth := 6) [e0, gs_W0, List.set_set, ixo22 hv1, (idx_lt3 hv1).2.2, (setx_iff.1 hl2).2.symm]
   exact hK _ _ ⟨rfl, rfl⟩
  rintro a σ ⟨ha, rfl⟩
  (try rw [← setx_len hl2] at ha); (try rw [← setx_len hl2])
  replace H := oi H; subst H
  refine hKE _ _ ?_; rw [ha]
  refine Rc.kp [] [] rfl ?_
  refine gP Rc_ref w0 r0_ 0 ?_ (hr := by exact gs_W0 _)
  refine Rc.mk ?_
  refine ⟨[], by simp [gs_W0], N0 + 11, by omega, ?_, ?_⟩
  ·
   simp [encL_nil]
  ·
   first | rfl | simp [List.set_set]
 ·
  replace H := ifF C1 H
  refine AWP_skip ?_
  show KE _ _
  refine kE [] fun a' ha => ?_
  replace H := oi H; subst H
  refine hKE _ _ ?_; rw [ha]
  refine Rc.kp [] [] rfl ?_
  refine Rc.mk ?_
  refine ⟨[], by simp [gs_W0], N0 + 2, by omega, ?_, ?_⟩
  ·
   simp [encL_nil]
  ·
   first | rfl | simp [List.set_set]
theorem c99 {p0 : Bool} {r : Int} (H : i_truth p0 = some r) : APure Tryd.prog G 99 [.bool p0] (.int .i64 r) := by
 refine APure_fn (fun N0 => ?_) (by simp)
 refine ACalls_fn tok Tryd.func99 (by kernel_rfl) rfl Tryd.ntmps99 Tryd.results99 rfl ?_
 simp only [argsA, Nat.reduceAdd, hp_next]
 unfold i_truth at H
 refine S0 tok [] [0] ?_
 refine AWP_sq [] fun K1 hK1 => ?_
 refine S0 tok [] [3] ?_
 refine AWP_cond p0 rfl (fun C1 => ?_) (fun C1 => ?_)
 ·
  replace H := ifT C1 H
  refine S0 tok [] [2] ?_
  replace H := oi H; subst H; exact AWP_ret ⟨_, rfl, 4, by simp [encL_nil]⟩
 ·
  replace H := ifF C1 H
  refine AWP_skip (Jn hK1 ?_)
  refine S0 tok [] [2] ?_
  replace H := oi H; subst H; exact AWP_ret ⟨_, rfl, 4, by simp [encL_nil]⟩
theorem c98_c0_2_moo {p0 : gMachine} {p1 : Int} {p2 : Int} {r : gMachine} (H : i_Machine_set_c0_2_moo p0 p1 p2 = some r) {σ : AHeap} {w0 : Nat} {W0 : List (List AV)} {r0_ : Nat} {w0c2 : Nat} (q0 : σ.objs w0 = some ⟨53, 3, W0⟩) (g0 : W0[r0_]? = some [.osl 3 1 (encL rI p0.Regs), .int .i64 p0.Pc, .sl w0c2 0 p0.Mem.length]) (q0c2 : σ.objs w0c2 = some ⟨3, 1, encL rI p0.Mem⟩) (d0_1 : ¬ w0 = w0c2) : ACalls Tryd.prog G 98 [.ptr w0 r0_ 0, .int .i64 p1, .int .i64 p2] σ (fun v σ' => ∃ M : Nat, σ.next ≤ M ∧ v = .tup [] ∧ σ' = hp σ.objs [(w0, some ⟨53, 3, W0.set r0_ [.osl 3 1 (encL rI r.Regs), .int .i64 r.Pc, .osl 3 1 (encL rI r.Mem)]⟩), (w0c2, none)] M) := by
 refine ACalls_fr (L := [(w0, some ⟨53, 3, W0⟩), (w0c2, some ⟨3, 1, encL rI p0.Mem⟩)]) (Q1 := fun v σ' => ∃ M : Nat, σ.next ≤ M ∧ v = .tup [] ∧ σ' = hp E0 [(w0, some ⟨53, 3, W0.set r0_ [.osl 3 1 (encL rI r.Regs), .int .i64 r.Pc, .osl 3 1 (encL rI r.Mem)]⟩), (w0c2, none)] M) (by simp [q0, q0c2]) (fun hlt => ?_) ?_ ⟨_, Tryd.func98, rfl, rfl⟩
 rotate_left
 ·
  rintro v σ1 ⟨M, h0, rfl, rfl⟩
  exact ⟨_, M, rfl, by simp, by simp; try omega, M, h0, rfl, rfl⟩
 generalize σ.next = N0 at hlt ⊢
 have lw0 : w0 < N0 := hlt _ (.head _) rfl
 have lw0c2 : w0c2 < N0 := hlt _ (.tail _ (.head _)) rfl
 have gs_W0 : ∀ x, (W0.set r0_ x)[r0_]? = some x := gsetW g0
 rw [show W0 = W0.set r0_ [.osl 3 1 (encL rI p0.Regs), .int .i64 p0.Pc, .sl w0c2 0 p0.Mem.length] from (set_same g0).symm]
 refine ACalls_fn tok Tryd.func98 (by kernel_rfl) rfl Tryd.ntmps98 Tryd.results98 rfl ?_
 simp only [argsA, Nat.reduceAdd, hp_next]
 unfold i_Machine_set_c0_2_moo at H
 refine AWP_end [] fun KE hKE => ?_
 refine Sx tok [] [0, 1, 2, 7] (by
  intro K k
  have e0 := nQ w0 w0c2
  simp -dsimp -implicitDefEqProofs (maxDischargeDepth := 6) [e0, gs_W0, List.set_set]
  exact k) ?_
 refine AWP_cond (ine p1 0) rfl (fun C1 => ?_) (fun C1 => ?_)
 ·
  replace H := ifT C1 H
  refine gU AWP_ref w0 r0_ 0 ?_ (hr := by exact gs_W0 _)
  obtain ⟨v1, hv1, H⟩ := bindE H
  obtain ⟨l2, hl2, H⟩ := bindE H
  refine AWP_rt tok [] [] (fun a σ => a = [] ∧ σ = hp E0 [(w0, some ⟨53, 3, W0.set r0_ [.sl (N0 + 2) 0 p0.Regs.length, .int .i64 p0.Pc, .sl w0c2 0 p0.Mem.length]⟩), (w0c2, some ⟨3, 1, encL rI p0.Mem⟩), (N0 + 2, some ⟨3, 1, encL rI l2⟩)] (N0 + 11)) (fun K hK => ?_) ?_
  ·
   have e0 := nQ w0 w0c2
   have e1 := nQ w0 (N0 + 2)
   have e2 := nQ w0c2 (N0 + 2)
   simp -dsimp -implicitDefEqProofs (maxDischargeDepth := 6) [e0, e1, e2, gs_W0, List.set_set, ixo22 hv1, (idx_lt3 hv1).2.2, (setx_iff.1 hl2).2.symm]
   exact hK _ _ ⟨rfl, rfl⟩
  rintro a σ ⟨ha, rfl⟩
  (try rw [← setx_len hl2] at ha); (try rw [← setx_len hl2])
  replace H := oi H; subst H
  refine hKE _ _ ?_; rw [ha]
  refine Rc.kp [] [] rfl ?_
  refine gP Rc_ref w0 r0_ 0 ?_ (hr := by exact gs_W0 _)
  refine gP Rc_ref w0 r0_ 2 ?_ (hr := by exact gs_W0 _)
  refine Rc.mk ?_
  refine ⟨[], by simp [gs_W0], N0 + 11, by omega, ?_, ?_⟩
  ·
   simp [encL_nil]
  ·
   symm; first | exact hp_tail (L := [(w0, some ⟨53, 3, W0.set r0_ [.osl 3 1 (encL rI l2), .int .i64 p0.Pc, .osl 3 1 (encL rI p0.Mem)]⟩)]) | (simp only [List.set_set]; exact hp_tail (L := [(w0, some ⟨53, 3, W0.set r0_ [.osl 3 1 (encL rI l2), .int .i64 p0.Pc, .osl 3 1 (encL rI p0.Mem)]⟩)]))
 ·
  replace H := ifF C1 H
  refine AWP_skip ?_
  show KE _ _
  refine kE [] fun a' ha => ?_
  replace H := oi H; subst H
  refine hKE _ _ ?_; rw [ha]
  refine Rc.kp [] [] rfl ?_
  refine gP Rc_ref w0 r0_ 2 ?_ (hr := by exact gs_W0 _)
  refine Rc.mk ?_
  refine ⟨[], by simp [gs_W0], N0 + 2, by omega, ?_, ?_⟩
  ·
   simp [encL_nil]
  ·
   symm; first | exact hp_tail (L := [(w0, some ⟨53, 3, W0.set r0_ [.osl 3 1 (encL rI p0.Regs), .int .i64 p0.Pc, .osl 3 1 (encL rI p0.Mem)]⟩)]) | (simp only [List.set_set]; exact hp_tail (L := [(w0, some ⟨53, 3, W0.set r0_ [.osl 3 1 (encL rI p0.Regs), .int .i64 p0.Pc, .osl 3 1 (encL rI p0.Mem)]⟩)]))
theorem c56 {p0 : Int} {p1 : Int} {p2 : Int} {r : Int} (H : i_apply p0 p1 p2 = some r) : APure Tryd.prog G 56 [.int .i64 p0, .int .i64 p1, .int .i64 p2] (.int .i64 r) := by
 refine APure_fn (fun N0 => ?_) (by simp)
 refine ACalls_fn tok Tryd.func56 (by kernel_rfl) rfl Tryd.ntmps56 Tryd.results56 rfl ?_
 simp only [argsA, Nat.reduceAdd, hp_next]
 unfold i_apply at H
 refine S0 tok [] [0, 1, 2] ?_
 refine AWP_sq [1, 2] fun K1 hK1 => ?_
 refine S0 tok [] [1, 2, 7] ?_
 refine AWP_block (AWP_thenB ?_)
 refine S0 tok [] [1, 2, 7, 8] ?_
 refine AWP_cond (ieq p0 1) rfl (fun C1 => ?_) (fun C1 => ?_)
 ·
  replace H := ifT C1 H
  refine S0 tok [] [6] ?_
  replace H := oi H; subst H; exact AWP_ret ⟨_, rfl, 4, by simp [encL_nil]⟩
 ·
  replace H := ifF C1 H
  refine S0 tok [] [1, 2, 7, 13] ?_
  refine AWP_cond (ieq p0 2) rfl (fun C2 => ?_) (fun C2 => ?_)
  ·
   replace H := ifT C2 H
   refine S0 tok [] [6] ?_
   replace H := oi H; subst H; exact AWP_ret ⟨_, rfl, 4, by simp [encL_nil]⟩
  ·
   replace H := ifF C2 H
   refine S0 tok [] [1, 2, 7, 18] ?_
   refine AWP_cond (ieq p0 3) rfl (fun C3 => ?_) (fun C3 => ?_)
   ·
    replace H := ifT C3 H
    refine S0 tok [] [6] ?_
    replace H := oi H; subst H; exact AWP_ret ⟨_, rfl, 4, by simp [encL_nil]⟩
   ·
    replace H := ifF C3 H
    refine S0 tok [] [1, 2, 7, 23] ?_
    refine AWP_cond (ieq p0 4) rfl (fun C4 => ?_) (fun C4 => ?_)
    ·
     replace H := ifT C4 H
     obtain ⟨r1, hr1, H⟩ := bindE H
     refine Sx tok [] [6] (by intro K k; (repeat first | simp -dsimp -implicitDefEqProofs (maxDischargeDepth := 6) | refine (c99 hr1).app ?_); exact k) ?_
     replace H := oi H; subst H; exact AWP_ret ⟨_, rfl, 4, by simp [encL_nil]⟩
    ·
     replace H := ifF C4 H
     refine S0 tok [] [1, 2, 7, 29] ?_
     refine AWP_cond (ieq p0 5) rfl (fun C5 => ?_) (fun C5 => ?_)
     ·
      replace H := ifT C5 H
      obtain ⟨r2, hr2, H⟩ := bindE H
      refine Sx tok [] [6] (by intro K k; (repeat first | simp -dsimp -implicitDefEqProofs (maxDischargeDepth := 6) | refine (c99 hr2).app ?_); exact k) ?_
      replace H := oi H; subst H; exact AWP_ret ⟨_, rfl, 4, by simp [encL_nil]⟩
     ·
      replace H := ifF C5 H
      refine S0 tok [] [1, 2, 7, 35] ?_
      refine AWP_cond (ieq p0 6) rfl (fun C6 => ?_) (fun C6 => ?_)
      ·
       replace H := ifT C6 H
       obtain ⟨v3, hv3, H⟩ := bindE H
       obtain ⟨r4, hr4, H⟩ := bindE H
       refine Sx tok [] [6] (by intro K k; (repeat first | simp -dsimp -implicitDefEqProofs (maxDischargeDepth := 6) [hv3] | refine (c21 hr4).app ?_); exact k) ?_
       replace H := oi H; subst H; exact AWP_ret ⟨_, rfl, 4, by simp [encL_nil]⟩
      ·
       replace H := ifF C6 H
       refine S0 tok [] [1, 2, 7, 42] ?_
       refine AWP_cond (ieq p0 7) rfl (fun C7 => ?_) (fun C7 => ?_)
       ·
        replace H := ifT C7 H
        obtain ⟨v5, hv5, H⟩ := bindE H
        refine Sx tok [] [6] (by intro K k; simp -dsimp -implicitDefEqProofs (maxDischargeDepth := 6) [hv5]; exact k) ?_
        replace H := oi H; subst H; exact AWP_ret ⟨_, rfl, 4, by simp [encL_nil]⟩
       ·
        replace H := ifF C7 H
        refine S0 tok [] [1, 2, 7, 48] ?_
        refine AWP_cond (ieq p0 8) rfl (fun C8 => ?_) (fun C8 => ?_)
        ·
         replace H := ifT C8 H
         obtain ⟨r6, hr6, H⟩ := bindE H
         refine Sx tok [] [6] (by intro K k; (repeat first | simp -dsimp -implicitDefEqProofs (maxDischargeDepth := 6) | refine (c21 hr6).app ?_); exact k) ?_
         replace H := oi H; subst H; exact AWP_ret ⟨_, rfl, 4, by simp [encL_nil]⟩
        ·
         replace H := ifF C8 H
         refine S0 tok [] [1, 2, 7, 54] ?_
         refine AWP_cond (ieq p0 9) rfl (fun C9 => ?_) (fun C9 => ?_)
         ·
          replace H := ifT C9 H
          obtain ⟨r7, hr7, H⟩ := bindE H
          refine Sx tok [] [6] (by intro K k; (repeat first | simp -dsimp -implicitDefEqProofs (maxDischargeDepth := 6) | refine (c21 hr7).app ?_); exact k) ?_
          replace H := oi H; subst H; exact AWP_ret ⟨_, rfl, 4, by simp [encL_nil]⟩
         ·
          replace H := ifF C9 H
          refine S0 tok [] [1, 2, 7, 60] ?_
          refine AWP_cond (ieq p0 10) rfl (fun C10 => ?_) (fun C10 => ?_)
          ·
           replace H := ifT C10 H
           obtain ⟨r8, hr8, H⟩ := bindE H
           refine Sx tok [] [6] (by intro K k; (repeat first | simp -dsimp -implicitDefEqProofs (maxDischargeDepth := 6) | refine (c21 hr8).app ?_); exact k) ?_
           replace H := oi H; subst H; exact AWP_ret ⟨_, rfl, 4, by simp [encL_nil]⟩
          ·
           replace H := ifF C10 H
           refine S0 tok [] [1, 2, 66] ?_
           refine AWP_cond (ieq p0 11) rfl (fun C11 => ?_) (fun C11 => ?_)
           ·
            replace H := ifT C11 H
            refine AWP_sq [1, 2] fun K2 hK2 => ?_
            refine S0 tok [] [1, 2, 69] ?_
            refine AWP_cond (ieq p2 0) rfl (fun C12 => ?_) (fun C12 => ?_)
            ·
             replace H := ifT C12 H
             refine S0 tok [] [6] ?_
             replace H := oi H; subst H; exact AWP_ret ⟨_, rfl, 4, by simp [encL_nil]⟩
            ·
             replace H := ifF C12 H
             refine AWP_skip (Jn hK2 ?_)
             obtain ⟨v9, hv9, H⟩ := bindE H
             obtain ⟨r10, hr10, H⟩ := bindE H
             refine Sx tok [] [6] (by intro K k; (repeat first | simp -dsimp -implicitDefEqProofs (maxDischargeDepth := 6) [hv9] | refine (c21 hr10).app ?_); exact k) ?_
             replace H := oi H; subst H; exact AWP_ret ⟨_, rfl, 4, by simp [encL_nil]⟩
           ·
            replace H := ifF C11 H
            refine AWP_skip (Jn hK1 ?_)
            refine AWP_sq [1, 2] fun K3 hK3 => ?_
            refine S0 tok [] [1, 2, 75] ?_
            refine AWP_cond (ieq p2 0) rfl (fun C13 => ?_) (fun C13 => ?_)
            ·
             replace H := ifT C13 H
             refine S0 tok [] [6] ?_
             replace H := oi H; subst H; exact AWP_ret ⟨_, rfl, 4, by simp [encL_nil]⟩
            ·
             replace H := ifF C13 H
             refine AWP_skip (Jn hK3 ?_)
             obtain ⟨v11, hv11, H⟩ := bindE H
             refine Sx tok [] [6] (by intro K k; simp -dsimp -implicitDefEqProofs (maxDischargeDepth := 6) [hv11]; exact k) ?_
             replace H := oi H; subst H; exact AWP_ret ⟨_, rfl, 4, by simp [encL_nil]⟩
theorem c53 {p0 : gMachine} {r : Int × gMachine} (H : i_Machine_step p0 = some r) {σ : AHeap} {w0 : Nat} {W0 : List (List AV)} {r0_ : Nat} (q0 : σ.objs w0 = some ⟨53, 3, W0⟩) (g0 : W0[r0_]? = some [.osl 3 1 (encL rI p0.Regs), .int .i64 p0.Pc, .osl 3 1 (encL rI p0.Mem)]) : ACalls Tryd.prog G 53 [.ptr w0 r0_ 0] σ (fun v σ' => ∃ M : Nat, σ.next ≤ M ∧ v = .int .i64 r.1 ∧ σ' = hp σ.objs [(w0, some ⟨53, 3, W0.set r0_ [.osl 3 1 (encL rI r.2.Regs), .int .i64 r.2.Pc, .osl 3 1 (encL rI r.2.Mem)]⟩)] M) := by
 refine ACalls_fr (L := [(w0, some ⟨53, 3, W0⟩)]) (Q1 := fun v σ' => ∃ M : Nat, σ.next ≤ M ∧ v = .int .i64 r.1 ∧ σ' = hp E0 [(w0, some ⟨53, 3, W0.set r0_ [.osl 3 1 (encL rI r.2.Regs), .int .i64 r.2.Pc, .osl 3 1 (encL rI r.2.Mem)]⟩)] M) (by simp [q0]) (fun hlt => ?_) ?_ ⟨_, Tryd.func53, rfl, rfl⟩
 rotate_left
 ·
  rintro v σ1 ⟨M, h0, rfl, rfl⟩
  exact ⟨_, M, rfl, by simp, by simp; try omega, M, h0, rfl, rfl⟩
 generalize σ.next = N0 at hlt ⊢
 have lw0 : w0 < N0 := hlt _ (.head _) rfl
 have gs_W0 : ∀ x, (W0.set r0_ x)[r0_]? = some x := gsetW g0
 rw [show W0 = W0.set r0_ [.osl 3 1 (encL rI p0.Regs), .int .i64 p0.Pc, .osl 3 1 (encL rI p0.Mem)] from (set_same g0).symm]
 refine ACalls_fn tok Tryd.func53 (by kernel_rfl) rfl Tryd.ntmps53 Tryd.results53 rfl ?_
 simp only [argsA, Nat.reduceAdd, hp_next]
 unfold i_Machine_step at H
 refine Sx tok [] [0] (by intro K k; simp -dsimp -implicitDefEqProofs (maxDischargeDepth := 6) [gs_W0, List.set_set]; exact k) ?_
 refine gU AWP_ref w0 r0_ 2 ?_ (hr := by exact gs_W0 _)
 obtain ⟨r1, hr1, H⟩ := bindE H
 refine AWP_sr tok [] [0, 3] (fun a σ => ∃ M1 : Nat, N0 + 9 ≤ M1 ∧ a = [(0, .ptr w0 r0_ 0), (3, optp (N0 + 1) r1)] ∧ σ = hp E0 [(w0, some ⟨53, 3, W0.set r0_ [.osl 3 1 (encL rI p0.Regs), .int .i64 p0.Pc, .sl (N0 + 1) 0 p0.Mem.length]⟩), (N0 + 1, some ⟨3, 1, encL rI p0.Mem⟩)] M1) (fun K hK => ?_) ?_
 ·
  have e0 := nQ w0 (N0 + 1)
  simp -dsimp -implicitDefEqProofs (maxDischargeDepth := 6) [e0, gs_W0, List.set_set]
  refine (c96_c0_2_moo (W0 := W0.set r0_ [.osl 3 1 (encL rI p0.Regs), .int .i64 p0.Pc, .sl (N0 + 1) 0 p0.Mem.length]) (r0_ := r0_) (w0c2 := N0 + 1) (H := hr1) (by simp [e0, gs_W0, List.set_set]) (by simp [e0, gs_W0, List.set_set]) (by simp [e0, gs_W0, List.set_set]) (by simp [e0, gs_W0, List.set_set])).mono ?_; rintro _ _ ⟨M1, fM1_0, rfl, rfl⟩; simp only [hp_next] at fM1_0
  try simp -dsimp -implicitDefEqProofs (maxDischargeDepth := 6) [e0, gs_W0, List.set_set, hp_over_some, hp_over_none]
  exact hK _ _ ⟨M1, (by omega), rfl, rfl⟩
 rintro a σ ⟨M1, fM1_0, rfl, rfl⟩
 refine AWP_sq [0, 3] fun K1 hK1 => ?_
 refine Sx tok [] [0, 3, 17] (by
  intro K k
  have e0 := nQ w0 (N0 + 1)
  simp -dsimp -implicitDefEqProofs (maxDischargeDepth := 6) [e0, gs_W0, List.set_set, bin_optp (T := T) (t := 123) rfl]
  exact k) ?_
 refine AWP_cond r1.isNone rfl (fun C1 => ?_) (fun C1 => ?_)
 ·
  replace H := ifT C1 H
  refine Sx tok [] [2] (by
   intro K k
   have e0 := nQ w0 (N0 + 1)
   simp -dsimp -implicitDefEqProofs (maxDischargeDepth := 6) [e0, gs_W0, List.set_set]
   exact k) ?_
  replace H := oi H; subst H
  refine Kp [2] ?_
  refine gP AWP_ref w0 r0_ 2 ?_ (hr := by exact gs_W0 _)
  refine AWP_ret ?_
  refine ⟨[.int .i64 3], by simp [gs_W0], M1 + 3, by omega, ?_, ?_⟩
  ·
   simp [encL_nil]
  ·
   first | rfl | simp [List.set_set]
 ·
  replace H := ifF C1 H
  refine AWP_skip (Jn hK1 ?_)
  obtain ⟨i2, hi2, H⟩ := bindE H
  obtain ⟨v3, hv3, H⟩ := bindE H
  obtain ⟨r4, hr4, H⟩ := bindE H
  obtain ⟨r5, hr5, H⟩ := bindE H
  refine Sx tok [] [0, 4, 5] (by
   intro K k
   have e0 := nQ w0 (N0 + 1)
   have e1 := nQ w0 (M1 + 10)
   have e2 := nQ (N0 + 1) (M1 + 10)
   have e3 := nQ N0 (M1 + 9)
   repeat first | simp -dsimp -implicitDefEqProofs (maxDischargeDepth := 6) [e0, e1, e2, e3, gs_W0, List.set_set, hi2, (idx_lt3 hv3).2.2] | refine (c90 hr4).app ?_ | refine (c97 hr5).app ?_
   exact k) ?_
  refine AWP_sq [0, 4] fun K2 hK2 => ?_
  refine Sx tok [] [0, 4, 27] (by
   intro K k
   have e0 := nQ w0 (N0 + 1)
   have e1 := nQ w0 (M1 + 10)
   have e2 := nQ (N0 + 1) (M1 + 10)
   have e3 := nQ N0 (M1 + 9)
   simp -dsimp -implicitDefEqProofs (maxDischargeDepth := 6) [e0, e1, e2, e3, gs_W0, List.set_set]
   exact k) ?_
  refine AWP_cond (bnot r5.2) rfl (fun C2 => ?_) (fun C2 => ?_)
  ·
   replace H := ifT C2 H
   refine Sx tok [] [2] (by
    intro K k
    have e0 := nQ w0 (N0 + 1)
    have e1 := nQ w0 (M1 + 10)
    have e2 := nQ (N0 + 1) (M1 + 10)
    have e3 := nQ N0 (M1 + 9)
    simp -dsimp -implicitDefEqProofs (maxDischargeDepth := 6) [e0, e1, e2, e3, gs_W0, List.set_set]
    exact k) ?_
   replace H := oi H; subst H
   refine Kp [2] ?_
   refine gP AWP_ref w0 r0_ 2 ?_ (hr := by exact gs_W0 _)
   have z0 := nQ w0 (M1 + 10)
   refine gDrop AWP_ref [(w0, some ⟨53, 3, W0.set r0_ [.osl 3 1 (encL rI p0.Regs), .int .i64 p0.Pc, .osl 3 1 (encL rI p0.Mem)]⟩)] (hp_skip (AHeap.Sub.trans (AHeap.Sub.refl _) (hp_drop rfl (by simp; try omega)))) ?_
   refine AWP_ret ?_
   refine ⟨[.int .i64 3], by simp [z0, gs_W0], M1 + 16, by omega, ?_, ?_⟩
   ·
    simp [encL_nil]
   ·
    first | rfl | simp [List.set_set]
  ·
   replace H := ifF C2 H
   refine AWP_skip (Jn hK2 ?_)
   refine gU AWP_ref w0 r0_ 0 ?_ (hr := by exact gs_W0 _)
   obtain ⟨v6, hv6, H⟩ := bindE H
   obtain ⟨v7, hv7, H⟩ := bindE H
   refine Sd tok tokM [] [3, 5, 6, 7, 11, 13, 14, 15] [0, 1, 2, 4, 8, 9, 10, 12, 3, 5, 6, 7, 16, 11, 13, 14, 15, 17] [0, 4, 6, 7] (by
    intro K k
    have e0 := nQ w0 (N0 + 1)
    have e1 := nQ w0 (M1 + 10)
    have e2 := nQ w0 (M1 + 15)
    have e3 := nQ (N0 + 1) (M1 + 10)
    have e4 := nQ N0 (M1 + 9)
    have e5 := nQ (N0 + 1) (M1 + 15)
    have e6 := nQ N0 (M1 + 14)
    simp only [pickL, nthO_succ, nthO_zero]
    simp -dsimp -implicitDefEqProofs (maxDischargeDepth := 6) [e0, e1, e2, e3, e4, e5, e6, gs_W0, List.set_set, ixo22 hv6, (idx_lt3 hv6).2.2, ixo22 hv7, (idx_lt3 hv7).2.2]
    exact k) ?_
   refine gP AWP_ref w0 r0_ 0 ?_ (hr := by exact gs_W0 _)
   refine gP AWP_ref w0 r0_ 2 ?_ (hr := by exact gs_W0 _)
   obtain ⟨r8, hr8, H⟩ := bindE H
   refine Sx tok [] [0, 4, 6, 7, 8] (by
    intro K k
    have e0 := nQ w0 (M1 + 10)
    repeat first | simp -dsimp -implicitDefEqProofs (maxDischargeDepth := 6) [e0, gs_W0, List.set_set] | refine (c21 hr8).app ?_
    exact k) ?_
   obtain ⟨flj1, hflj1, H⟩ := bindE H
   refine AWP_seq (AWP_named fun K3 hK3 => ?_)
   have hJ1 : ∀ (j1 : Int × gMachine) a σ, flj1 = .next j1 → Rc G 175 N0 (fun a σ => ∃ M2 : Nat, N0 ≤ M2 ∧ a = [(0, .ptr w0 r0_ 0), (8, .int .i64 j1.1)] ∧ σ = hp E0 [(w0, some ⟨53, 3, W0.set r0_ [.osl 3 1 (encL rI j1.2.Regs), .int .i64 j1.2.Pc, .osl 3 1 (encL rI j1.2.Mem)]⟩)] M2) (AAct.keep a [0, 8]) σ → K3 a σ := by
    rintro j1 a σ hfl ⟨b, τ, hr, M2, fM2_0, rfl, rfl⟩
    subst hfl; dsimp only at H
    refine hK3 _ _ (AWP_keep [0, 8] (AWP_ref hr ?_))
    refine Sx tok [] [] (by intro K k; simp -dsimp -implicitDefEqProofs (maxDischargeDepth := 6) [gs_W0, List.set_set]; exact k) ?_
    refine Sx tok [] [2] (by intro K k; simp -dsimp -implicitDefEqProofs (maxDischargeDepth := 6) [gs_W0, List.set_set]; exact k) ?_
    replace H := oi H; subst H
    refine Kp [2] ?_
    refine AWP_ret ?_
    refine ⟨[.int .i64 1], by simp [gs_W0], M2 + 6, by omega, ?_, ?_⟩
    ·
     simp [encL_nil]
    ·
     first | rfl | simp [List.set_set]
   have Gj1 := H; replace H := hflj1
   refine Sx tok [] [0, 4, 6, 7, 8, 51] (by
    intro K k
    have e0 := nQ w0 (M1 + 10)
    simp -dsimp -implicitDefEqProofs (maxDischargeDepth := 6) [e0, gs_W0, List.set_set]
    exact k) ?_
   refine AWP_block (AWP_thenB ?_)
   refine Sx tok [] [0, 4, 6, 7, 8, 51, 64] (by
    intro K k
    have e0 := nQ w0 (M1 + 10)
    simp -dsimp -implicitDefEqProofs (maxDischargeDepth := 6) [e0, gs_W0, List.set_set]
    exact k) ?_
   refine AWP_cond (ieq r5.1.Op 21) rfl (fun C3 => ?_) (fun C3 => ?_)
   ·
    replace H := ifT C3 H
    refine Sx tok [] [2] (by
     intro K k
     have e0 := nQ w0 (M1 + 10)
     simp -dsimp -implicitDefEqProofs (maxDischargeDepth := 6) [e0, gs_W0, List.set_set]
     exact k) ?_
    obtain ⟨z, hz, H⟩ := bindE H
    replace H := oi H; subst H; dsimp only at Gj1; replace Gj1 := oi Gj1; subst Gj1; have H := hz
    replace H := oi H; subst H
    refine Kp [2] ?_
    have z1 := nQ w0 (M1 + 10)
    refine gDrop AWP_ref [(w0, some ⟨53, 3, W0.set r0_ [.osl 3 1 (encL rI p0.Regs), .int .i64 p0.Pc, .osl 3 1 (encL rI p0.Mem)]⟩)] (hp_skip (AHeap.Sub.trans (AHeap.Sub.refl _) (hp_drop rfl (by simp; try omega)))) ?_
    refine AWP_ret ?_
    refine ⟨[.int .i64 2], by simp [z1, gs_W0], M1 + 46, by omega, ?_, ?_⟩
    ·
     simp [encL_nil]
    ·
     first | rfl | simp [List.set_set]
   ·
    replace H := ifF C3 H
    refine Sx tok [] [0, 4, 6, 7, 8, 51, 66] (by
     intro K k
     have e0 := nQ w0 (M1 + 10)
     simp -dsimp -implicitDefEqProofs (maxDischargeDepth := 6) [e0, gs_W0, List.set_set]
     exact k) ?_
    refine AWP_cond (ieq r5.1.Op 12) rfl (fun C4 => ?_) (fun C4 => ?_)
    ·
     replace H := ifT C4 H
     obtain ⟨r11, hr11, H⟩ := bindE H
     obtain ⟨r12, hr12, H⟩ := bindE H
     refine AWP_rd tok tokM [] [2, 5, 8] [0, 1, 3, 4, 5, 6, 7, 2, 8] [0, 8] (fun a σ => ∃ M3 : Nat, M1 + 56 ≤ M3 ∧ a = [(0, .ptr w0 r0_ 0), (8, .int .i64 r8)] ∧ σ = hp E0 [(w0, some ⟨53, 3, W0.set r0_ [.osl 3 1 (encL rI r12.Regs), .int .i64 r12.Pc, .osl 3 1 (encL rI r12.Mem)]⟩), (M1 + 10, some ⟨78, 5, [[.int .i64 r5.1.Op, .int .i64 r5.1.Rd, .int .i64 r5.1.Rs, .int .i64 r5.1.Rt, .int .i64 r5.1.Imm]]⟩)] M3) (by decide) (fun K hK => ?_) ?_
     ·
      simp only [pickL, nthO_succ, nthO_zero]
      have e0 := nQ w0 (M1 + 10)
      simp -dsimp -implicitDefEqProofs (maxDischargeDepth := 6) [e0, gs_W0, List.set_set]
      refine Pc.mk (c21 hr11) ?_; try simp -dsimp -implicitDefEqProofs (maxDischargeDepth := 6) [e0, gs_W0, List.set_set]
      refine (c98_moo (W0 := W0.set r0_ [.osl 3 1 (encL rI p0.Regs), .int .i64 p0.Pc, .osl 3 1 (encL rI p0.Mem)]) (r0_ := r0_) (H := hr12) (by simp [e0, gs_W0, List.set_set]) (by simp [e0, gs_W0, List.set_set])).mono ?_; rintro _ _ ⟨M3, fM3_0, rfl, rfl⟩; simp only [hp_next] at fM3_0
      try simp -dsimp -implicitDefEqProofs (maxDischargeDepth := 6) [e0, gs_W0, List.set_set, hp_over_some, hp_over_none]
      exact hK _ _ ⟨M3, (by omega), rfl, rfl⟩
     rintro a σ ⟨M3, fM3_0, ha, rfl⟩
     replace H := oi H
     refine hJ1 _ _ _ H.symm ?_; rw [ha]
     exact Rc.fin (hp_skip (AHeap.Sub.trans (AHeap.Sub.refl _) (hp_drop rfl (by simp; try omega)))) ⟨M3, (by omega), rfl, rfl⟩
    ·
     replace H := ifF C4 H
     refine Sx tok [] [0, 4, 6, 7, 8, 51, 77] (by
      intro K k
      have e0 := nQ w0 (M1 + 10)
      simp -dsimp -implicitDefEqProofs (maxDischargeDepth := 6) [e0, gs_W0, List.set_set]
      exact k) ?_
     refine AWP_cond (ieq r5.1.Op 13) rfl (fun C5 => ?_) (fun C5 => ?_)
     ·
      replace H := ifT C5 H
      obtain ⟨r13, hr13, H⟩ := bindE H
      obtain ⟨r14, hr14, H⟩ := bindE H
      obtain ⟨r15, hr15, H⟩ := bindE H
      obtain ⟨r16, hr16, H⟩ := bindE H
      refine AWP_rd tok tokM [] [2, 6, 10] [0, 1, 3, 4, 5, 6, 7, 8, 9, 2, 10] [0, 8] (fun a σ => ∃ M4 : Nat, M1 + 60 ≤ M4 ∧ a = [(0, .ptr w0 r0_ 0), (8, .int .i64 r8)] ∧ σ = hp E0 [(w0, some ⟨53, 3, W0.set r0_ [.osl 3 1 (encL rI r16.Regs), .int .i64 r16.Pc, .osl 3 1 (encL rI r16.Mem)]⟩), (M1 + 10, some ⟨78, 5, [[.int .i64 r5.1.Op, .int .i64 r5.1.Rd, .int .i64 r5.1.Rs, .int .i64 r5.1.Rt, .int .i64 r5.1.Imm]]⟩)] M4) (by decide) (fun K hK => ?_) ?_
      ·
       simp only [pickL, nthO_succ, nthO_zero]
       have e0 := nQ w0 (M1 + 10)
       simp -dsimp -implicitDefEqProofs (maxDischargeDepth := 6) [e0, gs_W0, List.set_set]
       refine Pc.mk (c90 hr13) ?_; try simp -dsimp -implicitDefEqProofs (maxDischargeDepth := 6) [e0, gs_W0, List.set_set]
       refine Pc.mk (c90 hr14) ?_; try simp -dsimp -implicitDefEqProofs (maxDischargeDepth := 6) [e0, gs_W0, List.set_set]
       refine Pc.mk (c99 hr15) ?_; try simp -dsimp -implicitDefEqProofs (maxDischargeDepth := 6) [e0, gs_W0, List.set_set]
       refine (c98_moo (W0 := W0.set r0_ [.osl 3 1 (encL rI p0.Regs), .int .i64 p0.Pc, .osl 3 1 (encL rI p0.Mem)]) (r0_ := r0_) (H := hr16) (by simp [e0, gs_W0, List.set_set]) (by simp [e0, gs_W0, List.set_set])).mono ?_; rintro _ _ ⟨M4, fM4_0, rfl, rfl⟩; simp only [hp_next] at fM4_0
       try simp -dsimp -implicitDefEqProofs (maxDischargeDepth := 6) [e0, gs_W0, List.set_set, hp_over_some, hp_over_none]
       exact hK _ _ ⟨M4, (by omega), rfl, rfl⟩
      rintro a σ ⟨M4, fM4_0, ha, rfl⟩
      replace H := oi H
      refine hJ1 _ _ _ H.symm ?_; rw [ha]
      exact Rc.fin (hp_skip (AHeap.Sub.trans (AHeap.Sub.refl _) (hp_drop rfl (by simp; try omega)))) ⟨M4, (by omega), rfl, rfl⟩
     ·
      replace H := ifF C5 H
      obtain ⟨j2, hj2, H⟩ := bindE H
      refine AWP_seq (AWP_named fun K6 hK6 => ?_)
      have hJ2 : ∀ a σ, Rc G 175 N0 (fun a σ => ∃ M5 : Nat, N0 ≤ M5 ∧ M1 + 10 < M5 ∧ a = [(0, .ptr w0 r0_ 0), (4, .ptr (M1 + 10) 0 0), (6, .int .i64 v6), (7, .int .i64 v7), (8, .int .i64 r8), (51, .int .i64 r5.1.Op), (90, .bool j2)] ∧ σ = hp E0 [(w0, some ⟨53, 3, W0.set r0_ [.osl 3 1 (encL rI p0.Regs), .int .i64 p0.Pc, .osl 3 1 (encL rI p0.Mem)]⟩), (M1 + 10, some ⟨78, 5, [[.int .i64 r5.1.Op, .int .i64 r5.1.Rd, .int .i64 r5.1.Rs, .int .i64 r5.1.Rt, .int .i64 r5.1.Imm]]⟩)] M5) (a.keep [0, 4, 6, 7, 8, 51, 90]) σ → K6 a σ := by
       rintro a σ ⟨b, τ, hr, M5, fM5_0, fM5_1, rfl, rfl⟩
       refine hK6 _ _ (AWP_keep [0, 4, 6, 7, 8, 51, 90] (AWP_ref hr ?_))
       refine AWP_cond j2 rfl (fun C6 => ?_) (fun C6 => ?_)
       ·
        replace H := ifT C6 H
        refine gU AWP_ref w0 r0_ 2 ?_ (hr := by exact gs_W0 _)
        obtain ⟨r19, hr19, H⟩ := bindE H
        obtain ⟨r20, hr20, H⟩ := bindE H
        refine AWP_sr tok [] [0, 4, 7, 8, 9] (fun a σ => ∃ M6 : Nat, M5 + 9 ≤ M6 ∧ a = [(0, .ptr w0 r0_ 0), (4, .ptr (M1 + 10) 0 0), (7, .int .i64 v7), (8, .int .i64 r8), (9, optp M5 r20)] ∧ σ = hp E0 [(w0, some ⟨53, 3, W0.set r0_ [.osl 3 1 (encL rI p0.Regs), .int .i64 p0.Pc, .sl M5 0 p0.Mem.length]⟩), (M1 + 10, some ⟨78, 5, [[.int .i64 r5.1.Op, .int .i64 r5.1.Rd, .int .i64 r5.1.Rs, .int .i64 r5.1.Rt, .int .i64 r5.1.Imm]]⟩), (M5, some ⟨3, 1, encL rI p0.Mem⟩)] M6) (fun K hK => ?_) ?_
        ·
         have e0 := nQ w0 (M1 + 10)
         have e1 := nQ w0 M5
         have e2 := nQ (M1 + 10) M5
         simp -dsimp -implicitDefEqProofs (maxDischargeDepth := 6) [e0, e1, e2, gs_W0, List.set_set]
         refine (c21 hr19).app ?_; try simp -dsimp -implicitDefEqProofs (maxDischargeDepth := 6) [e0, e1, e2, gs_W0, List.set_set]
         refine (c96_c0_2_moo (W0 := W0.set r0_ [.osl 3 1 (encL rI p0.Regs), .int .i64 p0.Pc, .sl M5 0 p0.Mem.length]) (r0_ := r0_) (w0c2 := M5) (H := hr20) (by simp [e0, e1, e2, gs_W0, List.set_set]) (by simp [e0, e1, e2, gs_W0, List.set_set]) (by simp [e0, e1, e2, gs_W0, List.set_set]) (by simp [e0, e1, e2, gs_W0, List.set_set])).mono ?_; rintro _ _ ⟨M6, fM6_0, rfl, rfl⟩; simp only [hp_next] at fM6_0
         try simp -dsimp -implicitDefEqProofs (maxDischargeDepth := 6) [e0, e1, e2, gs_W0, List.set_set, hp_over_some, hp_over_none]
         exact hK _ _ ⟨M6, (by omega), rfl, rfl⟩
        rintro a σ ⟨M6, fM6_0, rfl, rfl⟩
        refine AWP_sq [0, 4, 7, 8, 9] fun K4 hK4 => ?_
        refine Sx tok [] [0, 4, 7, 8, 9, 101] (by
         intro K k
         have e0 := nQ w0 (M1 + 10)
         have e1 := nQ w0 M5
         have e2 := nQ (M1 + 10) M5
         simp -dsimp -implicitDefEqProofs (maxDischargeDepth := 6) [e0, e1, e2, gs_W0, List.set_set, bin_optp (T := T) (t := 123) rfl]
         exact k) ?_
        refine AWP_cond r20.isNone rfl (fun C7 => ?_) (fun C7 => ?_)
        ·
         replace H := ifT C7 H
         refine Sx tok [] [2] (by
          intro K k
          have e0 := nQ w0 (M1 + 10)
          have e1 := nQ w0 M5
          have e2 := nQ (M1 + 10) M5
          simp -dsimp -implicitDefEqProofs (maxDischargeDepth := 6) [e0, e1, e2, gs_W0, List.set_set]
          exact k) ?_
         obtain ⟨z, hz, H⟩ := bindE H
         replace H := oi H; subst H; dsimp only at Gj1; replace Gj1 := oi Gj1; subst Gj1; have H := hz
         replace H := oi H; subst H
         refine Kp [2] ?_
         refine gP AWP_ref w0 r0_ 2 ?_ (hr := by exact gs_W0 _)
         have z2 := nQ w0 (M1 + 10)
         refine gDrop AWP_ref [(w0, some ⟨53, 3, W0.set r0_ [.osl 3 1 (encL rI p0.Regs), .int .i64 p0.Pc, .osl 3 1 (encL rI p0.Mem)]⟩)] (hp_skip (AHeap.Sub.trans (AHeap.Sub.refl _) (hp_drop rfl (by simp; try omega)))) ?_
         refine AWP_ret ?_
         refine ⟨[.int .i64 3], by simp [z2, gs_W0], M6 + 3, by omega, ?_, ?_⟩
         ·
          simp [encL_nil]
         ·
          first | rfl | simp [List.set_set]
        ·
         replace H := ifF C7 H
         refine AWP_skip (Jn hK4 ?_)
         refine Sx tok [] [0, 4, 7, 8, 9, 104] (by
          intro K k
          have e0 := nQ w0 (M1 + 10)
          have e1 := nQ w0 M5
          have e2 := nQ (M1 + 10) M5
          simp -dsimp -implicitDefEqProofs (maxDischargeDepth := 6) [e0, e1, e2, gs_W0, List.set_set]
          exact k) ?_
         refine AWP_cond (ieq r5.1.Op 16) rfl (fun C8 => ?_) (fun C8 => ?_)
         ·
          replace H := ifT C8 H
          obtain ⟨i21, hi21, H⟩ := bindE H
          obtain ⟨v22, hv22, H⟩ := bindE H
          obtain ⟨l23, hl23, H⟩ := bindE H
          refine AWP_rt tok [] [0, 8] (fun a σ => a = [(0, .ptr w0 r0_ 0), (8, .int .i64 r8)] ∧ σ = hp E0 [(w0, some ⟨53, 3, W0.set r0_ [.osl 3 1 (encL rI p0.Regs), .int .i64 p0.Pc, .sl M5 0 p0.Mem.length]⟩), (M1 + 10, some ⟨78, 5, [[.int .i64 r5.1.Op, .int .i64 r5.1.Rd, .int .i64 r5.1.Rs, .int .i64 r5.1.Rt, .int .i64 r5.1.Imm]]⟩), (M5, some ⟨3, 1, encL rI l23⟩)] (M6 + 9)) (fun K hK => ?_) ?_
          ·
           have e0 := nQ w0 (M1 + 10)
           have e1 := nQ w0 M5
           have e2 := nQ (M1 + 10) M5
           simp -dsimp -implicitDefEqProofs (maxDischargeDepth := 6) [e0, e1, e2, gs_W0, List.set_set, hi21, (idx_lt3 hv22).2.2, (setx_iff.1 hl23).2.symm]
           exact hK _ _ ⟨rfl, rfl⟩
          rintro a σ ⟨ha, rfl⟩
          (try rw [← setx_len hl23] at ha); (try rw [← setx_len hl23])
          replace H := oi H
          refine hJ1 _ _ _ H.symm ?_; rw [ha]
          refine gP Rc_ref w0 r0_ 2 ?_ (hr := by exact gs_W0 _)
          exact Rc.fin (hp_skip (AHeap.Sub.trans (AHeap.Sub.refl _) (hp_drop rfl (by simp; try omega)))) ⟨M6 + 9, (by omega), rfl, rfl⟩
         ·
          replace H := ifF C8 H
          obtain ⟨i24, hi24, H⟩ := bindE H
          obtain ⟨v25, hv25, H⟩ := bindE H
          obtain ⟨r26, hr26, H⟩ := bindE H
          refine AWP_rd tok tokM [] [2, 5, 6] [0, 1, 3, 4, 2, 5, 6] [0, 8] (fun a σ => ∃ M7 : Nat, M6 + 12 ≤ M7 ∧ a = [(0, .ptr w0 r0_ 0), (8, .int .i64 r8)] ∧ σ = hp E0 [(w0, some ⟨53, 3, W0.set r0_ [.osl 3 1 (encL rI r26.Regs), .int .i64 r26.Pc, .osl 3 1 (encL rI r26.Mem)]⟩), (M1 + 10, some ⟨78, 5, [[.int .i64 r5.1.Op, .int .i64 r5.1.Rd, .int .i64 r5.1.Rs, .int .i64 r5.1.Rt, .int .i64 r5.1.Imm]]⟩)] M7) (by decide) (fun K hK => ?_) ?_
          ·
           simp only [pickL, nthO_succ, nthO_zero]
           have e0 := nQ w0 (M1 + 10)
           have e1 := nQ w0 M5
           have e2 := nQ (M1 + 10) M5
           simp -dsimp -implicitDefEqProofs (maxDischargeDepth := 6) [e0, e1, e2, gs_W0, List.set_set, hi24, (idx_lt3 hv25).2.2]
           refine (c98_c0_2_moo (w0c2 := M5) (W0 := W0.set r0_ [.osl 3 1 (encL rI p0.Regs), .int .i64 p0.Pc, .sl M5 0 p0.Mem.length]) (r0_ := r0_) (H := hr26) (by simp [e0, e1, e2, gs_W0, List.set_set, hi24, (idx_lt3 hv25).2.2]) (by simp [e0, e1, e2, gs_W0, List.set_set, hi24, (idx_lt3 hv25).2.2]) (by simp [e0, e1, e2, gs_W0, List.set_set, hi24, (idx_lt3 hv25).2.2]) (by simp [e0, e1, e2, gs_W0, List.set_set, hi24, (idx_lt3 hv25).2.2])).mono ?_; rintro _ _ ⟨M7, fM7_0, rfl, rfl⟩; simp only [hp_next] at fM7_0
           try simp -dsimp -implicitDefEqProofs (maxDischargeDepth := 6) [e0, e1, e2, gs_W0, List.set_set, hi24, (idx_lt3 hv25).2.2, hp_over_some, hp_over_none]
           exact hK _ _ ⟨M7, (by omega), rfl, rfl⟩
          rintro a σ ⟨M7, fM7_0, ha, rfl⟩
          replace H := oi H
          refine hJ1 _ _ _ H.symm ?_; rw [ha]
          exact Rc.fin (hp_skip (AHeap.Sub.trans (AHeap.Sub.refl _) (hp_drop rfl (by simp; try omega)))) ⟨M7, (by omega), rfl, rfl⟩
       ·
        replace H := ifF C6 H
        refine Sx tok [] [0, 4, 6, 7, 8, 51, 115] (by
         intro K k
         have e0 := nQ w0 (M1 + 10)
         simp -dsimp -implicitDefEqProofs (maxDischargeDepth := 6) [e0, gs_W0, List.set_set]
         exact k) ?_
        refine AWP_cond (ieq r5.1.Op 15) rfl (fun C9 => ?_) (fun C9 => ?_)
        ·
         replace H := ifT C9 H
         obtain ⟨r27, hr27, H⟩ := bindE H
         refine AWP_sr tok [] [0, 4, 6] (fun a σ => ∃ M8 : Nat, M5 + 7 ≤ M8 ∧ a = [(0, .ptr w0 r0_ 0), (4, .ptr (M1 + 10) 0 0), (6, .int .i64 v6)] ∧ σ = hp E0 [(w0, some ⟨53, 3, W0.set r0_ [.osl 3 1 (encL rI r27.Regs), .int .i64 r27.Pc, .osl 3 1 (encL rI r27.Mem)]⟩), (M1 + 10, some ⟨78, 5, [[.int .i64 r5.1.Op, .int .i64 r5.1.Rd, .int .i64 r5.1.Rs, .int .i64 r5.1.Rt, .int .i64 r5.1.Imm]]⟩)] M8) (fun K hK => ?_) ?_
         ·
          have e0 := nQ w0 (M1 + 10)
          simp -dsimp -implicitDefEqProofs (maxDischargeDepth := 6) [e0, gs_W0, List.set_set]
          refine (c98_moo (W0 := W0.set r0_ [.osl 3 1 (encL rI p0.Regs), .int .i64 p0.Pc, .osl 3 1 (encL rI p0.Mem)]) (r0_ := r0_) (H := hr27) (by simp [e0, gs_W0, List.set_set]) (by simp [e0, gs_W0, List.set_set])).mono ?_; rintro _ _ ⟨M8, fM8_0, rfl, rfl⟩; simp only [hp_next] at fM8_0
          try simp -dsimp -implicitDefEqProofs (maxDischargeDepth := 6) [e0, gs_W0, List.set_set, hp_over_some, hp_over_none]
          exact hK _ _ ⟨M8, (by omega), rfl, rfl⟩
         rintro a σ ⟨M8, fM8_0, rfl, rfl⟩
         obtain ⟨r28, hr28, H⟩ := bindE H
         refine AWP_rt tok [] [0, 8] (fun a σ => a = [(0, .ptr w0 r0_ 0), (8, .int .i64 (iandNot .i64 r28 1))] ∧ σ = hp E0 [(w0, some ⟨53, 3, W0.set r0_ [.osl 3 1 (encL rI r27.Regs), .int .i64 r27.Pc, .osl 3 1 (encL rI r27.Mem)]⟩), (M1 + 10, some ⟨78, 5, [[.int .i64 r5.1.Op, .int .i64 r5.1.Rd, .int .i64 r5.1.Rs, .int .i64 r5.1.Rt, .int .i64 r5.1.Imm]]⟩)] (M8 + 7)) (fun K hK => ?_) ?_
         ·
          have e0 := nQ w0 (M1 + 10)
          simp -dsimp -implicitDefEqProofs (maxDischargeDepth := 6) [e0, gs_W0, List.set_set]
          refine (c21 hr28).app ?_; try simp -dsimp -implicitDefEqProofs (maxDischargeDepth := 6) [e0, gs_W0, List.set_set]
          exact hK _ _ ⟨rfl, rfl⟩
         rintro a σ ⟨ha, rfl⟩
         replace H := oi H
         refine hJ1 _ _ _ H.symm ?_; rw [ha]
         exact Rc.fin (hp_skip (AHeap.Sub.trans (AHeap.Sub.refl _) (hp_drop rfl (by simp; try omega)))) ⟨M8 + 7, (by omega), rfl, rfl⟩
        ·
         replace H := ifF C9 H
         obtain ⟨j3, hj3, H⟩ := bindE H
         refine AWP_seq (AWP_named fun K5 hK5 => ?_)
         have hJ3 : ∀ a σ, Rc G 175 N0 (fun a σ => ∃ M9 : Nat, N0 ≤ M9 ∧ M1 + 10 < M9 ∧ a = [(0, .ptr w0 r0_ 0), (4, .ptr (M1 + 10) 0 0), (6, .int .i64 v6), (7, .int .i64 v7), (8, .int .i64 r8), (51, .int .i64 r5.1.Op), (128, .bool j3)] ∧ σ = hp E0 [(w0, some ⟨53, 3, W0.set r0_ [.osl 3 1 (encL rI p0.Regs), .int .i64 p0.Pc, .osl 3 1 (encL rI p0.Mem)]⟩), (M1 + 10, some ⟨78, 5, [[.int .i64 r5.1.Op, .int .i64 r5.1.Rd, .int .i64 r5.1.Rs, .int .i64 r5.1.Rt, .int .i64 r5.1.Imm]]⟩)] M9) (a.keep [0, 4, 6, 7, 8, 51, 128]) σ → K5 a σ := by
          rintro a σ ⟨b, τ, hr, M9, fM9_0, fM9_1, rfl, rfl⟩
          refine hK5 _ _ (AWP_keep [0, 4, 6, 7, 8, 51, 128] (AWP_ref hr ?_))
          refine AWP_cond j3 rfl (fun C10 => ?_) (fun C10 => ?_)
          ·
           replace H := ifT C10 H
           refine Sx tok [] [0, 4, 8, 137] (by
            intro K k
            have e0 := nQ w0 (M1 + 10)
            simp -dsimp -implicitDefEqProofs (maxDischargeDepth := 6) [e0, gs_W0, List.set_set]
            exact k) ?_
           refine AWP_cond (beqb (ieq v6 v7) (ieq r5.1.Op 17)) rfl (fun C11 => ?_) (fun C11 => ?_)
           ·
            replace H := ifT C11 H
            obtain ⟨r30, hr30, H⟩ := bindE H
            refine AWP_rd tok tokM [] [3, 5] [0, 1, 2, 4, 3, 5, 6, 7, 8] [0, 8] (fun a σ => a = [(0, .ptr w0 r0_ 0), (8, .int .i64 r30)] ∧ σ = hp E0 [(w0, some ⟨53, 3, W0.set r0_ [.osl 3 1 (encL rI p0.Regs), .int .i64 p0.Pc, .osl 3 1 (encL rI p0.Mem)]⟩), (M1 + 10, some ⟨78, 5, [[.int .i64 r5.1.Op, .int .i64 r5.1.Rd, .int .i64 r5.1.Rs, .int .i64 r5.1.Rt, .int .i64 r5.1.Imm]]⟩)] (M9 + 16)) (by decide) (fun K hK => ?_) ?_
            ·
             simp only [pickL, nthO_succ, nthO_zero]
             have e0 := nQ w0 (M1 + 10)
             simp -dsimp -implicitDefEqProofs (maxDischargeDepth := 6) [e0, gs_W0, List.set_set]
             refine Pc.mk (c21 hr30) ?_; try simp -dsimp -implicitDefEqProofs (maxDischargeDepth := 6) [e0, gs_W0, List.set_set]
             exact hK _ _ ⟨rfl, rfl⟩
            rintro a σ ⟨ha, rfl⟩
            replace H := oi H
            refine hJ1 _ _ _ H.symm ?_; rw [ha]
            exact Rc.fin (hp_skip (AHeap.Sub.trans (AHeap.Sub.refl _) (hp_drop rfl (by simp; try omega)))) ⟨M9 + 16, (by omega), rfl, rfl⟩
           ·
            replace H := ifF C11 H
            refine AWP_skip ?_
            show K3 _ _
            refine kE [0, 8] fun a' ha => ?_
            replace H := oi H
            refine hJ1 _ _ _ H.symm ?_; rw [ha]
            exact Rc.fin (hp_skip (AHeap.Sub.trans (AHeap.Sub.refl _) (hp_drop rfl (by simp; try omega)))) ⟨M9 + 7, (by omega), rfl, rfl⟩
          ·
           replace H := ifF C10 H
           refine Sx tok [] [0, 4, 6, 7, 8, 51, 146] (by
            intro K k
            have e0 := nQ w0 (M1 + 10)
            simp -dsimp -implicitDefEqProofs (maxDischargeDepth := 6) [e0, gs_W0, List.set_set]
            exact k) ?_
           refine AWP_cond (ieq r5.1.Op 19) rfl (fun C12 => ?_) (fun C12 => ?_)
           ·
            replace H := ifT C12 H
            obtain ⟨r31, hr31, H⟩ := bindE H
            obtain ⟨r32, hr32, H⟩ := bindE H
            refine AWP_rd tok tokM [] [2, 4, 7] [0, 1, 3, 4, 5, 6, 2, 7] [0, 8] (fun a σ => ∃ M10 : Nat, M9 + 10 ≤ M10 ∧ a = [(0, .ptr w0 r0_ 0), (8, .int .i64 r8)] ∧ σ = hp E0 [(w0, some ⟨53, 3, W0.set r0_ [.osl 3 1 (encL rI r32.Regs), .int .i64 r32.Pc, .osl 3 1 (encL rI r32.Mem)]⟩), (M1 + 10, some ⟨78, 5, [[.int .i64 r5.1.Op, .int .i64 r5.1.Rd, .int .i64 r5.1.Rs, .int .i64 r5.1.Rt, .int .i64 r5.1.Imm]]⟩)] M10) (by decide) (fun K hK => ?_) ?_
            ·
             simp only [pickL, nthO_succ, nthO_zero]
             have e0 := nQ w0 (M1 + 10)
             simp -dsimp -implicitDefEqProofs (maxDischargeDepth := 6) [e0, gs_W0, List.set_set]
             refine Pc.mk (c21 hr31) ?_; try simp -dsimp -implicitDefEqProofs (maxDischargeDepth := 6) [e0, gs_W0, List.set_set]
             refine (c98_moo (W0 := W0.set r0_ [.osl 3 1 (encL rI p0.Regs), .int .i64 p0.Pc, .osl 3 1 (encL rI p0.Mem)]) (r0_ := r0_) (H := hr32) (by simp [e0, gs_W0, List.set_set]) (by simp [e0, gs_W0, List.set_set])).mono ?_; rintro _ _ ⟨M10, fM10_0, rfl, rfl⟩; simp only [hp_next] at fM10_0
             try simp -dsimp -implicitDefEqProofs (maxDischargeDepth := 6) [e0, gs_W0, List.set_set, hp_over_some, hp_over_none]
             exact hK _ _ ⟨M10, (by omega), rfl, rfl⟩
            rintro a σ ⟨M10, fM10_0, ha, rfl⟩
            replace H := oi H
            refine hJ1 _ _ _ H.symm ?_; rw [ha]
            exact Rc.fin (hp_skip (AHeap.Sub.trans (AHeap.Sub.refl _) (hp_drop rfl (by simp; try omega)))) ⟨M10, (by omega), rfl, rfl⟩
           ·
            replace H := ifF C12 H
            refine Sx tok [] [0, 4, 6, 7, 8, 156] (by
             intro K k
             have e0 := nQ w0 (M1 + 10)
             simp -dsimp -implicitDefEqProofs (maxDischargeDepth := 6) [e0, gs_W0, List.set_set]
             exact k) ?_
            refine AWP_cond (ieq r5.1.Op 20) rfl (fun C13 => ?_) (fun C13 => ?_)
            ·
             replace H := ifT C13 H
             obtain ⟨r33, hr33, H⟩ := bindE H
             refine AWP_sr tok [] [0, 4] (fun a σ => ∃ M11 : Nat, M9 + 9 ≤ M11 ∧ a = [(0, .ptr w0 r0_ 0), (4, .ptr (M1 + 10) 0 0)] ∧ σ = hp E0 [(w0, some ⟨53, 3, W0.set r0_ [.osl 3 1 (encL rI r33.Regs), .int .i64 r33.Pc, .osl 3 1 (encL rI r33.Mem)]⟩), (M1 + 10, some ⟨78, 5, [[.int .i64 r5.1.Op, .int .i64 r5.1.Rd, .int .i64 r5.1.Rs, .int .i64 r5.1.Rt, .int .i64 r5.1.Imm]]⟩)] M11) (fun K hK => ?_) ?_
             ·
              have e0 := nQ w0 (M1 + 10)
              simp -dsimp -implicitDefEqProofs (maxDischargeDepth := 6) [e0, gs_W0, List.set_set]
              refine (c98_moo (W0 := W0.set r0_ [.osl 3 1 (encL rI p0.Regs), .int .i64 p0.Pc, .osl 3 1 (encL rI p0.Mem)]) (r0_ := r0_) (H := hr33) (by simp [e0, gs_W0, List.set_set]) (by simp [e0, gs_W0, List.set_set])).mono ?_; rintro _ _ ⟨M11, fM11_0, rfl, rfl⟩; simp only [hp_next] at fM11_0
              try simp -dsimp -implicitDefEqProofs (maxDischargeDepth := 6) [e0, gs_W0, List.set_set, hp_over_some, hp_over_none]
              exact hK _ _ ⟨M11, (by omega), rfl, rfl⟩
             rintro a σ ⟨M11, fM11_0, rfl, rfl⟩
             obtain ⟨r34, hr34, H⟩ := bindE H
             refine AWP_rd tok tokM [] [3, 5] [0, 1, 2, 4, 3, 5, 6, 7, 8] [0, 8] (fun a σ => a = [(0, .ptr w0 r0_ 0), (8, .int .i64 r34)] ∧ σ = hp E0 [(w0, some ⟨53, 3, W0.set r0_ [.osl 3 1 (encL rI r33.Regs), .int .i64 r33.Pc, .osl 3 1 (encL rI r33.Mem)]⟩), (M1 + 10, some ⟨78, 5, [[.int .i64 r5.1.Op, .int .i64 r5.1.Rd, .int .i64 r5.1.Rs, .int .i64 r5.1.Rt, .int .i64 r5.1.Imm]]⟩)] (M11 + 9)) (by decide) (fun K hK => ?_) ?_
             ·
              simp only [pickL, nthO_succ, nthO_zero]
              have e0 := nQ w0 (M1 + 10)
              simp -dsimp -implicitDefEqProofs (maxDischargeDepth := 6) [e0, gs_W0, List.set_set]
              refine Pc.mk (c21 hr34) ?_; try simp -dsimp -implicitDefEqProofs (maxDischargeDepth := 6) [e0, gs_W0, List.set_set]
              exact hK _ _ ⟨rfl, rfl⟩
             rintro a σ ⟨ha, rfl⟩
             replace H := oi H
             refine hJ1 _ _ _ H.symm ?_; rw [ha]
             exact Rc.fin (hp_skip (AHeap.Sub.trans (AHeap.Sub.refl _) (hp_drop rfl (by simp; try omega)))) ⟨M11 + 9, (by omega), rfl, rfl⟩
            ·
             replace H := ifF C13 H
             obtain ⟨v35, hv35, H⟩ := bindE H
             obtain ⟨r36, hr36, H⟩ := bindE H
             obtain ⟨r37, hr37, H⟩ := bindE H
             refine AWP_rd tok tokM [] [2, 4, 11] [0, 1, 3, 8, 9, 4, 5, 6, 7, 10, 2, 11] [0, 8] (fun a σ => ∃ M12 : Nat, M9 + 16 ≤ M12 ∧ a = [(0, .ptr w0 r0_ 0), (8, .int .i64 r8)] ∧ σ = hp E0 [(w0, some ⟨53, 3, W0.set r0_ [.osl 3 1 (encL rI r37.Regs), .int .i64 r37.Pc, .osl 3 1 (encL rI r37.Mem)]⟩), (M1 + 10, some ⟨78, 5, [[.int .i64 r5.1.Op, .int .i64 r5.1.Rd, .int .i64 r5.1.Rs, .int .i64 r5.1.Rt, .int .i64 r5.1.Imm]]⟩)] M12) (by decide) (fun K hK => ?_) ?_
             ·
              simp only [pickL, nthO_succ, nthO_zero]
              have e0 := nQ w0 (M1 + 10)
              simp -dsimp -implicitDefEqProofs (maxDischargeDepth := 6) [e0, gs_W0, List.set_set, gx129 hv35]
              refine Pc.mk (c56 hr36) ?_; try simp -dsimp -implicitDefEqProofs (maxDischargeDepth := 6) [e0, gs_W0, List.set_set, gx129 hv35]
              refine (c98_moo (W0 := W0.set r0_ [.osl 3 1 (encL rI p0.Regs), .int .i64 p0.Pc, .osl 3 1 (encL rI p0.Mem)]) (r0_ := r0_) (H := hr37) (by simp [e0, gs_W0, List.set_set, gx129 hv35]) (by simp [e0, gs_W0, List.set_set, gx129 hv35])).mono ?_; rintro _ _ ⟨M12, fM12_0, rfl, rfl⟩; simp only [hp_next] at fM12_0
              try simp -dsimp -implicitDefEqProofs (maxDischargeDepth := 6) [e0, gs_W0, List.set_set, gx129 hv35, hp_over_some, hp_over_none]
              exact hK _ _ ⟨M12, (by omega), rfl, rfl⟩
             rintro a σ ⟨M12, fM12_0, ha, rfl⟩
             replace H := oi H
             refine hJ1 _ _ _ H.symm ?_; rw [ha]
             exact Rc.fin (hp_skip (AHeap.Sub.trans (AHeap.Sub.refl _) (hp_drop rfl (by simp; try omega)))) ⟨M12, (by omega), rfl, rfl⟩
         replace H := hj3
         refine Sx tok [] [0, 4, 6, 7, 8, 51, 128] (by
          intro K k
          have e0 := nQ w0 (M1 + 10)
          simp -dsimp -implicitDefEqProofs (maxDischargeDepth := 6) [e0, gs_W0, List.set_set]
          exact k) ?_
         refine AWP_cond (ieq r5.1.Op 17) rfl (fun C14 => ?_) (fun C14 => ?_)
         ·
          replace H := ifT C14 H
          refine AWP_skip ?_
          show K5 _ _
          refine kE [0, 4, 6, 7, 8, 51, 128] fun a' ha => ?_
          replace H := oi H; subst H
          refine hJ3 _ _ ?_; rw [ha]
          exact Rc.fin (AHeap.Sub.refl _) ⟨M5 + 4, (by omega), (by omega), rfl, rfl⟩
         ·
          replace H := ifF C14 H
          refine AWP_rt tok [] [0, 4, 6, 7, 8, 51, 128] (fun a σ => a = [(0, .ptr w0 r0_ 0), (4, .ptr (M1 + 10) 0 0), (6, .int .i64 v6), (7, .int .i64 v7), (8, .int .i64 r8), (51, .int .i64 r5.1.Op), (128, .bool (ieq r5.1.Op 18))] ∧ σ = hp E0 [(w0, some ⟨53, 3, W0.set r0_ [.osl 3 1 (encL rI p0.Regs), .int .i64 p0.Pc, .osl 3 1 (encL rI p0.Mem)]⟩), (M1 + 10, some ⟨78, 5, [[.int .i64 r5.1.Op, .int .i64 r5.1.Rd, .int .i64 r5.1.Rs, .int .i64 r5.1.Rt, .int .i64 r5.1.Imm]]⟩)] (M5 + 6)) (fun K hK => ?_) ?_
          ·
           have e0 := nQ w0 (M1 + 10)
           simp -dsimp -implicitDefEqProofs (maxDischargeDepth := 6) [e0, gs_W0, List.set_set]
           exact hK _ _ ⟨rfl, rfl⟩
          rintro a σ ⟨ha, rfl⟩
          replace H := oi H; subst H
          refine hJ3 _ _ ?_; rw [ha]
          exact Rc.fin (AHeap.Sub.refl _) ⟨M5 + 6, (by omega), (by omega), rfl, rfl⟩
      replace H := hj2
      refine Sx tok [] [0, 4, 6, 7, 8, 51, 90] (by
       intro K k
       have e0 := nQ w0 (M1 + 10)
       simp -dsimp -implicitDefEqProofs (maxDischargeDepth := 6) [e0, gs_W0, List.set_set]
       exact k) ?_
      refine AWP_cond (ieq r5.1.Op 14) rfl (fun C15 => ?_) (fun C15 => ?_)
      ·
       replace H := ifT C15 H
       refine AWP_skip ?_
       show K6 _ _
       refine kE [0, 4, 6, 7, 8, 51, 90] fun a' ha => ?_
       replace H := oi H; subst H
       refine hJ2 _ _ ?_; rw [ha]
       exact Rc.fin (AHeap.Sub.refl _) ⟨M1 + 51, (by omega), (by omega), rfl, rfl⟩
      ·
       replace H := ifF C15 H
       refine AWP_rt tok [] [0, 4, 6, 7, 8, 51, 90] (fun a σ => a = [(0, .ptr w0 r0_ 0), (4, .ptr (M1 + 10) 0 0), (6, .int .i64 v6), (7, .int .i64 v7), (8, .int .i64 r8), (51, .int .i64 r5.1.Op), (90, .bool (ieq r5.1.Op 16))] ∧ σ = hp E0 [(w0, some ⟨53, 3, W0.set r0_ [.osl 3 1 (encL rI p0.Regs), .int .i64 p0.Pc, .osl 3 1 (encL rI p0.Mem)]⟩), (M1 + 10, some ⟨78, 5, [[.int .i64 r5.1.Op, .int .i64 r5.1.Rd, .int .i64 r5.1.Rs, .int .i64 r5.1.Rt, .int .i64 r5.1.Imm]]⟩)] (M1 + 53)) (fun K hK => ?_) ?_
       ·
        have e0 := nQ w0 (M1 + 10)
        simp -dsimp -implicitDefEqProofs (maxDischargeDepth := 6) [e0, gs_W0, List.set_set]
        exact hK _ _ ⟨rfl, rfl⟩
       rintro a σ ⟨ha, rfl⟩
       replace H := oi H; subst H
       refine hJ2 _ _ ?_; rw [ha]
       exact Rc.fin (AHeap.Sub.refl _) ⟨M1 + 53, (by omega), (by omega), rfl, rfl⟩
theorem c95_o {p0 : (List Int)} {r : (List Int)} (H : slices_Clone_int_int_o p0 = some r) {σ : AHeap} : ACalls Tryd.prog G 95 [.fsl (encL rI p0)] σ (fun v σ' => ∃ M n0 : Nat, σ.next ≤ M ∧ σ.next ≤ n0 ∧ n0 < M ∧ v = .sl n0 0 r.length ∧ σ' = hp σ.objs [(n0, some ⟨3, 1, encL rI r⟩)] M) := by
 refine ACalls_fr (L := []) (Q1 := fun v σ' => ∃ M n0 : Nat, σ.next ≤ M ∧ σ.next ≤ n0 ∧ n0 < M ∧ v = .sl n0 0 r.length ∧ σ' = hp E0 [(n0, some ⟨3, 1, encL rI r⟩)] M) (by simp []) (fun hlt => ?_) ?_ ⟨_, Tryd.func95, rfl, rfl⟩
 rotate_left
 ·
  rintro v σ1 ⟨M, n0, h0, h1, h2, rfl, rfl⟩
  exact ⟨_, M, rfl, by simp, by simp; try omega, M, n0, h0, h1, h2, rfl, rfl⟩
 generalize σ.next = N0 at hlt ⊢
 refine ACalls_fn tok Tryd.func95 (by kernel_rfl) rfl Tryd.ntmps95 Tryd.results95 rfl ?_
 simp only [argsA, Nat.reduceAdd, hp_next]
 unfold slices_Clone_int_int_o at H
 refine S0 tok [] [0] ?_
 refine AWP_sq [0] fun K1 hK1 => ?_
 refine AWP_isnil tok [4, 0] ([(0, .fsl (encL rI p0))]) rfl rfl (by decide) (by decide) (by decide) (fun _ => rfl) (fun n0 => ?_) ?_
 ·
  replace n0 : p0 = [] := encL_isnil n0
  replace H : (if true = true then   some ([] : List Int) else   (appx 8 ([] : List Int) p0).bind fun l2 =>   some l2 : Option ((List Int))) = some r := by simpa [n0, appx] using H
  refine AWP_cond true rfl (fun C2 => ?_) (fun C2 => ?_)
  ·
   replace H := ifT C2 H
   refine S0 tok [] [2] ?_
   replace H := oi H; subst H
   refine Kp [2] ?_
   refine gNilS AWP_ref 2 3 1 [(N0 + 2, some ⟨3, 1, encL rI ([] : List Int)⟩)] [(2, .sl (N0 + 2) 0 ([] : List Int).length)] (by simp (disch := omega)) (by simp (disch := omega) [encL_nil]) [2] rfl ?_
   refine AWP_ret ?_
   refine ⟨[.sl (N0 + 2) 0 ([] : List Int).length], by simp, N0 + 3, N0 + 2, by omega, by omega, by omega, ?_, ?_⟩
   ·
    simp [encL_nil]
   ·
    first | rfl | simp [List.set_set]
  ·
   replace H := ifF C2 H
   refine AWP_skip (Jn hK1 ?_)
   obtain ⟨l2, hl2, H⟩ := bindE H
   have q2 : ∀ σ i, buildSliceA T 22 true i 0 [] σ = some (.esl, σ) := fun _ _ => rfl
   refine Sx tok [0] [2] (by intro K k; simp -dsimp -implicitDefEqProofs (maxDischargeDepth := 6) [q2, appe22 hl2]; exact k) ?_
   replace H := oi H; subst H
   refine Kp [2] ?_
   refine AWP_ret ?_
   refine ⟨[.sl (N0 + 3) 0 l2.length], by simp, N0 + 5, N0 + 3, by omega, by omega, by omega, ?_, ?_⟩
   ·
    simp [encL_nil]
   ·
    first | rfl | simp [List.set_set]
 ·
  refine AWP_cond false rfl (fun C1 => ?_) (fun C1 => ?_)
  ·
   replace H := ifT C1 H
   refine S0 tok [] [2] ?_
   replace H := oi H; subst H
   refine Kp [2] ?_
   refine gNilS AWP_ref 2 3 1 [(N0 + 2, some ⟨3, 1, encL rI ([] : List Int)⟩)] [(2, .sl (N0 + 2) 0 ([] : List Int).length)] (by simp (disch := omega)) (by simp (disch := omega) [encL_nil]) [2] rfl ?_
   refine AWP_ret ?_
   refine ⟨[.sl (N0 + 2) 0 ([] : List Int).length], by simp, N0 + 3, N0 + 2, by omega, by omega, by omega, ?_, ?_⟩
   ·
    simp [encL_nil]
   ·
    first | rfl | simp [List.set_set]
  ·
   replace H := ifF C1 H
   refine AWP_skip (Jn hK1 ?_)
   obtain ⟨l1, hl1, H⟩ := bindE H
   have q1 : ∀ σ i, buildSliceA T 22 true i 0 [] σ = some (.esl, σ) := fun _ _ => rfl
   refine Sx tok [0] [2] (by intro K k; simp -dsimp -implicitDefEqProofs (maxDischargeDepth := 6) [q1, appe22 hl1]; exact k) ?_
   replace H := oi H; subst H
   refine Kp [2] ?_
   refine AWP_ret ?_
   refine ⟨[.sl (N0 + 3) 0 l1.length], by simp, N0 + 5, N0 + 3, by omega, by omega, by omega, ?_, ?_⟩
   ·
    simp [encL_nil]
   ·
    first | rfl | simp [List.set_set]
theorem c52_o2 {p0 : gMachine} {r : gMachine} (H : i_machineCopy_o2 p0 = some r) {σ : AHeap} : ACalls Tryd.prog G 52 [.agg [.fsl (encL rI p0.Regs), .int .i64 p0.Pc, .fsl (encL rI p0.Mem)]] σ (fun v σ' => ∃ M n0 n1 : Nat, σ.next ≤ M ∧ σ.next ≤ n0 ∧ n0 < M ∧ σ.next ≤ n1 ∧ n1 < M ∧ ¬ n0 = n1 ∧ v = .agg [.sl n0 0 r.Regs.length, .int .i64 r.Pc, .sl n1 0 r.Mem.length] ∧ σ' = hp σ.objs [(n0, some ⟨3, 1, encL rI r.Regs⟩), (n1, some ⟨3, 1, encL rI r.Mem⟩)] M) := by
 refine ACalls_fr (L := []) (Q1 := fun v σ' => ∃ M n0 n1 : Nat, σ.next ≤ M ∧ σ.next ≤ n0 ∧ n0 < M ∧ σ.next ≤ n1 ∧ n1 < M ∧ ¬ n0 = n1 ∧ v = .agg [.sl n0 0 r.Regs.length, .int .i64 r.Pc, .sl n1 0 r.Mem.length] ∧ σ' = hp E0 [(n0, some ⟨3, 1, encL rI r.Regs⟩), (n1, some ⟨3, 1, encL rI r.Mem⟩)] M) (by simp []) (fun hlt => ?_) ?_ ⟨_, Tryd.func52, rfl, rfl⟩
 rotate_left
 ·
  rintro v σ1 ⟨M, n0, n1, h0, h1, h2, h3, h4, h5, rfl, rfl⟩
  exact ⟨_, M, rfl, by simp, by simp; try omega, M, n0, n1, h0, h1, h2, h3, h4, h5, rfl, rfl⟩
 generalize σ.next = N0 at hlt ⊢
 refine ACalls_thaw 4 ?_
 refine ACalls_fn tok Tryd.func52 (by kernel_rfl) rfl Tryd.ntmps52 Tryd.results52 rfl ?_
 simp only [argsA, Nat.reduceAdd, hp_next]
 unfold i_machineCopy_o2 at H
 refine S0 tok [0] [1, 2] ?_
 refine gPk0 AWP_ref (o := (N0 + 1)) (ob := ⟨53, 3, [[.nilsl, .int .i64 0, .nilsl]]⟩) (row := [.nilsl, .int .i64 0, .nilsl]) (r := 0) (i := 0) 3 1 [(N0 + 1, some ⟨53, 3, [[.osl 3 1 (encL rI ([] : List Int)), .int .i64 0, .nilsl]]⟩)] (by simp (disch := omega)) rfl rfl (by simp (disch := omega)) (by simp (disch := omega) [encL_nil, List.set_set, app_set]) ?_
 refine gPk0 AWP_ref (o := (N0 + 1)) (ob := ⟨53, 3, [[.osl 3 1 (encL rI ([] : List Int)), .int .i64 0, .nilsl]]⟩) (row := [.osl 3 1 (encL rI ([] : List Int)), .int .i64 0, .nilsl]) (r := 0) (i := 2) 3 1 [(N0 + 1, some ⟨53, 3, [[.osl 3 1 (encL rI ([] : List Int)), .int .i64 0, .osl 3 1 (encL rI ([] : List Int))]]⟩)] (by simp (disch := omega)) rfl rfl (by simp (disch := omega)) (by simp (disch := omega) [encL_nil, List.set_set, app_set]) ?_
 obtain ⟨r1, hr1, H⟩ := bindE H
 obtain ⟨r2, hr2, H⟩ := bindE H
 refine AWP_sd tok tokM [] [2, 7, 9] [0, 1, 3, 4, 5, 6, 2, 7, 8, 9] [2] (fun a σ => ∃ M1 o1 : Nat, ∃ M2 o2 : Nat, N0 + 12 ≤ M1 ∧ N0 + 12 ≤ o1 ∧ o1 < M1 ∧ M1 ≤ M2 ∧ M1 ≤ o2 ∧ o2 < M2 ∧ a = [(2, .ptr (N0 + 1) 0 0)] ∧ σ = hp E0 [(N0 + 1, some ⟨53, 3, [[.sl o1 0 r1.length, .int .i64 p0.Pc, .sl o2 0 r2.length]]⟩), (o1, some ⟨3, 1, encL rI r1⟩), (o2, some ⟨3, 1, encL rI r2⟩)] M2) (by decide) (fun K hK => ?_) ?_
 ·
  simp only [pickL, nthO_succ, nthO_zero]
  simp -dsimp -implicitDefEqProofs (maxDischargeDepth := 6)
  refine (c95_o (H := hr1) ).mono ?_; rintro _ _ ⟨M1, o1, fM1_0, fM1_1, fM1_2, rfl, rfl⟩; simp only [hp_next] at fM1_0 fM1_1 fM1_2
  have eM1_0 := nQ o1 (N0 + 1)
  try simp -dsimp -implicitDefEqProofs (maxDischargeDepth := 6) [eM1_0, hp_over_some, hp_over_none]
  refine (c95_o (H := hr2) ).mono ?_; rintro _ _ ⟨M2, o2, fM2_0, fM2_1, fM2_2, rfl, rfl⟩; simp only [hp_next] at fM2_0 fM2_1 fM2_2
  have eM2_0 := nQ o2 (N0 + 1)
  have eM2_1 := nQ o2 o1
  try simp -dsimp -implicitDefEqProofs (maxDischargeDepth := 6) [eM1_0, hp_over_some, hp_over_none, eM2_0, eM2_1, hp_over_some, hp_over_none]
  exact hK _ _ ⟨M1, o1, M2, o2, (by omega), (by omega), (by omega), (by omega), (by omega), (by omega), rfl, rfl⟩
 rintro a σ ⟨M1, o1, M2, o2, fM1_0, fM1_1, fM1_2, fM2_0, fM2_1, fM2_2, rfl, rfl⟩
 replace H := oi H; subst H
 refine Kp [2] ?_
 refine gP AWP_ref (N0 + 1) 0 0 ?_
 refine gP AWP_ref (N0 + 1) 0 2 ?_
 refine gU AWP_ref (N0 + 1) 0 0 ?_
 refine gU AWP_ref (N0 + 1) 0 2 ?_
 have z0 := nQ (N0 + 1) M2
 have z1 := nQ (N0 + 1) (M2 + 1)
 have z2 := nQ N0 M2
 refine AWP_ret ?_
 refine ⟨[.agg [.sl M2 0 r1.length, .int .i64 p0.Pc, .sl (M2 + 1) 0 r2.length]], by simp [z0, z1, z2], (fun o => [N0 + 1].contains o), M2 + 2, M2, M2 + 1, by omega, by omega, by omega, by omega, by omega, by omega, ?_, ?_⟩
 ·
  simp [encL_nil, z0, z1, z2]
 ·
  rw [cutD (L' := [(M2, some ⟨3, 1, encL rI r1⟩), (M2 + 1, some ⟨3, 1, encL rI r2⟩)]) (by simp [z0, z1, z2])]
  first | done | rfl | simp [List.set_set]
theorem c23_o2 {p0 : gMachine} {p1 : Int} {r : gMachine × Int × Int} (H : i_MachineRun_o2 p0 p1 = some r) {σ : AHeap} : ACalls Tryd.prog G 23 [.agg [.fsl (encL rI p0.Regs), .int .i64 p0.Pc, .fsl (encL rI p0.Mem)], .int .i64 p1] σ (fun v σ' => ∃ M n0 n1 : Nat, σ.next ≤ M ∧ σ.next ≤ n0 ∧ n0 < M ∧ σ.next ≤ n1 ∧ n1 < M ∧ ¬ n0 = n1 ∧ v = .tup [.agg [.sl n0 0 r.1.Regs.length, .int .i64 r.1.Pc, .sl n1 0 r.1.Mem.length], .int .i64 r.2.1, .int .i64 r.2.2] ∧ σ' = hp σ.objs [(n0, some ⟨3, 1, encL rI r.1.Regs⟩), (n1, some ⟨3, 1, encL rI r.1.Mem⟩)] M) := by
 refine ACalls_fr (L := []) (Q1 := fun v σ' => ∃ M n0 n1 : Nat, σ.next ≤ M ∧ σ.next ≤ n0 ∧ n0 < M ∧ σ.next ≤ n1 ∧ n1 < M ∧ ¬ n0 = n1 ∧ v = .tup [.agg [.sl n0 0 r.1.Regs.length, .int .i64 r.1.Pc, .sl n1 0 r.1.Mem.length], .int .i64 r.2.1, .int .i64 r.2.2] ∧ σ' = hp E0 [(n0, some ⟨3, 1, encL rI r.1.Regs⟩), (n1, some ⟨3, 1, encL rI r.1.Mem⟩)] M) (by simp []) (fun hlt => ?_) ?_ ⟨_, Tryd.func23, rfl, rfl⟩
 rotate_left
 ·
  rintro v σ1 ⟨M, n0, n1, h0, h1, h2, h3, h4, h5, rfl, rfl⟩
  exact ⟨_, M, rfl, by simp, by simp; try omega, M, n0, n1, h0, h1, h2, h3, h4, h5, rfl, rfl⟩
 generalize σ.next = N0 at hlt ⊢
 refine ACalls_thaw 4 ?_
 refine ACalls_fn tok Tryd.func23 (by kernel_rfl) rfl Tryd.ntmps23 Tryd.results23 rfl ?_
 simp only [argsA, Nat.reduceAdd, hp_next]
 unfold i_MachineRun_o2 at H
 refine S0 tok [0] [1, 2, 4] ?_
 refine AWP_sq [1, 2, 4] fun K1 hK1 => ?_
 refine gPk0 AWP_ref (o := (N0 + 1)) (ob := ⟨53, 3, [[.nilsl, .int .i64 0, .nilsl]]⟩) (row := [.nilsl, .int .i64 0, .nilsl]) (r := 0) (i := 0) 3 1 [(N0 + 1, some ⟨53, 3, [[.osl 3 1 (encL rI ([] : List Int)), .int .i64 0, .nilsl]]⟩)] (by simp (disch := omega)) rfl rfl (by simp (disch := omega)) (by simp (disch := omega) [encL_nil, List.set_set, app_set]) ?_
 refine gPk0 AWP_ref (o := (N0 + 1)) (ob := ⟨53, 3, [[.osl 3 1 (encL rI ([] : List Int)), .int .i64 0, .nilsl]]⟩) (row := [.osl 3 1 (encL rI ([] : List Int)), .int .i64 0, .nilsl]) (r := 0) (i := 2) 3 1 [(N0 + 1, some ⟨53, 3, [[.osl 3 1 (encL rI ([] : List Int)), .int .i64 0, .osl 3 1 (encL rI ([] : List Int))]]⟩)] (by simp (disch := omega)) rfl rfl (by simp (disch := omega)) (by simp (disch := omega) [encL_nil, List.set_set, app_set]) ?_
 obtain ⟨r1, hr1, H⟩ := bindE H
 obtain ⟨g2, hg2, H⟩ := bindE H
 obtain ⟨g3, hg3, H⟩ := bindE H
 refine AWP_sr tok [] [1, 2, 4, 20] (fun a σ => a = [(1, .int .i64 p1), (2, .fptr [.fsl (encL rI p0.Regs), .int .i64 p0.Pc, .fsl (encL rI p0.Mem)] 0), (4, .ptr (N0 + 1) 0 0), (20, .bool g3)] ∧ σ = hp E0 [(N0 + 1, some ⟨53, 3, [[.osl 3 1 (encL rI ([] : List Int)), .int .i64 0, .osl 3 1 (encL rI ([] : List Int))]]⟩)] (N0 + 15)) (fun K hK => ?_) ?_
 ·
  simp -dsimp -implicitDefEqProofs (maxDischargeDepth := 6)
  refine (c51 hr1).app ?_; try simp -dsimp -implicitDefEqProofs (maxDischargeDepth := 6)
  cases hbg2 : bnot r1
  ·
   replace hg2 := ifF hbg2 hg2
   replace hg2 := oi hg2; subst hg2
   try simp -dsimp -implicitDefEqProofs (maxDischargeDepth := 6) [hbg2]
   cases hbg3 : (ilt p1 0)
   ·
    replace hg3 := ifF hbg3 hg3
    replace hg3 := oi hg3; subst hg3
    try simp -dsimp -implicitDefEqProofs (maxDischargeDepth := 6) [hbg2, hbg3]
    exact hK _ _ ⟨rfl, rfl⟩
   ·
    replace hg3 := ifT hbg3 hg3
    replace hg3 := oi hg3; subst hg3
    try simp -dsimp -implicitDefEqProofs (maxDischargeDepth := 6) [hbg2, hbg3]
    exact hK _ _ ⟨rfl, rfl⟩
  ·
   replace hg2 := ifT hbg2 hg2
   replace hg2 := oi hg2; subst hg2
   try simp -dsimp -implicitDefEqProofs (maxDischargeDepth := 6) [hbg2]
   replace hg3 := ifT rfl hg3
   replace hg3 := oi hg3; subst hg3
   try simp -dsimp -implicitDefEqProofs (maxDischargeDepth := 6) [hbg2]
   exact hK _ _ ⟨rfl, rfl⟩
 rintro a σ ⟨rfl, rfl⟩
 refine AWP_cond g3 rfl (fun C1 => ?_) (fun C1 => ?_)
 ·
  replace H := ifT C1 H
  refine S0 tok [0] [4, 5, 6] ?_
  replace H := oi H; subst H
  refine Kp [4, 5, 6] ?_
  refine gPk0 AWP_ref (o := (N0 + 1)) (ob := ⟨53, 3, [[.nilsl, .int .i64 0, .nilsl]]⟩) (row := [.nilsl, .int .i64 0, .nilsl]) (r := 0) (i := 0) 3 1 [(N0 + 1, some ⟨53, 3, [[.osl 3 1 (encL rI ([] : List Int)), .int .i64 0, .nilsl]]⟩)] (by simp (disch := omega)) rfl rfl (by simp (disch := omega)) (by simp (disch := omega) [encL_nil, List.set_set, app_set]) ?_
  refine gPk0 AWP_ref (o := (N0 + 1)) (ob := ⟨53, 3, [[.osl 3 1 (encL rI ([] : List Int)), .int .i64 0, .nilsl]]⟩) (row := [.osl 3 1 (encL rI ([] : List Int)), .int .i64 0, .nilsl]) (r := 0) (i := 2) 3 1 [(N0 + 1, some ⟨53, 3, [[.osl 3 1 (encL rI ([] : List Int)), .int .i64 0, .osl 3 1 (encL rI ([] : List Int))]]⟩)] (by simp (disch := omega)) rfl rfl (by simp (disch := omega)) (by simp (disch := omega) [encL_nil, List.set_set, app_set]) ?_
  refine gU AWP_ref (N0 + 1) 0 0 ?_
  refine gU AWP_ref (N0 + 1) 0 2 ?_
  refine AWP_ret ?_
  refine ⟨[.agg [.sl (N0 + 19) 0 ([] : List Int).length, .int .i64 0, .sl (N0 + 20) 0 ([] : List Int).length], .int .i64 0, .int .i64 0], by simp, (fun o => [N0 + 1].contains o), N0 + 21, N0 + 19, N0 + 20, by omega, by omega, by omega, by omega, by omega, by omega, ?_, ?_⟩
  ·
   simp [encL_nil]
  ·
   rw [cutD (L' := [(N0 + 19, some ⟨3, 1, encL rI ([] : List Int)⟩), (N0 + 20, some ⟨3, 1, encL rI ([] : List Int)⟩)]) (by simp)]
   first | done | rfl | simp [List.set_set]
 ·
  replace H := ifF C1 H
  refine AWP_skip (Jn hK1 ?_)
  obtain ⟨r4, hr4, H⟩ := bindE H
  refine AWP_sr tok [] [1, 4, 7] (fun a σ => ∃ M1 o1 o2 : Nat, N0 + 19 ≤ M1 ∧ N0 + 19 ≤ o1 ∧ o1 < M1 ∧ N0 + 19 ≤ o2 ∧ o2 < M1 ∧ ¬ o1 = o2 ∧ a = [(1, .int .i64 p1), (4, .ptr (N0 + 1) 0 0), (7, .ptr (N0 + 17) 0 0)] ∧ σ = hp E0 [(N0 + 1, some ⟨53, 3, [[.osl 3 1 (encL rI ([] : List Int)), .int .i64 0, .osl 3 1 (encL rI ([] : List Int))]]⟩), (o1, some ⟨3, 1, encL rI r4.Regs⟩), (o2, some ⟨3, 1, encL rI r4.Mem⟩), (N0 + 17, some ⟨53, 3, [[.sl o1 0 r4.Regs.length, .int .i64 r4.Pc, .sl o2 0 r4.Mem.length]]⟩)] M1) (fun K hK => ?_) ?_
  ·
   simp -dsimp -implicitDefEqProofs (maxDischargeDepth := 6)
   refine (c52_o2 (H := hr4) ).mono ?_; rintro _ _ ⟨M1, o1, o2, fM1_0, fM1_1, fM1_2, fM1_3, fM1_4, fM1_5, rfl, rfl⟩; simp only [hp_next] at fM1_0 fM1_1 fM1_2 fM1_3 fM1_4 fM1_5
   have eM1_0 := nQ o1 (N0 + 1)
   have eM1_1 := nQ o1 (N0 + 17)
   have eM1_2 := nQ o1 o2
   have eM1_3 := nQ o2 (N0 + 1)
   have eM1_4 := nQ o2 (N0 + 17)
   try simp -dsimp -implicitDefEqProofs (maxDischargeDepth := 6) [eM1_0, eM1_1, eM1_2, eM1_3, eM1_4, hp_over_some, hp_over_none]
   exact hK _ _ ⟨M1, o1, o2, (by omega), (by omega), (by omega), (by omega), (by omega), (by omega), rfl, rfl⟩
  rintro a σ ⟨M1, o1, o2, fM1_0, fM1_1, fM1_2, fM1_3, fM1_4, fM1_5, rfl, rfl⟩
  refine AWP_sq [1, 4, 7] fun K2 hK2 => ?_
  refine Sx tok [] [1, 4, 7, 24, 25] (by
   intro K k
   have e0 := nQ (N0 + 1) o1
   have e1 := nQ (N0 + 1) o2
   have e2 := nQ o1 o2
   have e3 := nQ o1 (N0 + 17)
   have e4 := nQ o2 (N0 + 17)
   simp -dsimp -implicitDefEqProofs (maxDischargeDepth := 6) [e0, e1, e2, e3, e4]
   exact k) ?_
  refine AWP_block (AWP_thenB ?_)
  obtain ⟨e1, hse1, H⟩ := bindE H
  refine AWP_lp [1, 4, 7, 24, 25] (fun s a σ => ∃ M2 o3 o4 : Nat, N0 ≤ M2 ∧ N0 ≤ o3 ∧ o3 < M2 ∧ N0 ≤ o4 ∧ o4 < M2 ∧ ¬ o3 = o4 ∧ a = [(1, .int .i64 p1), (4, .ptr o3 0 0), (7, .ptr o4 0 0), (24, .int .i64 p1), (25, .int .i64 s.1)] ∧ σ = hp E0 [(o3, some ⟨53, 3, [[.osl 3 1 (encL rI s.2.1.Regs), .int .i64 s.2.1.Pc, .osl 3 1 (encL rI s.2.1.Mem)]]⟩), (o4, some ⟨53, 3, [[.osl 3 1 (encL rI s.2.2.Regs), .int .i64 s.2.2.Pc, .osl 3 1 (encL rI s.2.2.Mem)]]⟩)] M2) (fun e x a σ => match e with | .inl s => x = .exit 0 ∧ Rc G 37 N0 (fun a σ => ∃ M3 o5 o6 : Nat, N0 ≤ M3 ∧ N0 ≤ o5 ∧ o5 < M3 ∧ N0 ≤ o6 ∧ o6 < M3 ∧ ¬ o5 = o6 ∧ a = [(1, .int .i64 p1), (4, .ptr o5 0 0), (7, .ptr o6 0 0)] ∧ σ = hp E0 [(o5, some ⟨53, 3, [[.osl 3 1 (encL rI s.1.Regs), .int .i64 s.1.Pc, .osl 3 1 (encL rI s.1.Mem)]]⟩), (o6, some ⟨53, 3, [[.osl 3 1 (encL rI s.2.Regs), .int .i64 s.2.Pc, .osl 3 1 (encL rI s.2.Mem)]]⟩)] M3) (AAct.keep a [1, 4, 7]) σ | .inr s => x = .ret ∧ ∃ vs, resA T σ a [.cell 4 53, .tmp 5, .tmp 6] = some vs ∧ ∃ D : Nat → Bool, ∃ M n0 n1 : Nat, N0 ≤ M ∧ N0 ≤ n0 ∧ n0 < M ∧ N0 ≤ n1 ∧ n1 < M ∧ ¬ n0 = n1 ∧ (thawA D σ 4 (tupA vs)) = .tup [.agg [.sl n0 0 s.1.Regs.length, .int .i64 s.1.Pc, .sl n1 0 s.1.Mem.length], .int .i64 s.2.1, .int .i64 s.2.2] ∧ (σ.cut D) = hp E0 [(n0, some ⟨3, 1, encL rI s.1.Regs⟩), (n1, some ⟨3, 1, encL rI s.1.Mem⟩)] M) hse1 ?_ ?_ ?_
  ·
   refine Rc.kp [1, 4, 7, 24, 25] [(1, .int .i64 p1), (4, .ptr (N0 + 1) 0 0), (7, .ptr (N0 + 17) 0 0), (24, .int .i64 p1), (25, .int .i64 0)] rfl ?_
   refine gP Rc_ref (N0 + 17) 0 0 ?_
   refine gP Rc_ref (N0 + 17) 0 2 ?_
   exact Rc.fin (AHeap.Sub.refl _) ⟨M1 + 2, (N0 + 1), (N0 + 17), (by omega), (by omega), (by omega), (by omega), (by omega), (by omega), rfl, rfl⟩
  ·
   clear H hse1
   rintro ⟨s5, s6, s7⟩ fl a σ H ⟨M2, o3, o4, fM2_0, fM2_1, fM2_2, fM2_3, fM2_4, fM2_5, rfl, rfl⟩ K3 O3 hK3 hO3
   unfold i_MachineRun_o2_L1 at H; dsimp only at H
   refine Sx tok [] [1, 4, 7, 24, 25, 26] (by
    intro K k
    have e0 := nQ o3 o4
    simp -dsimp -implicitDefEqProofs (maxDischargeDepth := 6) [e0]
    exact k) ?_
   refine AWP_sq [1, 4, 7, 24, 25] fun K4 hK4 => ?_
   refine AWP_cond (ilt s5 p1) rfl (fun C2 => ?_) (fun C2 => ?_)
   ·
    replace H := ifT C2 H
    refine AWP_skip (Jn hK4 ?_)
    refine AWP_sq [1, 4, 7, 24, 25] fun K5 hK5 => ?_
    refine AWP_block (AWP_thenB ?_)
    refine Sx tok [] [1, 4, 7, 8, 24, 25] (by
     intro K k
     have e0 := nQ o3 o4
     simp -dsimp -implicitDefEqProofs (maxDischargeDepth := 6) [e0]
     exact k) ?_
    obtain ⟨r10, hr10, H⟩ := bindE H
    refine AWP_sr tok [] [1, 4, 7, 8, 9, 24, 25] (fun a σ => ∃ M4 : Nat, M2 + 5 ≤ M4 ∧ a = [(1, .int .i64 p1), (4, .ptr o3 0 0), (7, .ptr o4 0 0), (8, .int .i64 s5), (9, .int .i64 r10.1), (24, .int .i64 p1), (25, .int .i64 s5)] ∧ σ = hp E0 [(o3, some ⟨53, 3, [[.osl 3 1 (encL rI s6.Regs), .int .i64 s6.Pc, .osl 3 1 (encL rI s6.Mem)]]⟩), (o4, some ⟨53, 3, [[.osl 3 1 (encL rI r10.2.Regs), .int .i64 r10.2.Pc, .osl 3 1 (encL rI r10.2.Mem)]]⟩)] M4) (fun K hK => ?_) ?_
    ·
     have e0 := nQ o3 o4
     simp -dsimp -implicitDefEqProofs (maxDischargeDepth := 6) [e0]
     refine (c53 (W0 := [[.osl 3 1 (encL rI s7.Regs), .int .i64 s7.Pc, .osl 3 1 (encL rI s7.Mem)]]) (r0_ := 0) (H := hr10) (by simp [e0]) (by simp [e0])).mono ?_; rintro _ _ ⟨M4, fM4_0, rfl, rfl⟩; simp only [hp_next] at fM4_0
     try simp -dsimp -implicitDefEqProofs (maxDischargeDepth := 6) [e0, hp_over_some, hp_over_none]
     exact hK _ _ ⟨M4, (by omega), rfl, rfl⟩
    rintro a σ ⟨M4, fM4_0, rfl, rfl⟩
    refine Sx tok [] [1, 4, 7, 8, 9, 24, 25, 30] (by
     intro K k
     have e0 := nQ o3 o4
     simp -dsimp -implicitDefEqProofs (maxDischargeDepth := 6) [e0]
     exact k) ?_
    refine AWP_cond (ine r10.1 1) rfl (fun C3 => ?_) (fun C3 => ?_)
    ·
     replace H := ifT C3 H
     refine gU AWP_ref o4 0 0 ?_
     refine gU AWP_ref o4 0 2 ?_
     refine Sx tok [] [4, 5, 6] (by
      intro K k
      have e0 := nQ o3 o4
      have e1 := nQ o3 (M4 + 2)
      have e2 := nQ o3 (M4 + 3)
      have e3 := nQ o4 (M4 + 2)
      have e4 := nQ o4 (M4 + 3)
      simp -dsimp -implicitDefEqProofs (maxDischargeDepth := 6) [e0, e1, e2, e3, e4]
      exact k) ?_
     replace H := oi H; subst H
     refine Kp [4, 5, 6] ?_
     refine gDrop AWP_ref [(o3, some ⟨53, 3, [[.sl (M4 + 2) 0 r10.2.Regs.length, .int .i64 r10.2.Pc, .sl (M4 + 3) 0 r10.2.Mem.length]]⟩), (M4 + 2, some ⟨3, 1, encL rI r10.2.Regs⟩), (M4 + 3, some ⟨3, 1, encL rI r10.2.Mem⟩)] (hp_skip (AHeap.Sub.trans (hp_skip (hp_skip (AHeap.Sub.refl _))) (hp_drop rfl (by simp; try omega)))) ?_
     refine gP AWP_ref o3 0 0 ?_
     refine gP AWP_ref o3 0 2 ?_
     refine gU AWP_ref o3 0 0 ?_
     refine gU AWP_ref o3 0 2 ?_
     have z0 := nQ o3 (M4 + 10)
     have z1 := nQ o3 (M4 + 11)
     refine AWP_ret (hO3 _ _ _ _ rfl ⟨rfl, ?_⟩)
     refine ⟨[.agg [.sl (M4 + 10) 0 r10.2.Regs.length, .int .i64 r10.2.Pc, .sl (M4 + 11) 0 r10.2.Mem.length], .int .i64 s5, .int .i64 r10.1], by simp [z0, z1], (fun o => [o3].contains o), M4 + 12, M4 + 10, M4 + 11, by omega, by omega, by omega, by omega, by omega, by omega, ?_, ?_⟩
     ·
      simp [encL_nil, z0, z1]
     ·
      rw [cutD (L' := [(M4 + 10, some ⟨3, 1, encL rI r10.2.Regs⟩), (M4 + 11, some ⟨3, 1, encL rI r10.2.Mem⟩)]) (by simp [z0, z1])]
      first | done | rfl | simp [List.set_set]
    ·
     replace H := ifF C3 H
     refine AWP_skip (Jn hK5 ?_)
     refine AWP_rt tok [] [1, 4, 7, 24, 25] (fun a σ => a = [(1, .int .i64 p1), (4, .ptr o3 0 0), (7, .ptr o4 0 0), (24, .int .i64 p1), (25, .int .i64 (iadd .i64 s5 1))] ∧ σ = hp E0 [(o3, some ⟨53, 3, [[.osl 3 1 (encL rI s6.Regs), .int .i64 s6.Pc, .osl 3 1 (encL rI s6.Mem)]]⟩), (o4, some ⟨53, 3, [[.osl 3 1 (encL rI r10.2.Regs), .int .i64 r10.2.Pc, .osl 3 1 (encL rI r10.2.Mem)]]⟩)] (M4 + 4)) (fun K hK => ?_) ?_
     ·
      have e0 := nQ o3 o4
      simp -dsimp -implicitDefEqProofs (maxDischargeDepth := 6) [e0]
      exact hK _ _ ⟨rfl, rfl⟩
     rintro a σ ⟨ha, rfl⟩
     replace H := oi H; subst H
     refine hK3 _ _ _ rfl ?_; rw [ha]
     exact Rc.fin (AHeap.Sub.refl _) ⟨M4 + 4, o3, o4, (by omega), (by omega), (by omega), (by omega), (by omega), (by omega), rfl, rfl⟩
   ·
    replace H := ifF C2 H
    replace H := oi H; subst H
    refine AWP_exit (hO3 _ _ _ _ rfl ⟨rfl, ?_⟩)
    refine Rc.rw (l := [1, 4, 7]) (X := [(1, .int .i64 p1), (4, .ptr o3 0 0), (7, .ptr o4 0 0)]) rfl ?_
    exact Rc.fin (AHeap.Sub.refl _) ⟨M2 + 1, o3, o4, (by omega), (by omega), (by omega), (by omega), (by omega), (by omega), rfl, rfl⟩
  ·
   intro x a σ hx
   rcases e1 with ⟨y8, y9⟩ | r0
   ·
    obtain ⟨rfl, b, τ, hr, M3, o5, o6, fM3_0, fM3_1, fM3_2, fM3_3, fM3_4, fM3_5, rfl, rfl⟩ := hx
    dsimp only at H
    show K2 _ _
    refine hK2 _ _ (Rc_ref hr ?_)
    refine Rc.mk ?_
    refine gU AWP_ref o6 0 0 ?_
    refine gU AWP_ref o6 0 2 ?_
    refine Sx tok [] [4, 5, 6] (by
     intro K k
     have e0 := nQ o5 o6
     have e1 := nQ o5 M3
     have e2 := nQ o5 (M3 + 1)
     have e3 := nQ o6 M3
     have e4 := nQ o6 (M3 + 1)
     simp -dsimp -implicitDefEqProofs (maxDischargeDepth := 6) [e0, e1, e2, e3, e4]
     exact k) ?_
    replace H := oi H; subst H
    refine Kp [4, 5, 6] ?_
    refine gDrop AWP_ref [(o5, some ⟨53, 3, [[.sl M3 0 y9.Regs.length, .int .i64 y9.Pc, .sl (M3 + 1) 0 y9.Mem.length]]⟩), (M3, some ⟨3, 1, encL rI y9.Regs⟩), (M3 + 1, some ⟨3, 1, encL rI y9.Mem⟩)] (hp_skip (AHeap.Sub.trans (hp_skip (hp_skip (AHeap.Sub.refl _))) (hp_drop rfl (by simp; try omega)))) ?_
    refine gP AWP_ref o5 0 0 ?_
    refine gP AWP_ref o5 0 2 ?_
    refine gU AWP_ref o5 0 0 ?_
    refine gU AWP_ref o5 0 2 ?_
    have z2 := nQ o5 (M3 + 7)
    have z3 := nQ o5 (M3 + 8)
    refine AWP_ret ?_
    refine ⟨[.agg [.sl (M3 + 7) 0 y9.Regs.length, .int .i64 y9.Pc, .sl (M3 + 8) 0 y9.Mem.length], .int .i64 p1, .int .i64 1], by simp [z2, z3], (fun o => [o5].contains o), M3 + 9, M3 + 7, M3 + 8, by omega, by omega, by omega, by omega, by omega, by omega, ?_, ?_⟩
    ·
     simp [encL_nil, z2, z3]
    ·
     rw [cutD (L' := [(M3 + 7, some ⟨3, 1, encL rI y9.Regs⟩), (M3 + 8, some ⟨3, 1, encL rI y9.Mem⟩)]) (by simp [z2, z3])]
     first | done | rfl | simp [List.set_set]
   ·
    obtain ⟨rfl, hx2⟩ := hx
    dsimp only at H
    replace H := oi H; subst H; exact hx2
end Go.Proofs.YtlcilhmkbmgkeaaDoor
