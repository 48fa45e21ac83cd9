/- The contracts of functions of the program, part 8: each computes what its mirror computes. No conditions. -/
import Derived.Test.YtoklfbdcghgmlaaDoorDT7
set_option linter.unusedSimpArgs false
set_option linter.unusedVariables false
set_option maxRecDepth 20000
set_option maxHeartbeats 4000000
namespace Go.Proofs.YtoklfbdcghgmlaaDoor
open Go Go.Abs Go.RowKit

theorem c85 {p0 : Int} {r : Bool} (H : i_isMachineReg p0 = some r) : APure Tryd.prog G 85 [.int .i64 p0] (.bool r) := by
 refine APure_thaw 4 (fun σ => ?_) (by simp)
 refine ACalls_fn tok Tryd.func85 (by kernel_rfl) rfl Tryd.ntmps85 Tryd.results85 rfl ?_
 simp only [argsA, Nat.reduceAdd]
 refine AWP_ids fun hfr => ?_
 obtain ⟨B, hB⟩ : ∃ B, B = σ.objs := ⟨_, rfl⟩
 obtain ⟨N0, hN0⟩ : ∃ N, N = σ.next := ⟨_, rfl⟩
 have hσ : σ = hp B [] N0 := by rw [hB, hN0]; rfl
 rw [← hN0, ← hB] at hfr ⊢
 rw [hσ]; clear hσ
 unfold i_isMachineReg at H
 refine AWP_seqk [0] fun K1 hK1 => ?_
 refine AWP_regl tok [] ?_
 simp -dsimp -implicitDefEqProofs (maxDischargeDepth := 6)
 refine keepE2 (l := [0]) (x := [(0, .int .i64 p0)]) (s := hp B [] (N0 + 1)) rfl rfl fun a' ha => ?_
 refine hK1 _ _ ?_; rw [ha]
 refine AWP_seqk [2] fun K2 hK2 => ?_
 obtain ⟨g1, hg1, H⟩ := bindE H
 have J1 : ∀ a' σ', AAct.keep a' [2] = [(2, .bool g1)] → σ' = hp B [] (N0 + 8) → K2 a' σ' := by
  intro a' σ' ha hs; subst hs
  refine hK2 _ _ ?_; rw [ha]
  refine AWP_ret ?_
  replace H := Option.some.inj H; subst H
  refine ⟨[.bool g1], by simp, ?_, ?_⟩
  ·
   simp [encL_nil]
  ·
   intro o ho; exact lk_out (by simp; try omega)
 refine AWP_regl tok [] ?_
 simp -dsimp -implicitDefEqProofs (maxDischargeDepth := 6)
 cases hbg1 : ige p0 0
 ·
  replace hg1 := ifF hbg1 hg1
  replace hg1 := Option.some.inj hg1; subst hg1
  try simp -dsimp -implicitDefEqProofs (maxDischargeDepth := 6) [hbg1]
  exact J1 _ _ rfl rfl
 ·
  replace hg1 := ifT hbg1 hg1
  replace hg1 := Option.some.inj hg1; subst hg1
  try simp -dsimp -implicitDefEqProofs (maxDischargeDepth := 6) [hbg1]
  exact J1 _ _ rfl rfl
theorem c86 {p0 : Int} {r : Int} (H : i_formatOf p0 = some r) : APure Tryd.prog G 86 [.int .i64 p0] (.int .u8 r) := by
 refine APure_thaw 4 (fun σ => ?_) (by simp)
 refine ACalls_fn tok Tryd.func86 (by kernel_rfl) rfl Tryd.ntmps86 Tryd.results86 rfl ?_
 simp only [argsA, Nat.reduceAdd]
 refine AWP_ids fun hfr => ?_
 obtain ⟨B, hB⟩ : ∃ B, B = σ.objs := ⟨_, rfl⟩
 obtain ⟨N0, hN0⟩ : ∃ N, N = σ.next := ⟨_, rfl⟩
 have hσ : σ = hp B [] N0 := by rw [hB, hN0]; rfl
 rw [← hN0, ← hB] at hfr ⊢
 rw [hσ]; clear hσ
 unfold i_formatOf at H
 refine AWP_seqk [0] fun K1 hK1 => ?_
 refine AWP_regl tok [] ?_
 simp -dsimp -implicitDefEqProofs (maxDischargeDepth := 6)
 refine keepE2 (l := [0]) (x := [(0, .int .i64 p0)]) (s := hp B [] (N0 + 1)) rfl rfl fun a' ha => ?_
 refine hK1 _ _ ?_; rw [ha]
 refine AWP_seqk [] fun K2 hK2 => ?_
 refine AWP_block ?_
 refine AWP_seqk [0, 3] fun K3 hK3 => ?_
 obtain ⟨g1, hg1, H⟩ := bindE H
 have J3 : ∀ a' σ', AAct.keep a' [0, 3] = [(0, .int .i64 p0), (3, .bool g1)] → σ' = hp B [] (N0 + 8) → K3 a' σ' := by
  intro a' σ' ha hs; subst hs
  refine hK3 _ _ ?_; rw [ha]
  refine AWP_cond g1 rfl (fun C7 => ?_) (fun C7 => ?_)
  ·
   replace H := ifT C7 H
   refine AWP_seqk [2] fun K4 hK4 => ?_
   refine AWP_regl tok [] ?_
   simp -dsimp -implicitDefEqProofs (maxDischargeDepth := 6)
   refine keepE2 (l := [2]) (x := [(2, .int .u8 82)]) (s := hp B [] (N0 + 9)) rfl rfl fun a' ha => ?_
   refine hK4 _ _ ?_; rw [ha]
   refine AWP_ret ?_
   replace H := Option.some.inj H; subst H
   refine ⟨[.int .u8 82], by simp, ?_, ?_⟩
   ·
    simp [encL_nil]
   ·
    intro o ho; exact lk_out (by simp; try omega)
  ·
   replace H := ifF C7 H
   refine AWP_seqk [0, 10] fun K5 hK5 => ?_
   obtain ⟨g2, hg2, H⟩ := bindE H
   have J2 : ∀ a' σ', AAct.keep a' [0, 10] = [(0, .int .i64 p0), (10, .bool g2)] → σ' = hp B [] (N0 + 15) → K5 a' σ' := by
    intro a' σ' ha hs; subst hs
    refine hK5 _ _ ?_; rw [ha]
    refine AWP_cond g2 rfl (fun C6 => ?_) (fun C6 => ?_)
    ·
     replace H := ifT C6 H
     refine AWP_seqk [2] fun K6 hK6 => ?_
     refine AWP_regl tok [] ?_
     simp -dsimp -implicitDefEqProofs (maxDischargeDepth := 6)
     refine keepE2 (l := [2]) (x := [(2, .int .u8 73)]) (s := hp B [] (N0 + 16)) rfl rfl fun a' ha => ?_
     refine hK6 _ _ ?_; rw [ha]
     refine AWP_ret ?_
     replace H := Option.some.inj H; subst H
     refine ⟨[.int .u8 73], by simp, ?_, ?_⟩
     ·
      simp [encL_nil]
     ·
      intro o ho; exact lk_out (by simp; try omega)
    ·
     replace H := ifF C6 H
     refine AWP_seqk [0, 17] fun K7 hK7 => ?_
     refine AWP_regl tok [] ?_
     simp -dsimp -implicitDefEqProofs (maxDischargeDepth := 6)
     refine keepE2 (l := [0, 17]) (x := [(0, .int .i64 p0), (17, .bool (ieq p0 16))]) (s := hp B [] (N0 + 18)) rfl rfl fun a' ha => ?_
     refine hK7 _ _ ?_; rw [ha]
     refine AWP_cond (ieq p0 16) rfl (fun C5 => ?_) (fun C5 => ?_)
     ·
      replace H := ifT C5 H
      refine AWP_seqk [2] fun K8 hK8 => ?_
      refine AWP_regl tok [] ?_
      simp -dsimp -implicitDefEqProofs (maxDischargeDepth := 6)
      refine keepE2 (l := [2]) (x := [(2, .int .u8 83)]) (s := hp B [] (N0 + 19)) rfl rfl fun a' ha => ?_
      refine hK8 _ _ ?_; rw [ha]
      refine AWP_ret ?_
      replace H := Option.some.inj H; subst H
      refine ⟨[.int .u8 83], by simp, ?_, ?_⟩
      ·
       simp [encL_nil]
      ·
       intro o ho; exact lk_out (by simp; try omega)
     ·
      replace H := ifF C5 H
      refine AWP_seqk [0, 20] fun K9 hK9 => ?_
      obtain ⟨g3, hg3, H⟩ := bindE H
      have J1 : ∀ a' σ', AAct.keep a' [0, 20] = [(0, .int .i64 p0), (20, .bool g3)] → σ' = hp B [] (N0 + 25) → K9 a' σ' := by
       intro a' σ' ha hs; subst hs
       refine hK9 _ _ ?_; rw [ha]
       refine AWP_cond g3 rfl (fun C4 => ?_) (fun C4 => ?_)
       ·
        replace H := ifT C4 H
        refine AWP_seqk [2] fun K10 hK10 => ?_
        refine AWP_regl tok [] ?_
        simp -dsimp -implicitDefEqProofs (maxDischargeDepth := 6)
        refine keepE2 (l := [2]) (x := [(2, .int .u8 66)]) (s := hp B [] (N0 + 26)) rfl rfl fun a' ha => ?_
        refine hK10 _ _ ?_; rw [ha]
        refine AWP_ret ?_
        replace H := Option.some.inj H; subst H
        refine ⟨[.int .u8 66], by simp, ?_, ?_⟩
        ·
         simp [encL_nil]
        ·
         intro o ho; exact lk_out (by simp; try omega)
       ·
        replace H := ifF C4 H
        refine AWP_seqk [0, 27] fun K11 hK11 => ?_
        refine AWP_regl tok [] ?_
        simp -dsimp -implicitDefEqProofs (maxDischargeDepth := 6)
        refine keepE2 (l := [0, 27]) (x := [(0, .int .i64 p0), (27, .bool (ieq p0 19))]) (s := hp B [] (N0 + 28)) rfl rfl fun a' ha => ?_
        refine hK11 _ _ ?_; rw [ha]
        refine AWP_cond (ieq p0 19) rfl (fun C3 => ?_) (fun C3 => ?_)
        ·
         replace H := ifT C3 H
         refine AWP_seqk [2] fun K12 hK12 => ?_
         refine AWP_regl tok [] ?_
         simp -dsimp -implicitDefEqProofs (maxDischargeDepth := 6)
         refine keepE2 (l := [2]) (x := [(2, .int .u8 85)]) (s := hp B [] (N0 + 29)) rfl rfl fun a' ha => ?_
         refine hK12 _ _ ?_; rw [ha]
         refine AWP_ret ?_
         replace H := Option.some.inj H; subst H
         refine ⟨[.int .u8 85], by simp, ?_, ?_⟩
         ·
          simp [encL_nil]
         ·
          intro o ho; exact lk_out (by simp; try omega)
        ·
         replace H := ifF C3 H
         refine AWP_seqk [0, 30] fun K13 hK13 => ?_
         refine AWP_regl tok [] ?_
         simp -dsimp -implicitDefEqProofs (maxDischargeDepth := 6)
         refine keepE2 (l := [0, 30]) (x := [(0, .int .i64 p0), (30, .bool (ieq p0 20))]) (s := hp B [] (N0 + 31)) rfl rfl fun a' ha => ?_
         refine hK13 _ _ ?_; rw [ha]
         refine AWP_cond (ieq p0 20) rfl (fun C2 => ?_) (fun C2 => ?_)
         ·
          replace H := ifT C2 H
          refine AWP_seqk [2] fun K14 hK14 => ?_
          refine AWP_regl tok [] ?_
          simp -dsimp -implicitDefEqProofs (maxDischargeDepth := 6)
          refine keepE2 (l := [2]) (x := [(2, .int .u8 74)]) (s := hp B [] (N0 + 32)) rfl rfl fun a' ha => ?_
          refine hK14 _ _ ?_; rw [ha]
          refine AWP_ret ?_
          replace H := Option.some.inj H; subst H
          refine ⟨[.int .u8 74], by simp, ?_, ?_⟩
          ·
           simp [encL_nil]
          ·
           intro o ho; exact lk_out (by simp; try omega)
         ·
          replace H := ifF C2 H
          refine AWP_seqk [33] fun K15 hK15 => ?_
          refine AWP_regl tok [] ?_
          simp -dsimp -implicitDefEqProofs (maxDischargeDepth := 6)
          refine keepE2 (l := [33]) (x := [(33, .bool (ieq p0 21))]) (s := hp B [] (N0 + 34)) rfl rfl fun a' ha => ?_
          refine hK15 _ _ ?_; rw [ha]
          refine AWP_cond (ieq p0 21) rfl (fun C1 => ?_) (fun C1 => ?_)
          ·
           replace H := ifT C1 H
           refine AWP_seqk [2] fun K16 hK16 => ?_
           refine AWP_regl tok [] ?_
           simp -dsimp -implicitDefEqProofs (maxDischargeDepth := 6)
           refine keepE2 (l := [2]) (x := [(2, .int .u8 69)]) (s := hp B [] (N0 + 35)) rfl rfl fun a' ha => ?_
           refine hK16 _ _ ?_; rw [ha]
           refine AWP_ret ?_
           replace H := Option.some.inj H; subst H
           refine ⟨[.int .u8 69], by simp, ?_, ?_⟩
           ·
            simp [encL_nil]
           ·
            intro o ho; exact lk_out (by simp; try omega)
          ·
           replace H := ifF C1 H
           refine AWP_skip ?_
           show K2 _ _
           refine keepE (l := []) (x := []) rfl fun a' ha => ?_
           refine hK2 _ _ ?_; rw [ha]
           refine AWP_seqk [2] fun K17 hK17 => ?_
           refine AWP_regl tok [] ?_
           simp -dsimp -implicitDefEqProofs (maxDischargeDepth := 6)
           refine keepE2 (l := [2]) (x := [(2, .int .u8 32)]) (s := hp B [] (N0 + 35)) rfl rfl fun a' ha => ?_
           refine hK17 _ _ ?_; rw [ha]
           refine AWP_ret ?_
           replace H := Option.some.inj H; subst H
           refine ⟨[.int .u8 32], by simp, ?_, ?_⟩
           ·
            simp [encL_nil]
           ·
            intro o ho; exact lk_out (by simp; try omega)
      refine AWP_regl tok [] ?_
      simp -dsimp -implicitDefEqProofs (maxDischargeDepth := 6)
      cases hbg3 : ieq p0 17
      ·
       replace hg3 := ifF hbg3 hg3
       replace hg3 := Option.some.inj hg3; subst hg3
       try simp -dsimp -implicitDefEqProofs (maxDischargeDepth := 6) [hbg3]
       exact J1 _ _ rfl rfl
      ·
       replace hg3 := ifT hbg3 hg3
       replace hg3 := Option.some.inj hg3; subst hg3
       try simp -dsimp -implicitDefEqProofs (maxDischargeDepth := 6) [hbg3]
       exact J1 _ _ rfl rfl
   refine AWP_regl tok [] ?_
   simp -dsimp -implicitDefEqProofs (maxDischargeDepth := 6)
   cases hbg2 : ige p0 12
   ·
    replace hg2 := ifF hbg2 hg2
    replace hg2 := Option.some.inj hg2; subst hg2
    try simp -dsimp -implicitDefEqProofs (maxDischargeDepth := 6) [hbg2]
    exact J2 _ _ rfl rfl
   ·
    replace hg2 := ifT hbg2 hg2
    replace hg2 := Option.some.inj hg2; subst hg2
    try simp -dsimp -implicitDefEqProofs (maxDischargeDepth := 6) [hbg2]
    exact J2 _ _ rfl rfl
 refine AWP_regl tok [] ?_
 simp -dsimp -implicitDefEqProofs (maxDischargeDepth := 6)
 cases hbg1 : ige p0 1
 ·
  replace hg1 := ifF hbg1 hg1
  replace hg1 := Option.some.inj hg1; subst hg1
  try simp -dsimp -implicitDefEqProofs (maxDischargeDepth := 6) [hbg1]
  exact J3 _ _ rfl rfl
 ·
  replace hg1 := ifT hbg1 hg1
  replace hg1 := Option.some.inj hg1; subst hg1
  try simp -dsimp -implicitDefEqProofs (maxDischargeDepth := 6) [hbg1]
  exact J3 _ _ rfl rfl
theorem c44 {p0 : gInstr} {r : Bool} (H : i_InstrValid p0 = some r) : APure Tryd.prog G 44 [.agg [.int .i64 p0.Op, .int .i64 p0.Rd, .int .i64 p0.Rs, .int .i64 p0.Rt, .int .i64 p0.Imm]] (.bool r) := by
 refine APure_thaw 4 (fun σ => ?_) (by simp)
 refine ACalls_fn tok Tryd.func44 (by kernel_rfl) rfl Tryd.ntmps44 Tryd.results44 rfl ?_
 simp only [argsA, Nat.reduceAdd]
 refine AWP_ids fun hfr => ?_
 obtain ⟨B, hB⟩ : ∃ B, B = σ.objs := ⟨_, rfl⟩
 obtain ⟨N0, hN0⟩ : ∃ N, N = σ.next := ⟨_, rfl⟩
 have hσ : σ = hp B [] N0 := by rw [hB, hN0]; rfl
 rw [← hN0, ← hB] at hfr ⊢
 rw [hσ]; clear hσ
 unfold i_InstrValid at H
 refine AWP_seqk [1] fun K1 hK1 => ?_
 refine AWP_regl tok [0] ?_
 simp -dsimp -implicitDefEqProofs (maxDischargeDepth := 6)
 refine keepE2 (l := [1]) (x := [(1, .fptr [.int .i64 p0.Op, .int .i64 p0.Rd, .int .i64 p0.Rs, .int .i64 p0.Rt, .int .i64 p0.Imm] 0)]) (s := hp B [] (N0 + 2)) rfl rfl fun a' ha => ?_
 refine hK1 _ _ ?_; rw [ha]
 refine AWP_seqk [1, 3, 4, 5] fun K2 hK2 => ?_
 obtain ⟨r1, hr1, H⟩ := bindE H
 obtain ⟨r2, hr2, H⟩ := bindE H
 obtain ⟨r3, hr3, H⟩ := bindE H
 refine AWP_drawl tok tokM [] [] [0, 1, 2, 3, 4, 5, 6, 7, 8, 9, 10, 11] (by decide) ?_
 simp only [pickL, nthO_succ, nthO_zero]
 simp -dsimp -implicitDefEqProofs (maxDischargeDepth := 6)
 refine Pc.mk (c85 hr1) ?_; try simp -dsimp -implicitDefEqProofs (maxDischargeDepth := 6)
 refine Pc.mk (c85 hr2) ?_; try simp -dsimp -implicitDefEqProofs (maxDischargeDepth := 6)
 refine Pc.mk (c85 hr3) ?_; try simp -dsimp -implicitDefEqProofs (maxDischargeDepth := 6)
 refine keepE2 (l := [1, 3, 4, 5]) (x := [(1, .fptr [.int .i64 p0.Op, .int .i64 p0.Rd, .int .i64 p0.Rs, .int .i64 p0.Rt, .int .i64 p0.Imm] 0), (3, .bool r1), (4, .bool r2), (5, .bool r3)]) (s := hp B [] (N0 + 14)) rfl rfl fun a' ha => ?_
 refine hK2 _ _ ?_; rw [ha]
 refine AWP_seqk [1, 3, 4, 5, 6] fun K3 hK3 => ?_
 obtain ⟨g4, hg4, H⟩ := bindE H
 have J7 : ∀ a' σ', AAct.keep a' [1, 3, 4, 5, 6] = [(1, .fptr [.int .i64 p0.Op, .int .i64 p0.Rd, .int .i64 p0.Rs, .int .i64 p0.Rt, .int .i64 p0.Imm] 0), (3, .bool r1), (4, .bool r2), (5, .bool r3), (6, .bool g4)] → σ' = hp B [] (N0 + 23) → K3 a' σ' := by
  intro a' σ' ha hs; subst hs
  refine hK3 _ _ ?_; rw [ha]
  refine AWP_seqk [] fun K4 hK4 => ?_
  refine AWP_seqk [1, 3, 4, 5, 6, 26] fun K5 hK5 => ?_
  obtain ⟨r5, hr5, H⟩ := bindE H
  refine AWP_regl tok [] ?_
  simp -dsimp -implicitDefEqProofs (maxDischargeDepth := 6)
  refine (c86 hr5).app ?_; try simp -dsimp -implicitDefEqProofs (maxDischargeDepth := 6)
  refine keepE2 (l := [1, 3, 4, 5, 6, 26]) (x := [(1, .fptr [.int .i64 p0.Op, .int .i64 p0.Rd, .int .i64 p0.Rs, .int .i64 p0.Rt, .int .i64 p0.Imm] 0), (3, .bool r1), (4, .bool r2), (5, .bool r3), (6, .bool g4), (26, .int .u8 r5)]) (s := hp B [] (N0 + 26)) rfl rfl fun a' ha => ?_
  refine hK5 _ _ ?_; rw [ha]
  refine AWP_block ?_
  refine AWP_seqk [1, 3, 4, 5, 6, 26, 27] fun K6 hK6 => ?_
  refine AWP_regl tok [] ?_
  simp -dsimp -implicitDefEqProofs (maxDischargeDepth := 6)
  refine keepE2 (l := [1, 3, 4, 5, 6, 26, 27]) (x := [(1, .fptr [.int .i64 p0.Op, .int .i64 p0.Rd, .int .i64 p0.Rs, .int .i64 p0.Rt, .int .i64 p0.Imm] 0), (3, .bool r1), (4, .bool r2), (5, .bool r3), (6, .bool g4), (26, .int .u8 r5), (27, .bool (ieq r5 82))]) (s := hp B [] (N0 + 28)) rfl rfl fun a' ha => ?_
  refine hK6 _ _ ?_; rw [ha]
  refine AWP_cond (ieq r5 82) rfl (fun C7 => ?_) (fun C7 => ?_)
  ·
   replace H := ifT C7 H
   refine AWP_seqk [2] fun K7 hK7 => ?_
   obtain ⟨g6, hg6, H⟩ := bindE H
   obtain ⟨g7, hg7, H⟩ := bindE H
   obtain ⟨g8, hg8, H⟩ := bindE H
   have J1 : ∀ a' σ', AAct.keep a' [2] = [(2, .bool g8)] → σ' = hp B [] (N0 + 41) → K7 a' σ' := by
    intro a' σ' ha hs; subst hs
    refine hK7 _ _ ?_; rw [ha]
    refine AWP_ret ?_
    replace H := Option.some.inj H; subst H
    refine ⟨[.bool g8], by simp, ?_, ?_⟩
    ·
     simp [encL_nil]
    ·
     intro o ho; exact lk_out (by simp; try omega)
   refine AWP_regl tok [] ?_
   simp -dsimp -implicitDefEqProofs (maxDischargeDepth := 6)
   cases hbg6 : r1
   ·
    replace hg6 := ifF hbg6 hg6
    replace hg6 := Option.some.inj hg6; subst hg6
    try simp -dsimp -implicitDefEqProofs (maxDischargeDepth := 6) [hbg6]
    replace hg7 := ifF rfl hg7
    replace hg7 := Option.some.inj hg7; subst hg7
    try simp -dsimp -implicitDefEqProofs (maxDischargeDepth := 6) [hbg6]
    replace hg8 := ifF rfl hg8
    replace hg8 := Option.some.inj hg8; subst hg8
    try simp -dsimp -implicitDefEqProofs (maxDischargeDepth := 6) [hbg6]
    exact J1 _ _ rfl rfl
   ·
    replace hg6 := ifT hbg6 hg6
    replace hg6 := Option.some.inj hg6; subst hg6
    try simp -dsimp -implicitDefEqProofs (maxDischargeDepth := 6) [hbg6]
    cases hbg7 : r2
    ·
     replace hg7 := ifF hbg7 hg7
     replace hg7 := Option.some.inj hg7; subst hg7
     try simp -dsimp -implicitDefEqProofs (maxDischargeDepth := 6) [hbg6, hbg7]
     replace hg8 := ifF rfl hg8
     replace hg8 := Option.some.inj hg8; subst hg8
     try simp -dsimp -implicitDefEqProofs (maxDischargeDepth := 6) [hbg6, hbg7]
     exact J1 _ _ rfl rfl
    ·
     replace hg7 := ifT hbg7 hg7
     replace hg7 := Option.some.inj hg7; subst hg7
     try simp -dsimp -implicitDefEqProofs (maxDischargeDepth := 6) [hbg6, hbg7]
     cases hbg8 : r3
     ·
      replace hg8 := ifF hbg8 hg8
      replace hg8 := Option.some.inj hg8; subst hg8
      try simp -dsimp -implicitDefEqProofs (maxDischargeDepth := 6) [hbg6, hbg7, hbg8]
      exact J1 _ _ rfl rfl
     ·
      replace hg8 := ifT hbg8 hg8
      replace hg8 := Option.some.inj hg8; subst hg8
      try simp -dsimp -implicitDefEqProofs (maxDischargeDepth := 6) [hbg6, hbg7, hbg8]
      exact J1 _ _ rfl rfl
  ·
   replace H := ifF C7 H
   refine AWP_seqk [1, 3, 4, 5, 6, 26, 41] fun K8 hK8 => ?_
   refine AWP_regl tok [] ?_
   simp -dsimp -implicitDefEqProofs (maxDischargeDepth := 6)
   refine keepE2 (l := [1, 3, 4, 5, 6, 26, 41]) (x := [(1, .fptr [.int .i64 p0.Op, .int .i64 p0.Rd, .int .i64 p0.Rs, .int .i64 p0.Rt, .int .i64 p0.Imm] 0), (3, .bool r1), (4, .bool r2), (5, .bool r3), (6, .bool g4), (26, .int .u8 r5), (41, .bool (ieq r5 73))]) (s := hp B [] (N0 + 30)) rfl rfl fun a' ha => ?_
   refine hK8 _ _ ?_; rw [ha]
   refine AWP_cond (ieq r5 73) rfl (fun C6 => ?_) (fun C6 => ?_)
   ·
    replace H := ifT C6 H
    refine AWP_seqk [2] fun K9 hK9 => ?_
    obtain ⟨g9, hg9, H⟩ := bindE H
    obtain ⟨g10, hg10, H⟩ := bindE H
    obtain ⟨g11, hg11, H⟩ := bindE H
    have J2 : ∀ a' σ', AAct.keep a' [2] = [(2, .bool g11)] → σ' = hp B [] (N0 + 43) → K9 a' σ' := by
     intro a' σ' ha hs; subst hs
     refine hK9 _ _ ?_; rw [ha]
     refine AWP_ret ?_
     replace H := Option.some.inj H; subst H
     refine ⟨[.bool g11], by simp, ?_, ?_⟩
     ·
      simp [encL_nil]
     ·
      intro o ho; exact lk_out (by simp; try omega)
    refine AWP_regl tok [] ?_
    simp -dsimp -implicitDefEqProofs (maxDischargeDepth := 6)
    cases hbg9 : r1
    ·
     replace hg9 := ifF hbg9 hg9
     replace hg9 := Option.some.inj hg9; subst hg9
     try simp -dsimp -implicitDefEqProofs (maxDischargeDepth := 6) [hbg9]
     replace hg10 := ifF rfl hg10
     replace hg10 := Option.some.inj hg10; subst hg10
     try simp -dsimp -implicitDefEqProofs (maxDischargeDepth := 6) [hbg9]
     replace hg11 := ifF rfl hg11
     replace hg11 := Option.some.inj hg11; subst hg11
     try simp -dsimp -implicitDefEqProofs (maxDischargeDepth := 6) [hbg9]
     exact J2 _ _ rfl rfl
    ·
     replace hg9 := ifT hbg9 hg9
     replace hg9 := Option.some.inj hg9; subst hg9
     try simp -dsimp -implicitDefEqProofs (maxDischargeDepth := 6) [hbg9]
     cases hbg10 : r2
     ·
      replace hg10 := ifF hbg10 hg10
      replace hg10 := Option.some.inj hg10; subst hg10
      try simp -dsimp -implicitDefEqProofs (maxDischargeDepth := 6) [hbg9, hbg10]
      replace hg11 := ifF rfl hg11
      replace hg11 := Option.some.inj hg11; subst hg11
      try simp -dsimp -implicitDefEqProofs (maxDischargeDepth := 6) [hbg9, hbg10]
      exact J2 _ _ rfl rfl
     ·
      replace hg10 := ifT hbg10 hg10
      replace hg10 := Option.some.inj hg10; subst hg10
      try simp -dsimp -implicitDefEqProofs (maxDischargeDepth := 6) [hbg9, hbg10]
      cases hbg11 : (ieq p0.Rt 0)
      ·
       replace hg11 := ifF hbg11 hg11
       replace hg11 := Option.some.inj hg11; subst hg11
       try simp -dsimp -implicitDefEqProofs (maxDischargeDepth := 6) [hbg9, hbg10, hbg11]
       exact J2 _ _ rfl rfl
      ·
       replace hg11 := ifT hbg11 hg11
       replace hg11 := Option.some.inj hg11; subst hg11
       try simp -dsimp -implicitDefEqProofs (maxDischargeDepth := 6) [hbg9, hbg10, hbg11]
       exact J2 _ _ rfl rfl
   ·
    replace H := ifF C6 H
    refine AWP_seqk [1, 3, 4, 5, 6, 26, 55] fun K10 hK10 => ?_
    refine AWP_regl tok [] ?_
    simp -dsimp -implicitDefEqProofs (maxDischargeDepth := 6)
    refine keepE2 (l := [1, 3, 4, 5, 6, 26, 55]) (x := [(1, .fptr [.int .i64 p0.Op, .int .i64 p0.Rd, .int .i64 p0.Rs, .int .i64 p0.Rt, .int .i64 p0.Imm] 0), (3, .bool r1), (4, .bool r2), (5, .bool r3), (6, .bool g4), (26, .int .u8 r5), (55, .bool (ieq r5 83))]) (s := hp B [] (N0 + 32)) rfl rfl fun a' ha => ?_
    refine hK10 _ _ ?_; rw [ha]
    refine AWP_cond (ieq r5 83) rfl (fun C5 => ?_) (fun C5 => ?_)
    ·
     replace H := ifT C5 H
     refine AWP_seqk [2] fun K11 hK11 => ?_
     obtain ⟨g12, hg12, H⟩ := bindE H
     obtain ⟨g13, hg13, H⟩ := bindE H
     obtain ⟨g14, hg14, H⟩ := bindE H
     have J3 : ∀ a' σ', AAct.keep a' [2] = [(2, .bool g14)] → σ' = hp B [] (N0 + 45) → K11 a' σ' := by
      intro a' σ' ha hs; subst hs
      refine hK11 _ _ ?_; rw [ha]
      refine AWP_ret ?_
      replace H := Option.some.inj H; subst H
      refine ⟨[.bool g14], by simp, ?_, ?_⟩
      ·
       simp [encL_nil]
      ·
       intro o ho; exact lk_out (by simp; try omega)
     refine AWP_regl tok [] ?_
     simp -dsimp -implicitDefEqProofs (maxDischargeDepth := 6)
     cases hbg12 : ieq p0.Rd 0
     ·
      replace hg12 := ifF hbg12 hg12
      replace hg12 := Option.some.inj hg12; subst hg12
      try simp -dsimp -implicitDefEqProofs (maxDischargeDepth := 6) [hbg12]
      replace hg13 := ifF rfl hg13
      replace hg13 := Option.some.inj hg13; subst hg13
      try simp -dsimp -implicitDefEqProofs (maxDischargeDepth := 6) [hbg12]
      replace hg14 := ifF rfl hg14
      replace hg14 := Option.some.inj hg14; subst hg14
      try simp -dsimp -implicitDefEqProofs (maxDischargeDepth := 6) [hbg12]
      exact J3 _ _ rfl rfl
     ·
      replace hg12 := ifT hbg12 hg12
      replace hg12 := Option.some.inj hg12; subst hg12
      try simp -dsimp -implicitDefEqProofs (maxDischargeDepth := 6) [hbg12]
      cases hbg13 : r2
      ·
       replace hg13 := ifF hbg13 hg13
       replace hg13 := Option.some.inj hg13; subst hg13
       try simp -dsimp -implicitDefEqProofs (maxDischargeDepth := 6) [hbg12, hbg13]
       replace hg14 := ifF rfl hg14
       replace hg14 := Option.some.inj hg14; subst hg14
       try simp -dsimp -implicitDefEqProofs (maxDischargeDepth := 6) [hbg12, hbg13]
       exact J3 _ _ rfl rfl
      ·
       replace hg13 := ifT hbg13 hg13
       replace hg13 := Option.some.inj hg13; subst hg13
       try simp -dsimp -implicitDefEqProofs (maxDischargeDepth := 6) [hbg12, hbg13]
       cases hbg14 : r3
       ·
        replace hg14 := ifF hbg14 hg14
        replace hg14 := Option.some.inj hg14; subst hg14
        try simp -dsimp -implicitDefEqProofs (maxDischargeDepth := 6) [hbg12, hbg13, hbg14]
        exact J3 _ _ rfl rfl
       ·
        replace hg14 := ifT hbg14 hg14
        replace hg14 := Option.some.inj hg14; subst hg14
        try simp -dsimp -implicitDefEqProofs (maxDischargeDepth := 6) [hbg12, hbg13, hbg14]
        exact J3 _ _ rfl rfl
    ·
     replace H := ifF C5 H
     refine AWP_seqk [1, 3, 4, 5, 26, 69] fun K12 hK12 => ?_
     refine AWP_regl tok [] ?_
     simp -dsimp -implicitDefEqProofs (maxDischargeDepth := 6)
     refine keepE2 (l := [1, 3, 4, 5, 26, 69]) (x := [(1, .fptr [.int .i64 p0.Op, .int .i64 p0.Rd, .int .i64 p0.Rs, .int .i64 p0.Rt, .int .i64 p0.Imm] 0), (3, .bool r1), (4, .bool r2), (5, .bool r3), (26, .int .u8 r5), (69, .bool (ieq r5 66))]) (s := hp B [] (N0 + 34)) rfl rfl fun a' ha => ?_
     refine hK12 _ _ ?_; rw [ha]
     refine AWP_cond (ieq r5 66) rfl (fun C4 => ?_) (fun C4 => ?_)
     ·
      replace H := ifT C4 H
      refine AWP_seqk [2] fun K13 hK13 => ?_
      obtain ⟨g15, hg15, H⟩ := bindE H
      obtain ⟨g16, hg16, H⟩ := bindE H
      obtain ⟨g17, hg17, H⟩ := bindE H
      obtain ⟨g18, hg18, H⟩ := bindE H
      obtain ⟨g20, hg20, H⟩ := bindE H
      have J4 : ∀ a' σ', AAct.keep a' [2] = [(2, .bool g20)] → σ' = hp B [] (N0 + 60) → K13 a' σ' := by
       intro a' σ' ha hs; subst hs
       refine hK13 _ _ ?_; rw [ha]
       refine AWP_ret ?_
       replace H := Option.some.inj H; subst H
       refine ⟨[.bool g20], by simp, ?_, ?_⟩
       ·
        simp [encL_nil]
       ·
        intro o ho; exact lk_out (by simp; try omega)
      refine AWP_regl tok [] ?_
      simp -dsimp -implicitDefEqProofs (maxDischargeDepth := 6)
      cases hbg15 : ieq p0.Rd 0
      ·
       replace hg15 := ifF hbg15 hg15
       replace hg15 := Option.some.inj hg15; subst hg15
       try simp -dsimp -implicitDefEqProofs (maxDischargeDepth := 6) [hbg15]
       replace hg16 := ifF rfl hg16
       replace hg16 := Option.some.inj hg16; subst hg16
       try simp -dsimp -implicitDefEqProofs (maxDischargeDepth := 6) [hbg15]
       replace hg17 := ifF rfl hg17
       replace hg17 := Option.some.inj hg17; subst hg17
       try simp -dsimp -implicitDefEqProofs (maxDischargeDepth := 6) [hbg15]
       replace hg18 := ifF rfl hg18
       replace hg18 := Option.some.inj hg18; subst hg18
       try simp -dsimp -implicitDefEqProofs (maxDischargeDepth := 6) [hbg15]
       replace hg20 := ifF rfl hg20
       replace hg20 := Option.some.inj hg20; subst hg20
       try simp -dsimp -implicitDefEqProofs (maxDischargeDepth := 6) [hbg15]
       exact J4 _ _ rfl rfl
      ·
       replace hg15 := ifT hbg15 hg15
       replace hg15 := Option.some.inj hg15; subst hg15
       try simp -dsimp -implicitDefEqProofs (maxDischargeDepth := 6) [hbg15]
       cases hbg16 : r2
       ·
        replace hg16 := ifF hbg16 hg16
        replace hg16 := Option.some.inj hg16; subst hg16
        try simp -dsimp -implicitDefEqProofs (maxDischargeDepth := 6) [hbg15, hbg16]
        replace hg17 := ifF rfl hg17
        replace hg17 := Option.some.inj hg17; subst hg17
        try simp -dsimp -implicitDefEqProofs (maxDischargeDepth := 6) [hbg15, hbg16]
        replace hg18 := ifF rfl hg18
        replace hg18 := Option.some.inj hg18; subst hg18
        try simp -dsimp -implicitDefEqProofs (maxDischargeDepth := 6) [hbg15, hbg16]
        replace hg20 := ifF rfl hg20
        replace hg20 := Option.some.inj hg20; subst hg20
        try simp -dsimp -implicitDefEqProofs (maxDischargeDepth := 6) [hbg15, hbg16]
        exact J4 _ _ rfl rfl
       ·
        replace hg16 := ifT hbg16 hg16
        replace hg16 := Option.some.inj hg16; subst hg16
        try simp -dsimp -implicitDefEqProofs (maxDischargeDepth := 6) [hbg15, hbg16]
        cases hbg17 : r3
        ·
         replace hg17 := ifF hbg17 hg17
         replace hg17 := Option.some.inj hg17; subst hg17
         try simp -dsimp -implicitDefEqProofs (maxDischargeDepth := 6) [hbg15, hbg16, hbg17]
         replace hg18 := ifF rfl hg18
         replace hg18 := Option.some.inj hg18; subst hg18
         try simp -dsimp -implicitDefEqProofs (maxDischargeDepth := 6) [hbg15, hbg16, hbg17]
         replace hg20 := ifF rfl hg20
         replace hg20 := Option.some.inj hg20; subst hg20
         try simp -dsimp -implicitDefEqProofs (maxDischargeDepth := 6) [hbg15, hbg16, hbg17]
         exact J4 _ _ rfl rfl
        ·
         replace hg17 := ifT hbg17 hg17
         replace hg17 := Option.some.inj hg17; subst hg17
         try simp -dsimp -implicitDefEqProofs (maxDischargeDepth := 6) [hbg15, hbg16, hbg17]
         cases hbg18 : (ige p0.Imm (-4096))
         ·
          replace hg18 := ifF hbg18 hg18
          replace hg18 := Option.some.inj hg18; subst hg18
          try simp -dsimp -implicitDefEqProofs (maxDischargeDepth := 6) [hbg15, hbg16, hbg17, hbg18]
          replace hg20 := ifF rfl hg20
          replace hg20 := Option.some.inj hg20; subst hg20
          try simp -dsimp -implicitDefEqProofs (maxDischargeDepth := 6) [hbg15, hbg16, hbg17, hbg18]
          exact J4 _ _ rfl rfl
         ·
          replace hg18 := ifT hbg18 hg18
          replace hg18 := Option.some.inj hg18; subst hg18
          try simp -dsimp -implicitDefEqProofs (maxDischargeDepth := 6) [hbg15, hbg16, hbg17, hbg18]
          cases hbg20 : (ile p0.Imm 4094)
          ·
           replace hg20 := ifF hbg20 hg20
           replace hg20 := Option.some.inj hg20; subst hg20
           try simp -dsimp -implicitDefEqProofs (maxDischargeDepth := 6) [hbg15, hbg16, hbg17, hbg18, hbg20]
           exact J4 _ _ rfl rfl
          ·
           replace hg20 := ifT hbg20 hg20
           obtain ⟨v19, hv19, hg20⟩ := bindE hg20
           replace hg20 := Option.some.inj hg20; subst hg20
           try simp -dsimp -implicitDefEqProofs (maxDischargeDepth := 6) [hbg15, hbg16, hbg17, hbg18, hbg20, hv19]
           exact J4 _ _ rfl rfl
     ·
      replace H := ifF C4 H
      refine AWP_seqk [1, 3, 26, 96] fun K14 hK14 => ?_
      refine AWP_regl tok [] ?_
      simp -dsimp -implicitDefEqProofs (maxDischargeDepth := 6)
      refine keepE2 (l := [1, 3, 26, 96]) (x := [(1, .fptr [.int .i64 p0.Op, .int .i64 p0.Rd, .int .i64 p0.Rs, .int .i64 p0.Rt, .int .i64 p0.Imm] 0), (3, .bool r1), (26, .int .u8 r5), (96, .bool (ieq r5 85))]) (s := hp B [] (N0 + 36)) rfl rfl fun a' ha => ?_
      refine hK14 _ _ ?_; rw [ha]
      refine AWP_cond (ieq r5 85) rfl (fun C3 => ?_) (fun C3 => ?_)
      ·
       replace H := ifT C3 H
       refine AWP_seqk [2] fun K15 hK15 => ?_
       obtain ⟨g21, hg21, H⟩ := bindE H
       obtain ⟨g22, hg22, H⟩ := bindE H
       obtain ⟨g23, hg23, H⟩ := bindE H
       obtain ⟨g24, hg24, H⟩ := bindE H
       have J5 : ∀ a' σ', AAct.keep a' [2] = [(2, .bool g24)] → σ' = hp B [] (N0 + 58) → K15 a' σ' := by
        intro a' σ' ha hs; subst hs
        refine hK15 _ _ ?_; rw [ha]
        refine AWP_ret ?_
        replace H := Option.some.inj H; subst H
        refine ⟨[.bool g24], by simp, ?_, ?_⟩
        ·
         simp [encL_nil]
        ·
         intro o ho; exact lk_out (by simp; try omega)
       refine AWP_regl tok [] ?_
       simp -dsimp -implicitDefEqProofs (maxDischargeDepth := 6)
       cases hbg21 : r1
       ·
        replace hg21 := ifF hbg21 hg21
        replace hg21 := Option.some.inj hg21; subst hg21
        try simp -dsimp -implicitDefEqProofs (maxDischargeDepth := 6) [hbg21]
        replace hg22 := ifF rfl hg22
        replace hg22 := Option.some.inj hg22; subst hg22
        try simp -dsimp -implicitDefEqProofs (maxDischargeDepth := 6) [hbg21]
        replace hg23 := ifF rfl hg23
        replace hg23 := Option.some.inj hg23; subst hg23
        try simp -dsimp -implicitDefEqProofs (maxDischargeDepth := 6) [hbg21]
        replace hg24 := ifF rfl hg24
        replace hg24 := Option.some.inj hg24; subst hg24
        try simp -dsimp -implicitDefEqProofs (maxDischargeDepth := 6) [hbg21]
        exact J5 _ _ rfl rfl
       ·
        replace hg21 := ifT hbg21 hg21
        replace hg21 := Option.some.inj hg21; subst hg21
        try simp -dsimp -implicitDefEqProofs (maxDischargeDepth := 6) [hbg21]
        cases hbg22 : (ieq p0.Rs 0)
        ·
         replace hg22 := ifF hbg22 hg22
         replace hg22 := Option.some.inj hg22; subst hg22
         try simp -dsimp -implicitDefEqProofs (maxDischargeDepth := 6) [hbg21, hbg22]
         replace hg23 := ifF rfl hg23
         replace hg23 := Option.some.inj hg23; subst hg23
         try simp -dsimp -implicitDefEqProofs (maxDischargeDepth := 6) [hbg21, hbg22]
         replace hg24 := ifF rfl hg24
         replace hg24 := Option.some.inj hg24; subst hg24
         try simp -dsimp -implicitDefEqProofs (maxDischargeDepth := 6) [hbg21, hbg22]
         exact J5 _ _ rfl rfl
        ·
         replace hg22 := ifT hbg22 hg22
         replace hg22 := Option.some.inj hg22; subst hg22
         try simp -dsimp -implicitDefEqProofs (maxDischargeDepth := 6) [hbg21, hbg22]
         cases hbg23 : (ieq p0.Rt 0)
         ·
          replace hg23 := ifF hbg23 hg23
          replace hg23 := Option.some.inj hg23; subst hg23
          try simp -dsimp -implicitDefEqProofs (maxDischargeDepth := 6) [hbg21, hbg22, hbg23]
          replace hg24 := ifF rfl hg24
          replace hg24 := Option.some.inj hg24; subst hg24
          try simp -dsimp -implicitDefEqProofs (maxDischargeDepth := 6) [hbg21, hbg22, hbg23]
          exact J5 _ _ rfl rfl
         ·
          replace hg23 := ifT hbg23 hg23
          replace hg23 := Option.some.inj hg23; subst hg23
          try simp -dsimp -implicitDefEqProofs (maxDischargeDepth := 6) [hbg21, hbg22, hbg23]
          cases hbg24 : (ige p0.Imm 0)
          ·
           replace hg24 := ifF hbg24 hg24
           replace hg24 := Option.some.inj hg24; subst hg24
           try simp -dsimp -implicitDefEqProofs (maxDischargeDepth := 6) [hbg21, hbg22, hbg23, hbg24]
           exact J5 _ _ rfl rfl
          ·
           replace hg24 := ifT hbg24 hg24
           replace hg24 := Option.some.inj hg24; subst hg24
           try simp -dsimp -implicitDefEqProofs (maxDischargeDepth := 6) [hbg21, hbg22, hbg23, hbg24]
           exact J5 _ _ rfl rfl
      ·
       replace H := ifF C3 H
       refine AWP_seqk [1, 3, 26, 119] fun K16 hK16 => ?_
       refine AWP_regl tok [] ?_
       simp -dsimp -implicitDefEqProofs (maxDischargeDepth := 6)
       refine keepE2 (l := [1, 3, 26, 119]) (x := [(1, .fptr [.int .i64 p0.Op, .int .i64 p0.Rd, .int .i64 p0.Rs, .int .i64 p0.Rt, .int .i64 p0.Imm] 0), (3, .bool r1), (26, .int .u8 r5), (119, .bool (ieq r5 74))]) (s := hp B [] (N0 + 38)) rfl rfl fun a' ha => ?_
       refine hK16 _ _ ?_; rw [ha]
       refine AWP_cond (ieq r5 74) rfl (fun C2 => ?_) (fun C2 => ?_)
       ·
        replace H := ifT C2 H
        refine AWP_seqk [2] fun K17 hK17 => ?_
        obtain ⟨g25, hg25, H⟩ := bindE H
        obtain ⟨g26, hg26, H⟩ := bindE H
        obtain ⟨g27, hg27, H⟩ := bindE H
        obtain ⟨g28, hg28, H⟩ := bindE H
        obtain ⟨g30, hg30, H⟩ := bindE H
        have J6 : ∀ a' σ', AAct.keep a' [2] = [(2, .bool g30)] → σ' = hp B [] (N0 + 66) → K17 a' σ' := by
         intro a' σ' ha hs; subst hs
         refine hK17 _ _ ?_; rw [ha]
         refine AWP_ret ?_
         replace H := Option.some.inj H; subst H
         refine ⟨[.bool g30], by simp, ?_, ?_⟩
         ·
          simp [encL_nil]
         ·
          intro o ho; exact lk_out (by simp; try omega)
        refine AWP_regl tok [] ?_
        simp -dsimp -implicitDefEqProofs (maxDischargeDepth := 6)
        cases hbg25 : r1
        ·
         replace hg25 := ifF hbg25 hg25
         replace hg25 := Option.some.inj hg25; subst hg25
         try simp -dsimp -implicitDefEqProofs (maxDischargeDepth := 6) [hbg25]
         replace hg26 := ifF rfl hg26
         replace hg26 := Option.some.inj hg26; subst hg26
         try simp -dsimp -implicitDefEqProofs (maxDischargeDepth := 6) [hbg25]
         replace hg27 := ifF rfl hg27
         replace hg27 := Option.some.inj hg27; subst hg27
         try simp -dsimp -implicitDefEqProofs (maxDischargeDepth := 6) [hbg25]
         replace hg28 := ifF rfl hg28
         replace hg28 := Option.some.inj hg28; subst hg28
         try simp -dsimp -implicitDefEqProofs (maxDischargeDepth := 6) [hbg25]
         replace hg30 := ifF rfl hg30
         replace hg30 := Option.some.inj hg30; subst hg30
         try simp -dsimp -implicitDefEqProofs (maxDischargeDepth := 6) [hbg25]
         exact J6 _ _ rfl rfl
        ·
         replace hg25 := ifT hbg25 hg25
         replace hg25 := Option.some.inj hg25; subst hg25
         try simp -dsimp -implicitDefEqProofs (maxDischargeDepth := 6) [hbg25]
         cases hbg26 : (ieq p0.Rs 0)
         ·
          replace hg26 := ifF hbg26 hg26
          replace hg26 := Option.some.inj hg26; subst hg26
          try simp -dsimp -implicitDefEqProofs (maxDischargeDepth := 6) [hbg25, hbg26]
          replace hg27 := ifF rfl hg27
          replace hg27 := Option.some.inj hg27; subst hg27
          try simp -dsimp -implicitDefEqProofs (maxDischargeDepth := 6) [hbg25, hbg26]
          replace hg28 := ifF rfl hg28
          replace hg28 := Option.some.inj hg28; subst hg28
          try simp -dsimp -implicitDefEqProofs (maxDischargeDepth := 6) [hbg25, hbg26]
          replace hg30 := ifF rfl hg30
          replace hg30 := Option.some.inj hg30; subst hg30
          try simp -dsimp -implicitDefEqProofs (maxDischargeDepth := 6) [hbg25, hbg26]
          exact J6 _ _ rfl rfl
         ·
          replace hg26 := ifT hbg26 hg26
          replace hg26 := Option.some.inj hg26; subst hg26
          try simp -dsimp -implicitDefEqProofs (maxDischargeDepth := 6) [hbg25, hbg26]
          cases hbg27 : (ieq p0.Rt 0)
          ·
           replace hg27 := ifF hbg27 hg27
           replace hg27 := Option.some.inj hg27; subst hg27
           try simp -dsimp -implicitDefEqProofs (maxDischargeDepth := 6) [hbg25, hbg26, hbg27]
           replace hg28 := ifF rfl hg28
           replace hg28 := Option.some.inj hg28; subst hg28
           try simp -dsimp -implicitDefEqProofs (maxDischargeDepth := 6) [hbg25, hbg26, hbg27]
           replace hg30 := ifF rfl hg30
           replace hg30 := Option.some.inj hg30; subst hg30
           try simp -dsimp -implicitDefEqProofs (maxDischargeDepth := 6) [hbg25, hbg26, hbg27]
           exact J6 _ _ rfl rfl
          ·
           replace hg27 := ifT hbg27 hg27
           replace hg27 := Option.some.inj hg27; subst hg27
           try simp -dsimp -implicitDefEqProofs (maxDischargeDepth := 6) [hbg25, hbg26, hbg27]
           cases hbg28 : (ige p0.Imm (-1048576))
           ·
            replace hg28 := ifF hbg28 hg28
            replace hg28 := Option.some.inj hg28; subst hg28
            try simp -dsimp -implicitDefEqProofs (maxDischargeDepth := 6) [hbg25, hbg26, hbg27, hbg28]
            replace hg30 := ifF rfl hg30
            replace hg30 := Option.some.inj hg30; subst hg30
            try simp -dsimp -implicitDefEqProofs (maxDischargeDepth := 6) [hbg25, hbg26, hbg27, hbg28]
            exact J6 _ _ rfl rfl
           ·
            replace hg28 := ifT hbg28 hg28
            replace hg28 := Option.some.inj hg28; subst hg28
            try simp -dsimp -implicitDefEqProofs (maxDischargeDepth := 6) [hbg25, hbg26, hbg27, hbg28]
            cases hbg30 : (ile p0.Imm 1048574)
            ·
             replace hg30 := ifF hbg30 hg30
             replace hg30 := Option.some.inj hg30; subst hg30
             try simp -dsimp -implicitDefEqProofs (maxDischargeDepth := 6) [hbg25, hbg26, hbg27, hbg28, hbg30]
             exact J6 _ _ rfl rfl
            ·
             replace hg30 := ifT hbg30 hg30
             obtain ⟨v29, hv29, hg30⟩ := bindE hg30
             replace hg30 := Option.some.inj hg30; subst hg30
             try simp -dsimp -implicitDefEqProofs (maxDischargeDepth := 6) [hbg25, hbg26, hbg27, hbg28, hbg30, hv29]
             exact J6 _ _ rfl rfl
       ·
        replace H := ifF C2 H
        refine AWP_seqk [1, 148] fun K18 hK18 => ?_
        refine AWP_regl tok [] ?_
        simp -dsimp -implicitDefEqProofs (maxDischargeDepth := 6)
        refine keepE2 (l := [1, 148]) (x := [(1, .fptr [.int .i64 p0.Op, .int .i64 p0.Rd, .int .i64 p0.Rs, .int .i64 p0.Rt, .int .i64 p0.Imm] 0), (148, .bool (ieq r5 69))]) (s := hp B [] (N0 + 40)) rfl rfl fun a' ha => ?_
        refine hK18 _ _ ?_; rw [ha]
        refine AWP_cond (ieq r5 69) rfl (fun C1 => ?_) (fun C1 => ?_)
        ·
         replace H := ifT C1 H
         refine AWP_seqk [2] fun K19 hK19 => ?_
         refine AWP_regl tok [] ?_
         simp -dsimp -implicitDefEqProofs (maxDischargeDepth := 6)
         refine keepE2 (l := [2]) (x := [(2, .bool (eqD p0 (⟨21, 0, 0, 0, 0⟩ : gInstr)))]) (s := hp B [] (N0 + 44)) rfl rfl fun a' ha => ?_
         refine hK19 _ _ ?_; rw [ha]
         refine AWP_ret ?_
         replace H := Option.some.inj H; subst H
         refine ⟨[.bool (eqD p0 (⟨21, 0, 0, 0, 0⟩ : gInstr))], by simp, ?_, ?_⟩
         ·
          simp [encL_nil]
         ·
          intro o ho; exact lk_out (by simp; try omega)
        ·
         replace H := ifF C1 H
         refine AWP_skip ?_
         show K4 _ _
         refine keepE (l := []) (x := []) rfl fun a' ha => ?_
         refine hK4 _ _ ?_; rw [ha]
         refine AWP_seqk [2] fun K20 hK20 => ?_
         refine AWP_regl tok [] ?_
         simp -dsimp -implicitDefEqProofs (maxDischargeDepth := 6)
         refine keepE2 (l := [2]) (x := [(2, .bool false)]) (s := hp B [] (N0 + 41)) rfl rfl fun a' ha => ?_
         refine hK20 _ _ ?_; rw [ha]
         refine AWP_ret ?_
         replace H := Option.some.inj H; subst H
         refine ⟨[.bool false], by simp, ?_, ?_⟩
         ·
          simp [encL_nil]
         ·
          intro o ho; exact lk_out (by simp; try omega)
 refine AWP_regl tok [] ?_
 simp -dsimp -implicitDefEqProofs (maxDischargeDepth := 6)
 cases hbg4 : ige p0.Imm (-2048)
 ·
  replace hg4 := ifF hbg4 hg4
  replace hg4 := Option.some.inj hg4; subst hg4
  try simp -dsimp -implicitDefEqProofs (maxDischargeDepth := 6) [hbg4]
  exact J7 _ _ rfl rfl
 ·
  replace hg4 := ifT hbg4 hg4
  replace hg4 := Option.some.inj hg4; subst hg4
  try simp -dsimp -implicitDefEqProofs (maxDischargeDepth := 6) [hbg4]
  exact J7 _ _ rfl rfl
end Go.Proofs.YtoklfbdcghgmlaaDoor
