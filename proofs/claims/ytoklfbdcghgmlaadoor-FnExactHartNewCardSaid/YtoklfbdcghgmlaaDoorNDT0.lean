/- The contracts of functions of the program, part 0: each computes what its mirror computes. No conditions. -/
import Derived.Test.YtoklfbdcghgmlaaDoorNDH
import Derived.Test.YtoklfbdcghgmlaaDoorNDM
set_option linter.unusedSimpArgs false
set_option linter.unusedVariables false
set_option maxRecDepth 20000
set_option maxHeartbeats 4000000
namespace Go.Proofs.YtoklfbdcghgmlaaDoor
open Go Go.Abs Go.RowKit

theorem c14 {p0 : (List gInstr)} {p1 : Int} {r : Int} (H : l_szInstrS p0 p1 = some r) : APure Tryd.prog G 14 [.fsl (encL rInstr p0), .int .i64 p1] (.int .i64 r) := by
 refine APure_fn (fun N0 => ?_) (by simp)
 refine ACalls_fn tok Tryd.func14 (by kernel_rfl) rfl Tryd.ntmps14 Tryd.results14 rfl ?_
 simp only [argsA, Nat.reduceAdd, hp_next]
 unfold l_szInstrS at H
 refine AWP_sr tok [] [0, 1] (fun a σ => a = [(0, .fsl (encL rInstr p0)), (1, .int .i64 p1)] ∧ σ = hp E0 [] (N0 + 1)) (fun K hK => ?_) ?_
 ·
  skip
  simp -dsimp -implicitDefEqProofs (maxDischargeDepth := 6)
  exact hK _ _ ⟨rfl, rfl⟩
 rintro a σ ⟨rfl, rfl⟩
 refine AWP_sr tok [] [1] (fun a σ => a = [(1, .int .i64 (isub .i64 p1 (ilen p0)))] ∧ σ = hp E0 [] (N0 + 6)) (fun K hK => ?_) ?_
 ·
  skip
  simp -dsimp -implicitDefEqProofs (maxDischargeDepth := 6)
  exact hK _ _ ⟨rfl, rfl⟩
 rintro a σ ⟨rfl, rfl⟩
 refine AWP_sq [1] fun K1 hK1 => ?_
 refine AWP_sr tok [] [1, 10] (fun a σ => a = [(1, .int .i64 (isub .i64 p1 (ilen p0))), (10, .bool (ilt (isub .i64 p1 (ilen p0)) 0))] ∧ σ = hp E0 [] (N0 + 8)) (fun K hK => ?_) ?_
 ·
  skip
  simp -dsimp -implicitDefEqProofs (maxDischargeDepth := 6)
  exact hK _ _ ⟨rfl, rfl⟩
 rintro a σ ⟨rfl, rfl⟩
 refine AWP_cond (ilt (isub .i64 p1 (ilen p0)) 0) rfl (fun C1 => ?_) (fun C1 => ?_)
 ·
  replace H := ifT C1 H
  refine AWP_sr tok [] [4] (fun a σ => a = [(4, .int .i64 (-1))] ∧ σ = hp E0 [] (N0 + 9)) (fun K hK => ?_) ?_
  ·
   skip
   simp -dsimp -implicitDefEqProofs (maxDischargeDepth := 6)
   exact hK _ _ ⟨rfl, rfl⟩
  rintro a σ ⟨rfl, rfl⟩
  replace H := Option.some.inj H; subst H
  refine AWP_kp [4] [(4, .int .i64 (-1))] rfl ?_
  refine AWP_ret ?_
  exact ⟨[.int .i64 (-1)], by simp, 4, by simp [encL_nil]⟩
 ·
  replace H := ifF C1 H
  refine AWP_skip ?_
  show K1 _ _
  refine keepE (l := [1]) (x := [(1, .int .i64 (isub .i64 p1 (ilen p0)))]) rfl fun a' ha => ?_
  refine hK1 _ _ ?_; rw [ha]
  refine Rc.mk ?_
  refine AWP_sr tok [] [4] (fun a σ => a = [(4, .int .i64 (isub .i64 p1 (ilen p0)))] ∧ σ = hp E0 [] (N0 + 10)) (fun K hK => ?_) ?_
  ·
   skip
   simp -dsimp -implicitDefEqProofs (maxDischargeDepth := 6)
   exact hK _ _ ⟨rfl, rfl⟩
  rintro a σ ⟨rfl, rfl⟩
  replace H := Option.some.inj H; subst H
  refine AWP_kp [4] [(4, .int .i64 (isub .i64 p1 (ilen p0)))] rfl ?_
  refine AWP_ret ?_
  exact ⟨[.int .i64 (isub .i64 p1 (ilen p0))], by simp, 4, by simp [encL_nil]⟩
theorem c61 {p0 : gInstr} {r : gInstr} (H : l_toInstr p0 = some r) : APure Tryd.prog G 61 [.agg [.int .i64 p0.Op, .int .i64 p0.Rd, .int .i64 p0.Rs, .int .i64 p0.Rt, .int .i64 p0.Imm]] (.agg [.int .i64 r.Op, .int .i64 r.Rd, .int .i64 r.Rs, .int .i64 r.Rt, .int .i64 r.Imm]) := by
 refine APure_fn (fun N0 => ?_) (by simp)
 refine ACalls_fn tok Tryd.func61 (by kernel_rfl) rfl Tryd.ntmps61 Tryd.results61 rfl ?_
 simp only [argsA, Nat.reduceAdd, hp_next]
 unfold l_toInstr at H
 refine AWP_sr tok [0] [1, 2] (fun a σ => a = [(1, .fptr [.int .i64 p0.Op, .int .i64 p0.Rd, .int .i64 p0.Rs, .int .i64 p0.Rt, .int .i64 p0.Imm] 0), (2, .ptr (N0 + 1) 0 0)] ∧ σ = hp E0 [(N0 + 1, some ⟨47, 5, [[.int .i64 0, .int .i64 0, .int .i64 0, .int .i64 0, .int .i64 0]]⟩)] (N0 + 2)) (fun K hK => ?_) ?_
 ·
  skip
  simp -dsimp -implicitDefEqProofs (maxDischargeDepth := 6)
  exact hK _ _ ⟨rfl, rfl⟩
 rintro a σ ⟨rfl, rfl⟩
 refine AWP_sr tok [] [1, 2, 3] (fun a σ => a = [(1, .fptr [.int .i64 p0.Op, .int .i64 p0.Rd, .int .i64 p0.Rs, .int .i64 p0.Rt, .int .i64 p0.Imm] 0), (2, .ptr (N0 + 1) 0 0), (3, .ptr (N0 + 2) 0 0)] ∧ σ = hp E0 [(N0 + 1, some ⟨47, 5, [[.int .i64 0, .int .i64 0, .int .i64 0, .int .i64 0, .int .i64 0]]⟩), (N0 + 2, some ⟨47, 5, [[.int .i64 0, .int .i64 0, .int .i64 0, .int .i64 0, .int .i64 0]]⟩)] (N0 + 3)) (fun K hK => ?_) ?_
 ·
  skip
  simp -dsimp -implicitDefEqProofs (maxDischargeDepth := 6)
  exact hK _ _ ⟨rfl, rfl⟩
 rintro a σ ⟨rfl, rfl⟩
 refine AWP_sr tok [] [1, 2, 3] (fun a σ => a = [(1, .fptr [.int .i64 p0.Op, .int .i64 p0.Rd, .int .i64 p0.Rs, .int .i64 p0.Rt, .int .i64 p0.Imm] 0), (2, .ptr (N0 + 1) 0 0), (3, .ptr (N0 + 2) 0 0)] ∧ σ = hp E0 [(N0 + 1, some ⟨47, 5, [[.int .i64 0, .int .i64 0, .int .i64 0, .int .i64 0, .int .i64 0]]⟩), (N0 + 2, some ⟨47, 5, [[.int .i64 p0.Op, .int .i64 0, .int .i64 0, .int .i64 0, .int .i64 0]]⟩)] (N0 + 7)) (fun K hK => ?_) ?_
 ·
  skip
  simp -dsimp -implicitDefEqProofs (maxDischargeDepth := 6)
  exact hK _ _ ⟨rfl, rfl⟩
 rintro a σ ⟨rfl, rfl⟩
 refine AWP_sr tok [] [1, 2, 3] (fun a σ => a = [(1, .fptr [.int .i64 p0.Op, .int .i64 p0.Rd, .int .i64 p0.Rs, .int .i64 p0.Rt, .int .i64 p0.Imm] 0), (2, .ptr (N0 + 1) 0 0), (3, .ptr (N0 + 2) 0 0)] ∧ σ = hp E0 [(N0 + 1, some ⟨47, 5, [[.int .i64 0, .int .i64 0, .int .i64 0, .int .i64 0, .int .i64 0]]⟩), (N0 + 2, some ⟨47, 5, [[.int .i64 p0.Op, .int .i64 p0.Rd, .int .i64 0, .int .i64 0, .int .i64 0]]⟩)] (N0 + 11)) (fun K hK => ?_) ?_
 ·
  skip
  simp -dsimp -implicitDefEqProofs (maxDischargeDepth := 6)
  exact hK _ _ ⟨rfl, rfl⟩
 rintro a σ ⟨rfl, rfl⟩
 refine AWP_sr tok [] [1, 2, 3] (fun a σ => a = [(1, .fptr [.int .i64 p0.Op, .int .i64 p0.Rd, .int .i64 p0.Rs, .int .i64 p0.Rt, .int .i64 p0.Imm] 0), (2, .ptr (N0 + 1) 0 0), (3, .ptr (N0 + 2) 0 0)] ∧ σ = hp E0 [(N0 + 1, some ⟨47, 5, [[.int .i64 0, .int .i64 0, .int .i64 0, .int .i64 0, .int .i64 0]]⟩), (N0 + 2, some ⟨47, 5, [[.int .i64 p0.Op, .int .i64 p0.Rd, .int .i64 p0.Rs, .int .i64 0, .int .i64 0]]⟩)] (N0 + 15)) (fun K hK => ?_) ?_
 ·
  skip
  simp -dsimp -implicitDefEqProofs (maxDischargeDepth := 6)
  exact hK _ _ ⟨rfl, rfl⟩
 rintro a σ ⟨rfl, rfl⟩
 refine AWP_sr tok [] [1, 2, 3] (fun a σ => a = [(1, .fptr [.int .i64 p0.Op, .int .i64 p0.Rd, .int .i64 p0.Rs, .int .i64 p0.Rt, .int .i64 p0.Imm] 0), (2, .ptr (N0 + 1) 0 0), (3, .ptr (N0 + 2) 0 0)] ∧ σ = hp E0 [(N0 + 1, some ⟨47, 5, [[.int .i64 0, .int .i64 0, .int .i64 0, .int .i64 0, .int .i64 0]]⟩), (N0 + 2, some ⟨47, 5, [[.int .i64 p0.Op, .int .i64 p0.Rd, .int .i64 p0.Rs, .int .i64 p0.Rt, .int .i64 0]]⟩)] (N0 + 19)) (fun K hK => ?_) ?_
 ·
  skip
  simp -dsimp -implicitDefEqProofs (maxDischargeDepth := 6)
  exact hK _ _ ⟨rfl, rfl⟩
 rintro a σ ⟨rfl, rfl⟩
 refine AWP_sr tok [] [2, 3] (fun a σ => a = [(2, .ptr (N0 + 1) 0 0), (3, .ptr (N0 + 2) 0 0)] ∧ σ = hp E0 [(N0 + 1, some ⟨47, 5, [[.int .i64 0, .int .i64 0, .int .i64 0, .int .i64 0, .int .i64 0]]⟩), (N0 + 2, some ⟨47, 5, [[.int .i64 p0.Op, .int .i64 p0.Rd, .int .i64 p0.Rs, .int .i64 p0.Rt, .int .i64 p0.Imm]]⟩)] (N0 + 23)) (fun K hK => ?_) ?_
 ·
  skip
  simp -dsimp -implicitDefEqProofs (maxDischargeDepth := 6)
  exact hK _ _ ⟨rfl, rfl⟩
 rintro a σ ⟨rfl, rfl⟩
 refine AWP_sr tok [] [2] (fun a σ => a = [(2, .ptr (N0 + 1) 0 0)] ∧ σ = hp E0 [(N0 + 1, some ⟨47, 5, [[.int .i64 p0.Op, .int .i64 p0.Rd, .int .i64 p0.Rs, .int .i64 p0.Rt, .int .i64 p0.Imm]]⟩), (N0 + 2, some ⟨47, 5, [[.int .i64 p0.Op, .int .i64 p0.Rd, .int .i64 p0.Rs, .int .i64 p0.Rt, .int .i64 p0.Imm]]⟩)] (N0 + 25)) (fun K hK => ?_) ?_
 ·
  skip
  simp -dsimp -implicitDefEqProofs (maxDischargeDepth := 6)
  exact hK _ _ ⟨rfl, rfl⟩
 rintro a σ ⟨rfl, rfl⟩
 replace H := Option.some.inj H; subst H
 refine AWP_kp [2] [(2, .ptr (N0 + 1) 0 0)] rfl ?_
 refine AWP_ret ?_
 exact ⟨[.agg [.int .i64 p0.Op, .int .i64 p0.Rd, .int .i64 p0.Rs, .int .i64 p0.Rt, .int .i64 p0.Imm]], by simp, 4, by simp [encL_nil]⟩
theorem c16 {p0 : (List gInstr)} {r : (List gInstr)} (H : l_toInstrS p0 = some r) : APure Tryd.prog G 16 [.fsl (encL rInstr p0)] (.fsl (encL rInstr r)) := by
 refine APure_fn (fun N0 => ?_) (by simp)
 refine ACalls_fn tok Tryd.func16 (by kernel_rfl) rfl Tryd.ntmps16 Tryd.results16 rfl ?_
 simp only [argsA, Nat.reduceAdd, hp_next]
 unfold l_toInstrS at H
 refine AWP_sr tok [] [0] (fun a σ => a = [(0, .fsl (encL rInstr p0))] ∧ σ = hp E0 [] (N0 + 1)) (fun K hK => ?_) ?_
 ·
  skip
  simp -dsimp -implicitDefEqProofs (maxDischargeDepth := 6)
  exact hK _ _ ⟨rfl, rfl⟩
 rintro a σ ⟨rfl, rfl⟩
 obtain ⟨l1, hl1, H⟩ := bindE H
 refine AWP_sr tok [] [0, 3] (fun a σ => a = [(0, .fsl (encL rInstr p0)), (3, .sl (N0 + 3) 0 l1.length)] ∧ σ = hp E0 [(N0 + 3, some ⟨47, 5, encL rInstr l1⟩)] (N0 + 5)) (fun K hK => ?_) ?_
 ·
  skip
  simp -dsimp -implicitDefEqProofs (maxDischargeDepth := 6) [mak29 hl1]
  exact hK _ _ ⟨rfl, rfl⟩
 rintro a σ ⟨rfl, rfl⟩
 refine AWP_sq [3] fun K1 hK1 => ?_
 refine AWP_sr tok [] [0, 3, 4] (fun a σ => a = [(0, .fsl (encL rInstr p0)), (3, .sl (N0 + 3) 0 l1.length), (4, .int .i64 0)] ∧ σ = hp E0 [(N0 + 3, some ⟨47, 5, encL rInstr l1⟩)] (N0 + 6)) (fun K hK => ?_) ?_
 ·
  skip
  simp -dsimp -implicitDefEqProofs (maxDischargeDepth := 6)
  exact hK _ _ ⟨rfl, rfl⟩
 rintro a σ ⟨rfl, rfl⟩
 refine AWP_block (AWP_thenB ?_)
 obtain ⟨e1, hse1, H⟩ := bindE H
 refine AWP_lp [0, 3, 4] (fun s a σ => ∃ M1 o1 : Nat, N0 ≤ M1 ∧ N0 ≤ o1 ∧ o1 < M1 ∧ a = [(0, .fsl (encL rInstr p0)), (3, .sl o1 0 s.2.length), (4, .int .i64 s.1)] ∧ σ = hp E0 [(o1, some ⟨47, 5, encL rInstr s.2⟩)] M1) (fun s x a σ => x = .exit 0 ∧ Rc G 23 N0 (fun a σ => ∃ M2 o2 : Nat, N0 ≤ M2 ∧ N0 ≤ o2 ∧ o2 < M2 ∧ a = [(3, .sl o2 0 s.length)] ∧ σ = hp E0 [(o2, some ⟨47, 5, encL rInstr s⟩)] M2) (AAct.keep a [3]) σ) hse1 ?_ ?_ ?_
 ·
  refine Rc.kp [0, 3, 4] [(0, .fsl (encL rInstr p0)), (3, .sl (N0 + 3) 0 l1.length), (4, .int .i64 0)] rfl ?_
  exact Rc.fin (AHeap.Sub.refl _) ⟨N0 + 6, (N0 + 3), (by omega), (by omega), (by omega), rfl, rfl⟩
 ·
  clear H hse1
  rintro ⟨s2, s3⟩ fl a σ H ⟨M1, o1, fM1_0, fM1_1, fM1_2, rfl, rfl⟩ K2 O2 hK2 hO2
  unfold l_toInstrS_L1 at H; dsimp only at H
  refine AWP_sq [0, 3, 4] fun K3 hK3 => ?_
  refine AWP_sr tok [] [0, 3, 4, 11] (fun a σ => a = [(0, .fsl (encL rInstr p0)), (3, .sl o1 0 s3.length), (4, .int .i64 s2), (11, .bool (ilt s2 (ilen p0)))] ∧ σ = hp E0 [(o1, some ⟨47, 5, encL rInstr s3⟩)] (M1 + 4)) (fun K hK => ?_) ?_
  ·
   skip
   simp -dsimp -implicitDefEqProofs (maxDischargeDepth := 6)
   exact hK _ _ ⟨rfl, rfl⟩
  rintro a σ ⟨rfl, rfl⟩
  refine AWP_cond (ilt s2 (ilen p0)) rfl (fun C1 => ?_) (fun C1 => ?_)
  ·
   replace H := ifT C1 H
   refine AWP_skip ?_
   show K3 _ _
   refine keepE (l := [0, 3, 4]) (x := [(0, .fsl (encL rInstr p0)), (3, .sl o1 0 s3.length), (4, .int .i64 s2)]) rfl fun a' ha => ?_
   refine hK3 _ _ ?_; rw [ha]
   refine Rc.mk ?_
   refine AWP_sq [0, 3, 4] fun K4 hK4 => ?_
   refine AWP_block (AWP_thenB ?_)
   obtain ⟨v5, hv5, H⟩ := bindE H
   obtain ⟨r6, hr6, H⟩ := bindE H
   obtain ⟨v7, hv7, H⟩ := bindE H
   obtain ⟨l8, hl8, H⟩ := bindE H
   refine AWP_rt tok [] [0, 3, 4] (fun a σ => a = [(0, .fsl (encL rInstr p0)), (3, .sl o1 0 s3.length), (4, .int .i64 s2)] ∧ σ = hp E0 [(o1, some ⟨47, 5, encL rInstr l8⟩)] (M1 + 13)) (fun K hK => ?_) ?_
   ·
    skip
    simp -dsimp -implicitDefEqProofs (maxDischargeDepth := 6) [ix22 hv5, ixo29 hv7, (idx_lt3 hv7).2.2, (setx_iff.1 hl8).2.symm]
    refine (c61 hr6).app ?_; try simp -dsimp -implicitDefEqProofs (maxDischargeDepth := 6) [ix22 hv5, ixo29 hv7, (idx_lt3 hv7).2.2, (setx_iff.1 hl8).2.symm]
    exact hK _ _ ⟨rfl, rfl⟩
   rintro a σ ⟨ha, rfl⟩
   (try rw [← setx_len hl8] at ha); (try rw [← setx_len hl8])
   refine hK4 _ _ ?_; rw [ha]
   refine Rc.mk ?_
   refine AWP_rt tok [] [0, 3, 4] (fun a σ => a = [(0, .fsl (encL rInstr p0)), (3, .sl o1 0 l8.length), (4, .int .i64 (iadd .i64 s2 1))] ∧ σ = hp E0 [(o1, some ⟨47, 5, encL rInstr l8⟩)] (M1 + 16)) (fun K hK => ?_) ?_
   ·
    skip
    simp -dsimp -implicitDefEqProofs (maxDischargeDepth := 6)
    exact hK _ _ ⟨rfl, rfl⟩
   rintro a σ ⟨ha, rfl⟩
   replace H := Option.some.inj H; subst H
   refine hK2 _ _ _ rfl ?_; rw [ha]
   exact Rc.fin (AHeap.Sub.refl _) ⟨M1 + 16, o1, (by omega), (by omega), (by omega), rfl, rfl⟩
  ·
   replace H := ifF C1 H
   replace H := Option.some.inj H; subst H
   refine AWP_exit (hO2 _ _ _ _ rfl ⟨rfl, ?_⟩)
   refine Rc.rw (l := [3]) (X := [(3, .sl o1 0 s3.length)]) rfl ?_
   exact Rc.fin (AHeap.Sub.refl _) ⟨M1 + 4, o1, (by omega), (by omega), (by omega), rfl, rfl⟩
 ·
  intro x a σ hx
  obtain ⟨y4, rfl⟩ : ∃ x, x = e1 := ⟨_, rfl⟩
  obtain ⟨rfl, b, τ, hr, M2, o2, fM2_0, fM2_1, fM2_2, rfl, rfl⟩ := hx
  dsimp only at H
  show K1 _ _
  refine hK1 _ _ (Rc_ref hr ?_)
  refine Rc.mk ?_
  refine AWP_sr tok [] [2] (fun a σ => a = [(2, .sl o2 0 y4.length)] ∧ σ = hp E0 [(o2, some ⟨47, 5, encL rInstr y4⟩)] (M2 + 2)) (fun K hK => ?_) ?_
  ·
   skip
   simp -dsimp -implicitDefEqProofs (maxDischargeDepth := 6)
   exact hK _ _ ⟨rfl, rfl⟩
  rintro a σ ⟨rfl, rfl⟩
  replace H := Option.some.inj H; subst H
  refine AWP_kp [2] [(2, .sl o2 0 y4.length)] rfl ?_
  refine AWP_ret ?_
  exact ⟨[.sl o2 0 y4.length], by simp, 4, by simp [encL_nil]⟩
theorem c65 {p0 : Int} {p1 : Int} {p2 : Int} {r : Bool} (H : s_l6In p0 p1 p2 = some r) : APure Tryd.prog G 65 [.int .i64 p0, .int .i64 p1, .int .i64 p2] (.bool r) := by
 refine APure_fn (fun N0 => ?_) (by simp)
 refine ACalls_fn tok Tryd.func65 (by kernel_rfl) rfl Tryd.ntmps65 Tryd.results65 rfl ?_
 simp only [argsA, Nat.reduceAdd, hp_next]
 unfold s_l6In at H
 refine AWP_sr tok [] [0, 1, 2] (fun a σ => a = [(0, .int .i64 p0), (1, .int .i64 p1), (2, .int .i64 p2)] ∧ σ = hp E0 [] (N0 + 1)) (fun K hK => ?_) ?_
 ·
  skip
  simp -dsimp -implicitDefEqProofs (maxDischargeDepth := 6)
  exact hK _ _ ⟨rfl, rfl⟩
 rintro a σ ⟨rfl, rfl⟩
 obtain ⟨g1, hg1, H⟩ := bindE H
 refine AWP_sr tok [] [6] (fun a σ => a = [(6, .bool g1)] ∧ σ = hp E0 [] (N0 + 10)) (fun K hK => ?_) ?_
 ·
  skip
  simp -dsimp -implicitDefEqProofs (maxDischargeDepth := 6)
  cases hbg1 : ige p0 p1
  ·
   replace hg1 := ifF hbg1 hg1
   replace hg1 := Option.some.inj hg1; subst hg1
   try simp -dsimp -implicitDefEqProofs (maxDischargeDepth := 6) [hbg1]
   exact hK _ _ ⟨rfl, rfl⟩
  ·
   replace hg1 := ifT hbg1 hg1
   replace hg1 := Option.some.inj hg1; subst hg1
   try simp -dsimp -implicitDefEqProofs (maxDischargeDepth := 6) [hbg1]
   exact hK _ _ ⟨rfl, rfl⟩
 rintro a σ ⟨rfl, rfl⟩
 replace H := Option.some.inj H; subst H
 refine AWP_kp [6] [(6, .bool g1)] rfl ?_
 refine AWP_ret ?_
 exact ⟨[.bool g1], by simp, 4, by simp [encL_nil]⟩
theorem c150 {p0 : gInstr} {p1 : Int} {p2 : Int} {p3 : Int} {r : Bool} (H : s_l42Regs p0 p1 p2 p3 = some r) : APure Tryd.prog G 150 [.agg [.int .i64 p0.Op, .int .i64 p0.Rd, .int .i64 p0.Rs, .int .i64 p0.Rt, .int .i64 p0.Imm], .int .i64 p1, .int .i64 p2, .int .i64 p3] (.bool r) := by
 refine APure_fn (fun N0 => ?_) (by simp)
 refine ACalls_fn tok Tryd.func150 (by kernel_rfl) rfl Tryd.ntmps150 Tryd.results150 rfl ?_
 simp only [argsA, Nat.reduceAdd, hp_next]
 unfold s_l42Regs at H
 refine AWP_sr tok [0] [1, 2, 3, 4] (fun a σ => a = [(1, .int .i64 p1), (2, .int .i64 p2), (3, .int .i64 p3), (4, .fptr [.int .i64 p0.Op, .int .i64 p0.Rd, .int .i64 p0.Rs, .int .i64 p0.Rt, .int .i64 p0.Imm] 0)] ∧ σ = hp E0 [] (N0 + 2)) (fun K hK => ?_) ?_
 ·
  skip
  simp -dsimp -implicitDefEqProofs (maxDischargeDepth := 6)
  exact hK _ _ ⟨rfl, rfl⟩
 rintro a σ ⟨rfl, rfl⟩
 obtain ⟨r1, hr1, H⟩ := bindE H
 obtain ⟨g3, hg3, H⟩ := bindE H
 obtain ⟨g5, hg5, H⟩ := bindE H
 refine AWP_sr tok [] [8] (fun a σ => a = [(8, .bool g5)] ∧ σ = hp E0 [] (N0 + 22)) (fun K hK => ?_) ?_
 ·
  skip
  simp -dsimp -implicitDefEqProofs (maxDischargeDepth := 6)
  refine (c65 hr1).app ?_; try simp -dsimp -implicitDefEqProofs (maxDischargeDepth := 6)
  cases hbg3 : r1
  ·
   replace hg3 := ifF hbg3 hg3
   replace hg3 := Option.some.inj hg3; subst hg3
   try simp -dsimp -implicitDefEqProofs (maxDischargeDepth := 6) [hbg3]
   replace hg5 := ifF rfl hg5
   replace hg5 := Option.some.inj hg5; subst hg5
   try simp -dsimp -implicitDefEqProofs (maxDischargeDepth := 6) [hbg3]
   exact hK _ _ ⟨rfl, rfl⟩
  ·
   replace hg3 := ifT hbg3 hg3
   obtain ⟨r2, hr2, hg3⟩ := bindE hg3
   replace hg3 := Option.some.inj hg3; subst hg3
   try simp -dsimp -implicitDefEqProofs (maxDischargeDepth := 6) [hbg3]
   refine (c65 hr2).app ?_; try simp -dsimp -implicitDefEqProofs (maxDischargeDepth := 6) [hbg3]
   cases hbg5 : r2
   ·
    replace hg5 := ifF hbg5 hg5
    replace hg5 := Option.some.inj hg5; subst hg5
    try simp -dsimp -implicitDefEqProofs (maxDischargeDepth := 6) [hbg3, hbg5]
    exact hK _ _ ⟨rfl, rfl⟩
   ·
    replace hg5 := ifT hbg5 hg5
    obtain ⟨r4, hr4, hg5⟩ := bindE hg5
    replace hg5 := Option.some.inj hg5; subst hg5
    try simp -dsimp -implicitDefEqProofs (maxDischargeDepth := 6) [hbg3, hbg5]
    refine (c65 hr4).app ?_; try simp -dsimp -implicitDefEqProofs (maxDischargeDepth := 6) [hbg3, hbg5]
    exact hK _ _ ⟨rfl, rfl⟩
 rintro a σ ⟨rfl, rfl⟩
 replace H := Option.some.inj H; subst H
 refine AWP_kp [8] [(8, .bool g5)] rfl ?_
 refine AWP_ret ?_
 exact ⟨[.bool g5], by simp, 4, by simp [encL_nil]⟩
theorem c151 {p0 : Int} {p1 : Int} {p2 : Int} {r : Bool} (H : s_l42Even p0 p1 p2 = some r) : APure Tryd.prog G 151 [.int .i64 p0, .int .i64 p1, .int .i64 p2] (.bool r) := by
 refine APure_fn (fun N0 => ?_) (by simp)
 refine ACalls_fn tok Tryd.func151 (by kernel_rfl) rfl Tryd.ntmps151 Tryd.results151 rfl ?_
 simp only [argsA, Nat.reduceAdd, hp_next]
 unfold s_l42Even at H
 refine AWP_sr tok [] [0, 1, 2] (fun a σ => a = [(0, .int .i64 p0), (1, .int .i64 p1), (2, .int .i64 p2)] ∧ σ = hp E0 [] (N0 + 1)) (fun K hK => ?_) ?_
 ·
  skip
  simp -dsimp -implicitDefEqProofs (maxDischargeDepth := 6)
  exact hK _ _ ⟨rfl, rfl⟩
 rintro a σ ⟨rfl, rfl⟩
 obtain ⟨r1, hr1, H⟩ := bindE H
 obtain ⟨g3, hg3, H⟩ := bindE H
 refine AWP_sr tok [] [6] (fun a σ => a = [(6, .bool g3)] ∧ σ = hp E0 [] (N0 + 11)) (fun K hK => ?_) ?_
 ·
  skip
  simp -dsimp -implicitDefEqProofs (maxDischargeDepth := 6)
  refine (c65 hr1).app ?_; try simp -dsimp -implicitDefEqProofs (maxDischargeDepth := 6)
  cases hbg3 : r1
  ·
   replace hg3 := ifF hbg3 hg3
   replace hg3 := Option.some.inj hg3; subst hg3
   try simp -dsimp -implicitDefEqProofs (maxDischargeDepth := 6) [hbg3]
   exact hK _ _ ⟨rfl, rfl⟩
  ·
   replace hg3 := ifT hbg3 hg3
   obtain ⟨v2, hv2, hg3⟩ := bindE hg3
   replace hg3 := Option.some.inj hg3; subst hg3
   try simp -dsimp -implicitDefEqProofs (maxDischargeDepth := 6) [hbg3, hv2]
   exact hK _ _ ⟨rfl, rfl⟩
 rintro a σ ⟨rfl, rfl⟩
 replace H := Option.some.inj H; subst H
 refine AWP_kp [6] [(6, .bool g3)] rfl ?_
 refine AWP_ret ?_
 exact ⟨[.bool g3], by simp, 4, by simp [encL_nil]⟩
theorem c140 {p0 : gInstr} {r : Bool} (H : s_InstrValid p0 = some r) : APure Tryd.prog G 140 [.agg [.int .i64 p0.Op, .int .i64 p0.Rd, .int .i64 p0.Rs, .int .i64 p0.Rt, .int .i64 p0.Imm]] (.bool r) := by
 refine APure_fn (fun N0 => ?_) (by simp)
 refine ACalls_fn tok Tryd.func140 (by kernel_rfl) rfl Tryd.ntmps140 Tryd.results140 rfl ?_
 simp only [argsA, Nat.reduceAdd, hp_next]
 unfold s_InstrValid at H
 refine AWP_sr tok [0] [1] (fun a σ => a = [(1, .fptr [.int .i64 p0.Op, .int .i64 p0.Rd, .int .i64 p0.Rs, .int .i64 p0.Rt, .int .i64 p0.Imm] 0)] ∧ σ = hp E0 [] (N0 + 2)) (fun K hK => ?_) ?_
 ·
  skip
  simp -dsimp -implicitDefEqProofs (maxDischargeDepth := 6)
  exact hK _ _ ⟨rfl, rfl⟩
 rintro a σ ⟨rfl, rfl⟩
 refine AWP_sq [1] fun K1 hK1 => ?_
 refine AWP_block (AWP_thenB ?_)
 obtain ⟨r1, hr1, H⟩ := bindE H
 refine AWP_sr tok [] [1, 3] (fun a σ => a = [(1, .fptr [.int .i64 p0.Op, .int .i64 p0.Rd, .int .i64 p0.Rs, .int .i64 p0.Rt, .int .i64 p0.Imm] 0), (3, .bool r1)] ∧ σ = hp E0 [] (N0 + 6)) (fun K hK => ?_) ?_
 ·
  skip
  simp -dsimp -implicitDefEqProofs (maxDischargeDepth := 6)
  refine (c65 hr1).app ?_; try simp -dsimp -implicitDefEqProofs (maxDischargeDepth := 6)
  exact hK _ _ ⟨rfl, rfl⟩
 rintro a σ ⟨rfl, rfl⟩
 refine AWP_cond r1 rfl (fun C1 => ?_) (fun C1 => ?_)
 ·
  replace H := ifT C1 H
  obtain ⟨r2, hr2, H⟩ := bindE H
  obtain ⟨g3, hg3, H⟩ := bindE H
  refine AWP_sr tok [] [2] (fun a σ => a = [(2, .bool g3)] ∧ σ = hp E0 [] (N0 + 14)) (fun K hK => ?_) ?_
  ·
   skip
   simp -dsimp -implicitDefEqProofs (maxDischargeDepth := 6)
   refine (c150 hr2).app ?_; try simp -dsimp -implicitDefEqProofs (maxDischargeDepth := 6)
   cases hbg3 : r2
   ·
    replace hg3 := ifF hbg3 hg3
    replace hg3 := Option.some.inj hg3; subst hg3
    try simp -dsimp -implicitDefEqProofs (maxDischargeDepth := 6) [hbg3]
    exact hK _ _ ⟨rfl, rfl⟩
   ·
    replace hg3 := ifT hbg3 hg3
    replace hg3 := Option.some.inj hg3; subst hg3
    try simp -dsimp -implicitDefEqProofs (maxDischargeDepth := 6) [hbg3]
    exact hK _ _ ⟨rfl, rfl⟩
  rintro a σ ⟨rfl, rfl⟩
  replace H := Option.some.inj H; subst H
  refine AWP_kp [2] [(2, .bool g3)] rfl ?_
  refine AWP_ret ?_
  exact ⟨[.bool g3], by simp, 4, by simp [encL_nil]⟩
 ·
  replace H := ifF C1 H
  obtain ⟨r4, hr4, H⟩ := bindE H
  refine AWP_sr tok [] [1, 14] (fun a σ => a = [(1, .fptr [.int .i64 p0.Op, .int .i64 p0.Rd, .int .i64 p0.Rs, .int .i64 p0.Rt, .int .i64 p0.Imm] 0), (14, .bool r4)] ∧ σ = hp E0 [] (N0 + 10)) (fun K hK => ?_) ?_
  ·
   skip
   simp -dsimp -implicitDefEqProofs (maxDischargeDepth := 6)
   refine (c65 hr4).app ?_; try simp -dsimp -implicitDefEqProofs (maxDischargeDepth := 6)
   exact hK _ _ ⟨rfl, rfl⟩
  rintro a σ ⟨rfl, rfl⟩
  refine AWP_cond r4 rfl (fun C2 => ?_) (fun C2 => ?_)
  ·
   replace H := ifT C2 H
   obtain ⟨r5, hr5, H⟩ := bindE H
   obtain ⟨g7, hg7, H⟩ := bindE H
   refine AWP_sr tok [] [2] (fun a σ => a = [(2, .bool g7)] ∧ σ = hp E0 [] (N0 + 18)) (fun K hK => ?_) ?_
   ·
    skip
    simp -dsimp -implicitDefEqProofs (maxDischargeDepth := 6)
    refine (c150 hr5).app ?_; try simp -dsimp -implicitDefEqProofs (maxDischargeDepth := 6)
    cases hbg7 : r5
    ·
     replace hg7 := ifF hbg7 hg7
     replace hg7 := Option.some.inj hg7; subst hg7
     try simp -dsimp -implicitDefEqProofs (maxDischargeDepth := 6) [hbg7]
     exact hK _ _ ⟨rfl, rfl⟩
    ·
     replace hg7 := ifT hbg7 hg7
     obtain ⟨r6, hr6, hg7⟩ := bindE hg7
     replace hg7 := Option.some.inj hg7; subst hg7
     try simp -dsimp -implicitDefEqProofs (maxDischargeDepth := 6) [hbg7]
     refine (c65 hr6).app ?_; try simp -dsimp -implicitDefEqProofs (maxDischargeDepth := 6) [hbg7]
     exact hK _ _ ⟨rfl, rfl⟩
   rintro a σ ⟨rfl, rfl⟩
   replace H := Option.some.inj H; subst H
   refine AWP_kp [2] [(2, .bool g7)] rfl ?_
   refine AWP_ret ?_
   exact ⟨[.bool g7], by simp, 4, by simp [encL_nil]⟩
  ·
   replace H := ifF C2 H
   refine AWP_sr tok [] [1, 25] (fun a σ => a = [(1, .fptr [.int .i64 p0.Op, .int .i64 p0.Rd, .int .i64 p0.Rs, .int .i64 p0.Rt, .int .i64 p0.Imm] 0), (25, .bool (ieq p0.Op 16))] ∧ σ = hp E0 [] (N0 + 14)) (fun K hK => ?_) ?_
   ·
    skip
    simp -dsimp -implicitDefEqProofs (maxDischargeDepth := 6)
    exact hK _ _ ⟨rfl, rfl⟩
   rintro a σ ⟨rfl, rfl⟩
   refine AWP_cond (ieq p0.Op 16) rfl (fun C3 => ?_) (fun C3 => ?_)
   ·
    replace H := ifT C3 H
    obtain ⟨r8, hr8, H⟩ := bindE H
    obtain ⟨g10, hg10, H⟩ := bindE H
    refine AWP_sr tok [] [2] (fun a σ => a = [(2, .bool g10)] ∧ σ = hp E0 [] (N0 + 22)) (fun K hK => ?_) ?_
    ·
     skip
     simp -dsimp -implicitDefEqProofs (maxDischargeDepth := 6)
     refine (c150 hr8).app ?_; try simp -dsimp -implicitDefEqProofs (maxDischargeDepth := 6)
     cases hbg10 : r8
     ·
      replace hg10 := ifF hbg10 hg10
      replace hg10 := Option.some.inj hg10; subst hg10
      try simp -dsimp -implicitDefEqProofs (maxDischargeDepth := 6) [hbg10]
      exact hK _ _ ⟨rfl, rfl⟩
     ·
      replace hg10 := ifT hbg10 hg10
      obtain ⟨r9, hr9, hg10⟩ := bindE hg10
      replace hg10 := Option.some.inj hg10; subst hg10
      try simp -dsimp -implicitDefEqProofs (maxDischargeDepth := 6) [hbg10]
      refine (c65 hr9).app ?_; try simp -dsimp -implicitDefEqProofs (maxDischargeDepth := 6) [hbg10]
      exact hK _ _ ⟨rfl, rfl⟩
    rintro a σ ⟨rfl, rfl⟩
    replace H := Option.some.inj H; subst H
    refine AWP_kp [2] [(2, .bool g10)] rfl ?_
    refine AWP_ret ?_
    exact ⟨[.bool g10], by simp, 4, by simp [encL_nil]⟩
   ·
    replace H := ifF C3 H
    obtain ⟨g11, hg11, H⟩ := bindE H
    refine AWP_sr tok [] [1, 36] (fun a σ => a = [(1, .fptr [.int .i64 p0.Op, .int .i64 p0.Rd, .int .i64 p0.Rs, .int .i64 p0.Rt, .int .i64 p0.Imm] 0), (36, .bool g11)] ∧ σ = hp E0 [] (N0 + 23)) (fun K hK => ?_) ?_
    ·
     skip
     simp -dsimp -implicitDefEqProofs (maxDischargeDepth := 6)
     cases hbg11 : ieq p0.Op 17
     ·
      replace hg11 := ifF hbg11 hg11
      replace hg11 := Option.some.inj hg11; subst hg11
      try simp -dsimp -implicitDefEqProofs (maxDischargeDepth := 6) [hbg11]
      exact hK _ _ ⟨rfl, rfl⟩
     ·
      replace hg11 := ifT hbg11 hg11
      replace hg11 := Option.some.inj hg11; subst hg11
      try simp -dsimp -implicitDefEqProofs (maxDischargeDepth := 6) [hbg11]
      exact hK _ _ ⟨rfl, rfl⟩
    rintro a σ ⟨rfl, rfl⟩
    refine AWP_cond g11 rfl (fun C4 => ?_) (fun C4 => ?_)
    ·
     replace H := ifT C4 H
     obtain ⟨r12, hr12, H⟩ := bindE H
     obtain ⟨g14, hg14, H⟩ := bindE H
     refine AWP_sr tok [] [2] (fun a σ => a = [(2, .bool g14)] ∧ σ = hp E0 [] (N0 + 31)) (fun K hK => ?_) ?_
     ·
      skip
      simp -dsimp -implicitDefEqProofs (maxDischargeDepth := 6)
      refine (c150 hr12).app ?_; try simp -dsimp -implicitDefEqProofs (maxDischargeDepth := 6)
      cases hbg14 : r12
      ·
       replace hg14 := ifF hbg14 hg14
       replace hg14 := Option.some.inj hg14; subst hg14
       try simp -dsimp -implicitDefEqProofs (maxDischargeDepth := 6) [hbg14]
       exact hK _ _ ⟨rfl, rfl⟩
      ·
       replace hg14 := ifT hbg14 hg14
       obtain ⟨r13, hr13, hg14⟩ := bindE hg14
       replace hg14 := Option.some.inj hg14; subst hg14
       try simp -dsimp -implicitDefEqProofs (maxDischargeDepth := 6) [hbg14]
       refine (c151 hr13).app ?_; try simp -dsimp -implicitDefEqProofs (maxDischargeDepth := 6) [hbg14]
       exact hK _ _ ⟨rfl, rfl⟩
     rintro a σ ⟨rfl, rfl⟩
     replace H := Option.some.inj H; subst H
     refine AWP_kp [2] [(2, .bool g14)] rfl ?_
     refine AWP_ret ?_
     exact ⟨[.bool g14], by simp, 4, by simp [encL_nil]⟩
    ·
     replace H := ifF C4 H
     refine AWP_sr tok [] [1, 52] (fun a σ => a = [(1, .fptr [.int .i64 p0.Op, .int .i64 p0.Rd, .int .i64 p0.Rs, .int .i64 p0.Rt, .int .i64 p0.Imm] 0), (52, .bool (ieq p0.Op 19))] ∧ σ = hp E0 [] (N0 + 27)) (fun K hK => ?_) ?_
     ·
      skip
      simp -dsimp -implicitDefEqProofs (maxDischargeDepth := 6)
      exact hK _ _ ⟨rfl, rfl⟩
     rintro a σ ⟨rfl, rfl⟩
     refine AWP_cond (ieq p0.Op 19) rfl (fun C5 => ?_) (fun C5 => ?_)
     ·
      replace H := ifT C5 H
      obtain ⟨r15, hr15, H⟩ := bindE H
      obtain ⟨g17, hg17, H⟩ := bindE H
      refine AWP_sr tok [] [2] (fun a σ => a = [(2, .bool g17)] ∧ σ = hp E0 [] (N0 + 35)) (fun K hK => ?_) ?_
      ·
       skip
       simp -dsimp -implicitDefEqProofs (maxDischargeDepth := 6)
       refine (c150 hr15).app ?_; try simp -dsimp -implicitDefEqProofs (maxDischargeDepth := 6)
       cases hbg17 : r15
       ·
        replace hg17 := ifF hbg17 hg17
        replace hg17 := Option.some.inj hg17; subst hg17
        try simp -dsimp -implicitDefEqProofs (maxDischargeDepth := 6) [hbg17]
        exact hK _ _ ⟨rfl, rfl⟩
       ·
        replace hg17 := ifT hbg17 hg17
        obtain ⟨r16, hr16, hg17⟩ := bindE hg17
        replace hg17 := Option.some.inj hg17; subst hg17
        try simp -dsimp -implicitDefEqProofs (maxDischargeDepth := 6) [hbg17]
        refine (c65 hr16).app ?_; try simp -dsimp -implicitDefEqProofs (maxDischargeDepth := 6) [hbg17]
        exact hK _ _ ⟨rfl, rfl⟩
      rintro a σ ⟨rfl, rfl⟩
      replace H := Option.some.inj H; subst H
      refine AWP_kp [2] [(2, .bool g17)] rfl ?_
      refine AWP_ret ?_
      exact ⟨[.bool g17], by simp, 4, by simp [encL_nil]⟩
     ·
      replace H := ifF C5 H
      refine AWP_sr tok [] [1, 63] (fun a σ => a = [(1, .fptr [.int .i64 p0.Op, .int .i64 p0.Rd, .int .i64 p0.Rs, .int .i64 p0.Rt, .int .i64 p0.Imm] 0), (63, .bool (ieq p0.Op 20))] ∧ σ = hp E0 [] (N0 + 31)) (fun K hK => ?_) ?_
      ·
       skip
       simp -dsimp -implicitDefEqProofs (maxDischargeDepth := 6)
       exact hK _ _ ⟨rfl, rfl⟩
      rintro a σ ⟨rfl, rfl⟩
      refine AWP_cond (ieq p0.Op 20) rfl (fun C6 => ?_) (fun C6 => ?_)
      ·
       replace H := ifT C6 H
       obtain ⟨r18, hr18, H⟩ := bindE H
       obtain ⟨g20, hg20, H⟩ := bindE H
       refine AWP_sr tok [] [2] (fun a σ => a = [(2, .bool g20)] ∧ σ = hp E0 [] (N0 + 39)) (fun K hK => ?_) ?_
       ·
        skip
        simp -dsimp -implicitDefEqProofs (maxDischargeDepth := 6)
        refine (c150 hr18).app ?_; try simp -dsimp -implicitDefEqProofs (maxDischargeDepth := 6)
        cases hbg20 : r18
        ·
         replace hg20 := ifF hbg20 hg20
         replace hg20 := Option.some.inj hg20; subst hg20
         try simp -dsimp -implicitDefEqProofs (maxDischargeDepth := 6) [hbg20]
         exact hK _ _ ⟨rfl, rfl⟩
        ·
         replace hg20 := ifT hbg20 hg20
         obtain ⟨r19, hr19, hg20⟩ := bindE hg20
         replace hg20 := Option.some.inj hg20; subst hg20
         try simp -dsimp -implicitDefEqProofs (maxDischargeDepth := 6) [hbg20]
         refine (c151 hr19).app ?_; try simp -dsimp -implicitDefEqProofs (maxDischargeDepth := 6) [hbg20]
         exact hK _ _ ⟨rfl, rfl⟩
       rintro a σ ⟨rfl, rfl⟩
       replace H := Option.some.inj H; subst H
       refine AWP_kp [2] [(2, .bool g20)] rfl ?_
       refine AWP_ret ?_
       exact ⟨[.bool g20], by simp, 4, by simp [encL_nil]⟩
      ·
       replace H := ifF C6 H
       refine AWP_skip ?_
       show K1 _ _
       refine keepE (l := [1]) (x := [(1, .fptr [.int .i64 p0.Op, .int .i64 p0.Rd, .int .i64 p0.Rs, .int .i64 p0.Rt, .int .i64 p0.Imm] 0)]) rfl fun a' ha => ?_
       refine hK1 _ _ ?_; rw [ha]
       refine Rc.mk ?_
       obtain ⟨g22, hg22, H⟩ := bindE H
       obtain ⟨g23, hg23, H⟩ := bindE H
       refine AWP_sr tok [] [2] (fun a σ => a = [(2, .bool g23)] ∧ σ = hp E0 [] (N0 + 44)) (fun K hK => ?_) ?_
       ·
        skip
        simp -dsimp -implicitDefEqProofs (maxDischargeDepth := 6)
        cases hbg22 : ieq p0.Op 21
        ·
         replace hg22 := ifF hbg22 hg22
         replace hg22 := Option.some.inj hg22; subst hg22
         try simp -dsimp -implicitDefEqProofs (maxDischargeDepth := 6) [hbg22]
         replace hg23 := ifF rfl hg23
         replace hg23 := Option.some.inj hg23; subst hg23
         try simp -dsimp -implicitDefEqProofs (maxDischargeDepth := 6) [hbg22]
         exact hK _ _ ⟨rfl, rfl⟩
        ·
         replace hg22 := ifT hbg22 hg22
         obtain ⟨r21, hr21, hg22⟩ := bindE hg22
         replace hg22 := Option.some.inj hg22; subst hg22
         try simp -dsimp -implicitDefEqProofs (maxDischargeDepth := 6) [hbg22]
         refine (c150 hr21).app ?_; try simp -dsimp -implicitDefEqProofs (maxDischargeDepth := 6) [hbg22]
         cases hbg23 : r21
         ·
          replace hg23 := ifF hbg23 hg23
          replace hg23 := Option.some.inj hg23; subst hg23
          try simp -dsimp -implicitDefEqProofs (maxDischargeDepth := 6) [hbg22, hbg23]
          exact hK _ _ ⟨rfl, rfl⟩
         ·
          replace hg23 := ifT hbg23 hg23
          replace hg23 := Option.some.inj hg23; subst hg23
          try simp -dsimp -implicitDefEqProofs (maxDischargeDepth := 6) [hbg22, hbg23]
          exact hK _ _ ⟨rfl, rfl⟩
       rintro a σ ⟨rfl, rfl⟩
       replace H := Option.some.inj H; subst H
       refine AWP_kp [2] [(2, .bool g23)] rfl ?_
       refine AWP_ret ?_
       exact ⟨[.bool g23], by simp, 4, by simp [encL_nil]⟩
theorem c153 {p0 : Int} {p1 : Int} {r : Int} (H : s_l42Mod p0 p1 = some r) : APure Tryd.prog G 153 [.int .i64 p0, .int .i64 p1] (.int .i64 r) := by
 refine APure_fn (fun N0 => ?_) (by simp)
 refine ACalls_fn tok Tryd.func153 (by kernel_rfl) rfl Tryd.ntmps153 Tryd.results153 rfl ?_
 simp only [argsA, Nat.reduceAdd, hp_next]
 unfold s_l42Mod at H
 refine AWP_sr tok [] [0, 1] (fun a σ => a = [(0, .int .i64 p0), (1, .int .i64 p1)] ∧ σ = hp E0 [] (N0 + 1)) (fun K hK => ?_) ?_
 ·
  skip
  simp -dsimp -implicitDefEqProofs (maxDischargeDepth := 6)
  exact hK _ _ ⟨rfl, rfl⟩
 rintro a σ ⟨rfl, rfl⟩
 refine AWP_sq [0] fun K1 hK1 => ?_
 refine AWP_sr tok [] [0, 1, 6] (fun a σ => a = [(0, .int .i64 p0), (1, .int .i64 p1), (6, .bool (ilt p0 0))] ∧ σ = hp E0 [] (N0 + 3)) (fun K hK => ?_) ?_
 ·
  skip
  simp -dsimp -implicitDefEqProofs (maxDischargeDepth := 6)
  exact hK _ _ ⟨rfl, rfl⟩
 rintro a σ ⟨rfl, rfl⟩
 refine AWP_cond (ilt p0 0) rfl (fun C1 => ?_) (fun C1 => ?_)
 ·
  replace H := ifT C1 H
  refine AWP_sr tok [] [4] (fun a σ => a = [(4, .int .i64 (iadd .i64 p0 p1))] ∧ σ = hp E0 [] (N0 + 7)) (fun K hK => ?_) ?_
  ·
   skip
   simp -dsimp -implicitDefEqProofs (maxDischargeDepth := 6)
   exact hK _ _ ⟨rfl, rfl⟩
  rintro a σ ⟨rfl, rfl⟩
  replace H := Option.some.inj H; subst H
  refine AWP_kp [4] [(4, .int .i64 (iadd .i64 p0 p1))] rfl ?_
  refine AWP_ret ?_
  exact ⟨[.int .i64 (iadd .i64 p0 p1)], by simp, 4, by simp [encL_nil]⟩
 ·
  replace H := ifF C1 H
  refine AWP_skip ?_
  show K1 _ _
  refine keepE (l := [0]) (x := [(0, .int .i64 p0)]) rfl fun a' ha => ?_
  refine hK1 _ _ ?_; rw [ha]
  refine Rc.mk ?_
  refine AWP_sr tok [] [4] (fun a σ => a = [(4, .int .i64 p0)] ∧ σ = hp E0 [] (N0 + 5)) (fun K hK => ?_) ?_
  ·
   skip
   simp -dsimp -implicitDefEqProofs (maxDischargeDepth := 6)
   exact hK _ _ ⟨rfl, rfl⟩
  rintro a σ ⟨rfl, rfl⟩
  replace H := Option.some.inj H; subst H
  refine AWP_kp [4] [(4, .int .i64 p0)] rfl ?_
  refine AWP_ret ?_
  exact ⟨[.int .i64 p0], by simp, 4, by simp [encL_nil]⟩
theorem c147 {p0 : Int} {r : Int} (H : s_l1Power p0 = some r) : APure Tryd.prog G 147 [.int .i64 p0] (.int .i64 r) := by
 refine APure_fn (fun N0 => ?_) (by simp)
 refine ACalls_fn tok Tryd.func147 (by kernel_rfl) rfl Tryd.ntmps147 Tryd.results147 rfl ?_
 simp only [argsA, Nat.reduceAdd, hp_next]
 unfold s_l1Power at H
 refine AWP_sr tok [] [0] (fun a σ => a = [(0, .int .i64 p0)] ∧ σ = hp E0 [] (N0 + 1)) (fun K hK => ?_) ?_
 ·
  skip
  simp -dsimp -implicitDefEqProofs (maxDischargeDepth := 6)
  exact hK _ _ ⟨rfl, rfl⟩
 rintro a σ ⟨rfl, rfl⟩
 refine AWP_sr tok [] [0, 3] (fun a σ => a = [(0, .int .i64 p0), (3, .int .i64 1)] ∧ σ = hp E0 [] (N0 + 2)) (fun K hK => ?_) ?_
 ·
  skip
  simp -dsimp -implicitDefEqProofs (maxDischargeDepth := 6)
  exact hK _ _ ⟨rfl, rfl⟩
 rintro a σ ⟨rfl, rfl⟩
 refine AWP_sq [3] fun K1 hK1 => ?_
 refine AWP_sr tok [] [0, 3, 4] (fun a σ => a = [(0, .int .i64 p0), (3, .int .i64 1), (4, .int .i64 0)] ∧ σ = hp E0 [] (N0 + 3)) (fun K hK => ?_) ?_
 ·
  skip
  simp -dsimp -implicitDefEqProofs (maxDischargeDepth := 6)
  exact hK _ _ ⟨rfl, rfl⟩
 rintro a σ ⟨rfl, rfl⟩
 refine AWP_block (AWP_thenB ?_)
 obtain ⟨e1, hse1, H⟩ := bindE H
 refine AWP_lp [0, 3, 4] (fun s a σ => ∃ M1 : Nat, N0 ≤ M1 ∧ a = [(0, .int .i64 p0), (3, .int .i64 s.1), (4, .int .i64 s.2)] ∧ σ = hp E0 [] M1) (fun s x a σ => x = .exit 0 ∧ Rc G 13 N0 (fun a σ => ∃ M2 : Nat, N0 ≤ M2 ∧ a = [(3, .int .i64 s)] ∧ σ = hp E0 [] M2) (AAct.keep a [3]) σ) hse1 ?_ ?_ ?_
 ·
  refine Rc.kp [0, 3, 4] [(0, .int .i64 p0), (3, .int .i64 1), (4, .int .i64 0)] rfl ?_
  exact Rc.fin (AHeap.Sub.refl _) ⟨N0 + 3, (by omega), rfl, rfl⟩
 ·
  clear H hse1
  rintro ⟨s1, s2⟩ fl a σ H ⟨M1, fM1_0, rfl, rfl⟩ K2 O2 hK2 hO2
  unfold s_l1Power_L1 at H; dsimp only at H
  refine AWP_sq [0, 3, 4] fun K3 hK3 => ?_
  refine AWP_sr tok [] [0, 3, 4, 7] (fun a σ => a = [(0, .int .i64 p0), (3, .int .i64 s1), (4, .int .i64 s2), (7, .bool (ilt s2 p0))] ∧ σ = hp E0 [] (M1 + 3)) (fun K hK => ?_) ?_
  ·
   skip
   simp -dsimp -implicitDefEqProofs (maxDischargeDepth := 6)
   exact hK _ _ ⟨rfl, rfl⟩
  rintro a σ ⟨rfl, rfl⟩
  refine AWP_cond (ilt s2 p0) rfl (fun C1 => ?_) (fun C1 => ?_)
  ·
   replace H := ifT C1 H
   refine AWP_skip ?_
   show K3 _ _
   refine keepE (l := [0, 3, 4]) (x := [(0, .int .i64 p0), (3, .int .i64 s1), (4, .int .i64 s2)]) rfl fun a' ha => ?_
   refine hK3 _ _ ?_; rw [ha]
   refine Rc.mk ?_
   refine AWP_sq [0, 3, 4] fun K4 hK4 => ?_
   refine AWP_block (AWP_thenB ?_)
   refine AWP_rt tok [] [0, 3, 4] (fun a σ => a = [(0, .int .i64 p0), (3, .int .i64 (imul .i64 s1 2)), (4, .int .i64 s2)] ∧ σ = hp E0 [] (M1 + 6)) (fun K hK => ?_) ?_
   ·
    skip
    simp -dsimp -implicitDefEqProofs (maxDischargeDepth := 6)
    exact hK _ _ ⟨rfl, rfl⟩
   rintro a σ ⟨ha, rfl⟩
   refine hK4 _ _ ?_; rw [ha]
   refine Rc.mk ?_
   refine AWP_rt tok [] [0, 3, 4] (fun a σ => a = [(0, .int .i64 p0), (3, .int .i64 (imul .i64 s1 2)), (4, .int .i64 (iadd .i64 s2 1))] ∧ σ = hp E0 [] (M1 + 9)) (fun K hK => ?_) ?_
   ·
    skip
    simp -dsimp -implicitDefEqProofs (maxDischargeDepth := 6)
    exact hK _ _ ⟨rfl, rfl⟩
   rintro a σ ⟨ha, rfl⟩
   replace H := Option.some.inj H; subst H
   refine hK2 _ _ _ rfl ?_; rw [ha]
   exact Rc.fin (AHeap.Sub.refl _) ⟨M1 + 9, (by omega), rfl, rfl⟩
  ·
   replace H := ifF C1 H
   replace H := Option.some.inj H; subst H
   refine AWP_exit (hO2 _ _ _ _ rfl ⟨rfl, ?_⟩)
   refine Rc.rw (l := [3]) (X := [(3, .int .i64 s1)]) rfl ?_
   exact Rc.fin (AHeap.Sub.refl _) ⟨M1 + 3, (by omega), rfl, rfl⟩
 ·
  intro x a σ hx
  obtain ⟨y3, rfl⟩ : ∃ x, x = e1 := ⟨_, rfl⟩
  obtain ⟨rfl, b, τ, hr, M2, fM2_0, rfl, rfl⟩ := hx
  dsimp only at H
  show K1 _ _
  refine hK1 _ _ (Rc_ref hr ?_)
  refine Rc.mk ?_
  refine AWP_sr tok [] [2] (fun a σ => a = [(2, .int .i64 y3)] ∧ σ = hp E0 [] (M2 + 2)) (fun K hK => ?_) ?_
  ·
   skip
   simp -dsimp -implicitDefEqProofs (maxDischargeDepth := 6)
   exact hK _ _ ⟨rfl, rfl⟩
  rintro a σ ⟨rfl, rfl⟩
  replace H := Option.some.inj H; subst H
  refine AWP_kp [2] [(2, .int .i64 y3)] rfl ?_
  refine AWP_ret ?_
  exact ⟨[.int .i64 y3], by simp, 4, by simp [encL_nil]⟩
theorem c154 {p0 : Int} {p1 : Int} {r : Int} (H : s_l42Put p0 p1 = some r) : APure Tryd.prog G 154 [.int .i64 p0, .int .i64 p1] (.int .i64 r) := by
 refine APure_fn (fun N0 => ?_) (by simp)
 refine ACalls_fn tok Tryd.func154 (by kernel_rfl) rfl Tryd.ntmps154 Tryd.results154 rfl ?_
 simp only [argsA, Nat.reduceAdd, hp_next]
 unfold s_l42Put at H
 refine AWP_sr tok [] [0, 1] (fun a σ => a = [(0, .int .i64 p0), (1, .int .i64 p1)] ∧ σ = hp E0 [] (N0 + 1)) (fun K hK => ?_) ?_
 ·
  skip
  simp -dsimp -implicitDefEqProofs (maxDischargeDepth := 6)
  exact hK _ _ ⟨rfl, rfl⟩
 rintro a σ ⟨rfl, rfl⟩
 obtain ⟨r1, hr1, H⟩ := bindE H
 refine AWP_sr tok [] [4] (fun a σ => a = [(4, .int .i64 (imul .i64 p0 r1))] ∧ σ = hp E0 [] (N0 + 6)) (fun K hK => ?_) ?_
 ·
  skip
  simp -dsimp -implicitDefEqProofs (maxDischargeDepth := 6)
  refine (c147 hr1).app ?_; try simp -dsimp -implicitDefEqProofs (maxDischargeDepth := 6)
  exact hK _ _ ⟨rfl, rfl⟩
 rintro a σ ⟨rfl, rfl⟩
 replace H := Option.some.inj H; subst H
 refine AWP_kp [4] [(4, .int .i64 (imul .i64 p0 r1))] rfl ?_
 refine AWP_ret ?_
 exact ⟨[.int .i64 (imul .i64 p0 r1)], by simp, 4, by simp [encL_nil]⟩
theorem c159 {p0 : Int} {r : Int} (H : s_l42Three p0 = some r) : APure Tryd.prog G 159 [.int .i64 p0] (.int .i64 r) := by
 refine APure_fn (fun N0 => ?_) (by simp)
 refine ACalls_fn tok Tryd.func159 (by kernel_rfl) rfl Tryd.ntmps159 Tryd.results159 rfl ?_
 simp only [argsA, Nat.reduceAdd, hp_next]
 unfold s_l42Three at H
 refine AWP_sr tok [] [0] (fun a σ => a = [(0, .int .i64 p0)] ∧ σ = hp E0 [] (N0 + 1)) (fun K hK => ?_) ?_
 ·
  skip
  simp -dsimp -implicitDefEqProofs (maxDischargeDepth := 6)
  exact hK _ _ ⟨rfl, rfl⟩
 rintro a σ ⟨rfl, rfl⟩
 obtain ⟨v1, hv1, H⟩ := bindE H
 have q0 : ∀ σ i, buildSliceA T 24 true i 21 [(0, .int .i64 0), (1, .int .i64 0), (2, .int .i64 0), (3, .int .i64 4), (4, .int .i64 6), (5, .int .i64 7), (6, .int .i64 6), (7, .int .i64 4), (8, .int .i64 1), (9, .int .i64 5), (10, .int .i64 2), (11, .int .i64 0), (12, .int .i64 3), (13, .int .i64 2), (14, .int .i64 0), (15, .int .i64 2), (16, .int .i64 0), (17, .int .i64 1), (18, .int .i64 0), (19, .int .i64 0), (20, .int .i64 0)] σ = some (.fsl (encL rI ([0, 0, 0, 4, 6, 7, 6, 4, 1, 5, 2, 0, 3, 2, 0, 2, 0, 1, 0, 0, 0] : List Int)), σ) := fun _ _ => rfl
 refine AWP_sr tok [0] [2] (fun a σ => a = [(2, .int .i64 v1)] ∧ σ = hp E0 [] (N0 + 7)) (fun K hK => ?_) ?_
 ·
  skip
  simp -dsimp -implicitDefEqProofs (maxDischargeDepth := 6) [q0, ix24 hv1]
  exact hK _ _ ⟨rfl, rfl⟩
 rintro a σ ⟨rfl, rfl⟩
 replace H := Option.some.inj H; subst H
 refine AWP_kp [2] [(2, .int .i64 v1)] rfl ?_
 refine AWP_ret ?_
 exact ⟨[.int .i64 v1], by simp, 4, by simp [encL_nil]⟩
theorem c155 {p0 : gInstr} {p1 : Int} {r : Int} (H : s_l42Mid p0 p1 = some r) : APure Tryd.prog G 155 [.agg [.int .i64 p0.Op, .int .i64 p0.Rd, .int .i64 p0.Rs, .int .i64 p0.Rt, .int .i64 p0.Imm], .int .i64 p1] (.int .i64 r) := by
 refine APure_fn (fun N0 => ?_) (by simp)
 refine ACalls_fn tok Tryd.func155 (by kernel_rfl) rfl Tryd.ntmps155 Tryd.results155 rfl ?_
 simp only [argsA, Nat.reduceAdd, hp_next]
 unfold s_l42Mid at H
 refine AWP_sr tok [0] [1, 2] (fun a σ => a = [(1, .int .i64 p1), (2, .fptr [.int .i64 p0.Op, .int .i64 p0.Rd, .int .i64 p0.Rs, .int .i64 p0.Rt, .int .i64 p0.Imm] 0)] ∧ σ = hp E0 [] (N0 + 2)) (fun K hK => ?_) ?_
 ·
  skip
  simp -dsimp -implicitDefEqProofs (maxDischargeDepth := 6)
  exact hK _ _ ⟨rfl, rfl⟩
 rintro a σ ⟨rfl, rfl⟩
 obtain ⟨r1, hr1, H⟩ := bindE H
 obtain ⟨r2, hr2, H⟩ := bindE H
 obtain ⟨r3, hr3, H⟩ := bindE H
 refine AWP_sd tok tokM [] [] [0, 1, 2, 3, 4, 5, 6, 7, 8, 9, 10] [4] (fun a σ => a = [(4, .int .i64 (iadd .i64 (iadd .i64 r1 r3) p1))] ∧ σ = hp E0 [] (N0 + 13)) (by decide) (fun K hK => ?_) ?_
 ·
  simp only [pickL, nthO_succ, nthO_zero]
  simp -dsimp -implicitDefEqProofs (maxDischargeDepth := 6)
  refine Pc.mk (c154 hr1) ?_; try simp -dsimp -implicitDefEqProofs (maxDischargeDepth := 6)
  refine Pc.mk (c159 hr2) ?_; try simp -dsimp -implicitDefEqProofs (maxDischargeDepth := 6)
  refine Pc.mk (c154 hr3) ?_; try simp -dsimp -implicitDefEqProofs (maxDischargeDepth := 6)
  exact hK _ _ ⟨rfl, rfl⟩
 rintro a σ ⟨rfl, rfl⟩
 replace H := Option.some.inj H; subst H
 refine AWP_kp [4] [(4, .int .i64 (iadd .i64 (iadd .i64 r1 r3) p1))] rfl ?_
 refine AWP_ret ?_
 exact ⟨[.int .i64 (iadd .i64 (iadd .i64 r1 r3) p1)], by simp, 4, by simp [encL_nil]⟩
theorem c152 {p0 : gInstr} {p1 : Int} {r : Int} (H : s_l42Imm p0 p1 = some r) : APure Tryd.prog G 152 [.agg [.int .i64 p0.Op, .int .i64 p0.Rd, .int .i64 p0.Rs, .int .i64 p0.Rt, .int .i64 p0.Imm], .int .i64 p1] (.int .i64 r) := by
 refine APure_fn (fun N0 => ?_) (by simp)
 refine ACalls_fn tok Tryd.func152 (by kernel_rfl) rfl Tryd.ntmps152 Tryd.results152 rfl ?_
 simp only [argsA, Nat.reduceAdd, hp_next]
 unfold s_l42Imm at H
 refine AWP_sr tok [0] [1, 2] (fun a σ => a = [(1, .int .i64 p1), (2, .fptr [.int .i64 p0.Op, .int .i64 p0.Rd, .int .i64 p0.Rs, .int .i64 p0.Rt, .int .i64 p0.Imm] 0)] ∧ σ = hp E0 [] (N0 + 2)) (fun K hK => ?_) ?_
 ·
  skip
  simp -dsimp -implicitDefEqProofs (maxDischargeDepth := 6)
  exact hK _ _ ⟨rfl, rfl⟩
 rintro a σ ⟨rfl, rfl⟩
 obtain ⟨r1, hr1, H⟩ := bindE H
 obtain ⟨r2, hr2, H⟩ := bindE H
 obtain ⟨r3, hr3, H⟩ := bindE H
 obtain ⟨r4, hr4, H⟩ := bindE H
 refine AWP_sd tok tokM [] [] [0, 1, 2, 3, 4, 5, 6, 7, 8, 9, 10, 11, 12] [4] (fun a σ => a = [(4, .int .i64 (iadd .i64 (iadd .i64 r2 r3) r4))] ∧ σ = hp E0 [] (N0 + 15)) (by decide) (fun K hK => ?_) ?_
 ·
  simp only [pickL, nthO_succ, nthO_zero]
  simp -dsimp -implicitDefEqProofs (maxDischargeDepth := 6)
  refine Pc.mk (c153 hr1) ?_; try simp -dsimp -implicitDefEqProofs (maxDischargeDepth := 6)
  refine Pc.mk (c154 hr2) ?_; try simp -dsimp -implicitDefEqProofs (maxDischargeDepth := 6)
  refine Pc.mk (c155 hr3) ?_; try simp -dsimp -implicitDefEqProofs (maxDischargeDepth := 6)
  refine Pc.mk (c154 hr4) ?_; try simp -dsimp -implicitDefEqProofs (maxDischargeDepth := 6)
  exact hK _ _ ⟨rfl, rfl⟩
 rintro a σ ⟨rfl, rfl⟩
 replace H := Option.some.inj H; subst H
 refine AWP_kp [4] [(4, .int .i64 (iadd .i64 (iadd .i64 r2 r3) r4))] rfl ?_
 refine AWP_ret ?_
 exact ⟨[.int .i64 (iadd .i64 (iadd .i64 r2 r3) r4)], by simp, 4, by simp [encL_nil]⟩
theorem c130 {p0 : Int} {p1 : Int} {p2 : Int} {r : Int} (H : s_Bits p0 p1 p2 = some r) : APure Tryd.prog G 130 [.int .i64 p0, .int .i64 p1, .int .i64 p2] (.int .i64 r) := by
 refine APure_fn (fun N0 => ?_) (by simp)
 refine ACalls_fn tok Tryd.func130 (by kernel_rfl) rfl Tryd.ntmps130 Tryd.results130 rfl ?_
 simp only [argsA, Nat.reduceAdd, hp_next]
 unfold s_Bits at H
 refine AWP_sr tok [] [0, 1, 2] (fun a σ => a = [(0, .int .i64 p0), (1, .int .i64 p1), (2, .int .i64 p2)] ∧ σ = hp E0 [] (N0 + 1)) (fun K hK => ?_) ?_
 ·
  skip
  simp -dsimp -implicitDefEqProofs (maxDischargeDepth := 6)
  exact hK _ _ ⟨rfl, rfl⟩
 rintro a σ ⟨rfl, rfl⟩
 refine AWP_sq [0, 1, 2] fun K1 hK1 => ?_
 obtain ⟨r1, hr1, H⟩ := bindE H
 obtain ⟨g3, hg3, H⟩ := bindE H
 obtain ⟨g5, hg5, H⟩ := bindE H
 refine AWP_sr tok [] [0, 1, 2, 21] (fun a σ => a = [(0, .int .i64 p0), (1, .int .i64 p1), (2, .int .i64 p2), (21, .bool g5)] ∧ σ = hp E0 [] (N0 + 16)) (fun K hK => ?_) ?_
 ·
  skip
  simp -dsimp -implicitDefEqProofs (maxDischargeDepth := 6)
  refine (c65 hr1).app ?_; try simp -dsimp -implicitDefEqProofs (maxDischargeDepth := 6)
  cases hbg3 : bnot r1
  ·
   replace hg3 := ifF hbg3 hg3
   obtain ⟨r2, hr2, hg3⟩ := bindE hg3
   replace hg3 := Option.some.inj hg3; subst hg3
   try simp -dsimp -implicitDefEqProofs (maxDischargeDepth := 6) [hbg3]
   refine (c65 hr2).app ?_; try simp -dsimp -implicitDefEqProofs (maxDischargeDepth := 6) [hbg3]
   cases hbg5 : (bnot r2)
   ·
    replace hg5 := ifF hbg5 hg5
    obtain ⟨r4, hr4, hg5⟩ := bindE hg5
    replace hg5 := Option.some.inj hg5; subst hg5
    try simp -dsimp -implicitDefEqProofs (maxDischargeDepth := 6) [hbg3, hbg5]
    refine (c65 hr4).app ?_; try simp -dsimp -implicitDefEqProofs (maxDischargeDepth := 6) [hbg3, hbg5]
    exact hK _ _ ⟨rfl, rfl⟩
   ·
    replace hg5 := ifT hbg5 hg5
    replace hg5 := Option.some.inj hg5; subst hg5
    try simp -dsimp -implicitDefEqProofs (maxDischargeDepth := 6) [hbg3, hbg5]
    exact hK _ _ ⟨rfl, rfl⟩
  ·
   replace hg3 := ifT hbg3 hg3
   replace hg3 := Option.some.inj hg3; subst hg3
   try simp -dsimp -implicitDefEqProofs (maxDischargeDepth := 6) [hbg3]
   replace hg5 := ifT rfl hg5
   replace hg5 := Option.some.inj hg5; subst hg5
   try simp -dsimp -implicitDefEqProofs (maxDischargeDepth := 6) [hbg3]
   exact hK _ _ ⟨rfl, rfl⟩
 rintro a σ ⟨rfl, rfl⟩
 refine AWP_cond g5 rfl (fun C1 => ?_) (fun C1 => ?_)
 ·
  replace H := ifT C1 H
  refine AWP_sr tok [] [6] (fun a σ => a = [(6, .int .i64 0)] ∧ σ = hp E0 [] (N0 + 17)) (fun K hK => ?_) ?_
  ·
   skip
   simp -dsimp -implicitDefEqProofs (maxDischargeDepth := 6)
   exact hK _ _ ⟨rfl, rfl⟩
  rintro a σ ⟨rfl, rfl⟩
  replace H := Option.some.inj H; subst H
  refine AWP_kp [6] [(6, .int .i64 0)] rfl ?_
  refine AWP_ret ?_
  exact ⟨[.int .i64 0], by simp, 4, by simp [encL_nil]⟩
 ·
  replace H := ifF C1 H
  refine AWP_skip ?_
  show K1 _ _
  refine keepE (l := [0, 1, 2]) (x := [(0, .int .i64 p0), (1, .int .i64 p1), (2, .int .i64 p2)]) rfl fun a' ha => ?_
  refine hK1 _ _ ?_; rw [ha]
  refine Rc.mk ?_
  obtain ⟨r6, hr6, H⟩ := bindE H
  obtain ⟨v7, hv7, H⟩ := bindE H
  obtain ⟨r8, hr8, H⟩ := bindE H
  obtain ⟨v9, hv9, H⟩ := bindE H
  refine AWP_sd tok tokM [] [] [0, 1, 2, 3, 4, 5, 6, 7] [6] (fun a σ => a = [(6, .int .i64 v9)] ∧ σ = hp E0 [] (N0 + 24)) (by decide) (fun K hK => ?_) ?_
  ·
   simp only [pickL, nthO_succ, nthO_zero]
   simp -dsimp -implicitDefEqProofs (maxDischargeDepth := 6) [hv7, hv9]
   refine Pc.mk (c147 hr6) ?_; try simp -dsimp -implicitDefEqProofs (maxDischargeDepth := 6) [hv7, hv9]
   refine Pc.mk (c147 hr8) ?_; try simp -dsimp -implicitDefEqProofs (maxDischargeDepth := 6) [hv7, hv9]
   exact hK _ _ ⟨rfl, rfl⟩
  rintro a σ ⟨rfl, rfl⟩
  replace H := Option.some.inj H; subst H
  refine AWP_kp [6] [(6, .int .i64 v9)] rfl ?_
  refine AWP_ret ?_
  exact ⟨[.int .i64 v9], by simp, 4, by simp [encL_nil]⟩
theorem c156 {p0 : gInstr} {r : Int} (H : s_l42Branch p0 = some r) : APure Tryd.prog G 156 [.agg [.int .i64 p0.Op, .int .i64 p0.Rd, .int .i64 p0.Rs, .int .i64 p0.Rt, .int .i64 p0.Imm]] (.int .i64 r) := by
 refine APure_fn (fun N0 => ?_) (by simp)
 refine ACalls_fn tok Tryd.func156 (by kernel_rfl) rfl Tryd.ntmps156 Tryd.results156 rfl ?_
 simp only [argsA, Nat.reduceAdd, hp_next]
 unfold s_l42Branch at H
 refine AWP_sr tok [0] [1] (fun a σ => a = [(1, .fptr [.int .i64 p0.Op, .int .i64 p0.Rd, .int .i64 p0.Rs, .int .i64 p0.Rt, .int .i64 p0.Imm] 0)] ∧ σ = hp E0 [] (N0 + 2)) (fun K hK => ?_) ?_
 ·
  skip
  simp -dsimp -implicitDefEqProofs (maxDischargeDepth := 6)
  exact hK _ _ ⟨rfl, rfl⟩
 rintro a σ ⟨rfl, rfl⟩
 obtain ⟨r1, hr1, H⟩ := bindE H
 refine AWP_sr tok [] [1, 3] (fun a σ => a = [(1, .fptr [.int .i64 p0.Op, .int .i64 p0.Rd, .int .i64 p0.Rs, .int .i64 p0.Rt, .int .i64 p0.Imm] 0), (3, .int .i64 r1)] ∧ σ = hp E0 [] (N0 + 6)) (fun K hK => ?_) ?_
 ·
  skip
  simp -dsimp -implicitDefEqProofs (maxDischargeDepth := 6)
  refine (c153 hr1).app ?_; try simp -dsimp -implicitDefEqProofs (maxDischargeDepth := 6)
  exact hK _ _ ⟨rfl, rfl⟩
 rintro a σ ⟨rfl, rfl⟩
 obtain ⟨r2, hr2, H⟩ := bindE H
 obtain ⟨r3, hr3, H⟩ := bindE H
 obtain ⟨r4, hr4, H⟩ := bindE H
 obtain ⟨r5, hr5, H⟩ := bindE H
 obtain ⟨r6, hr6, H⟩ := bindE H
 refine AWP_sd tok tokM [] [] [0, 1, 2, 3, 4, 5, 6, 7, 8, 9, 10, 11] [1, 3, 4] (fun a σ => a = [(1, .fptr [.int .i64 p0.Op, .int .i64 p0.Rd, .int .i64 p0.Rs, .int .i64 p0.Rt, .int .i64 p0.Imm] 0), (3, .int .i64 r1), (4, .int .i64 (iadd .i64 (iadd .i64 r3 r5) r6))] ∧ σ = hp E0 [] (N0 + 18)) (by decide) (fun K hK => ?_) ?_
 ·
  simp only [pickL, nthO_succ, nthO_zero]
  simp -dsimp -implicitDefEqProofs (maxDischargeDepth := 6)
  refine Pc.mk (c130 hr2) ?_; try simp -dsimp -implicitDefEqProofs (maxDischargeDepth := 6)
  refine Pc.mk (c154 hr3) ?_; try simp -dsimp -implicitDefEqProofs (maxDischargeDepth := 6)
  refine Pc.mk (c130 hr4) ?_; try simp -dsimp -implicitDefEqProofs (maxDischargeDepth := 6)
  refine Pc.mk (c154 hr5) ?_; try simp -dsimp -implicitDefEqProofs (maxDischargeDepth := 6)
  refine Pc.mk (c154 hr6) ?_; try simp -dsimp -implicitDefEqProofs (maxDischargeDepth := 6)
  exact hK _ _ ⟨rfl, rfl⟩
 rintro a σ ⟨rfl, rfl⟩
 obtain ⟨r7, hr7, H⟩ := bindE H
 obtain ⟨r8, hr8, H⟩ := bindE H
 obtain ⟨r9, hr9, H⟩ := bindE H
 obtain ⟨r10, hr10, H⟩ := bindE H
 obtain ⟨r11, hr11, H⟩ := bindE H
 refine AWP_sr tok [] [2] (fun a σ => a = [(2, .int .i64 (iadd .i64 (iadd .i64 (iadd .i64 (iadd .i64 (iadd .i64 r3 r5) r6) r7) r9) r11))] ∧ σ = hp E0 [] (N0 + 31)) (fun K hK => ?_) ?_
 ·
  skip
  simp -dsimp -implicitDefEqProofs (maxDischargeDepth := 6)
  refine (c155 hr7).app ?_; try simp -dsimp -implicitDefEqProofs (maxDischargeDepth := 6)
  refine (c130 hr8).app ?_; try simp -dsimp -implicitDefEqProofs (maxDischargeDepth := 6)
  refine (c154 hr9).app ?_; try simp -dsimp -implicitDefEqProofs (maxDischargeDepth := 6)
  refine (c130 hr10).app ?_; try simp -dsimp -implicitDefEqProofs (maxDischargeDepth := 6)
  refine (c154 hr11).app ?_; try simp -dsimp -implicitDefEqProofs (maxDischargeDepth := 6)
  exact hK _ _ ⟨rfl, rfl⟩
 rintro a σ ⟨rfl, rfl⟩
 replace H := Option.some.inj H; subst H
 refine AWP_kp [2] [(2, .int .i64 (iadd .i64 (iadd .i64 (iadd .i64 (iadd .i64 (iadd .i64 r3 r5) r6) r7) r9) r11))] rfl ?_
 refine AWP_ret ?_
 exact ⟨[.int .i64 (iadd .i64 (iadd .i64 (iadd .i64 (iadd .i64 (iadd .i64 r3 r5) r6) r7) r9) r11)], by simp, 4, by simp [encL_nil]⟩
theorem c157 {p0 : gInstr} {r : Int} (H : s_l42Jump p0 = some r) : APure Tryd.prog G 157 [.agg [.int .i64 p0.Op, .int .i64 p0.Rd, .int .i64 p0.Rs, .int .i64 p0.Rt, .int .i64 p0.Imm]] (.int .i64 r) := by
 refine APure_fn (fun N0 => ?_) (by simp)
 refine ACalls_fn tok Tryd.func157 (by kernel_rfl) rfl Tryd.ntmps157 Tryd.results157 rfl ?_
 simp only [argsA, Nat.reduceAdd, hp_next]
 unfold s_l42Jump at H
 refine AWP_sr tok [0] [1] (fun a σ => a = [(1, .fptr [.int .i64 p0.Op, .int .i64 p0.Rd, .int .i64 p0.Rs, .int .i64 p0.Rt, .int .i64 p0.Imm] 0)] ∧ σ = hp E0 [] (N0 + 2)) (fun K hK => ?_) ?_
 ·
  skip
  simp -dsimp -implicitDefEqProofs (maxDischargeDepth := 6)
  exact hK _ _ ⟨rfl, rfl⟩
 rintro a σ ⟨rfl, rfl⟩
 obtain ⟨r1, hr1, H⟩ := bindE H
 refine AWP_sr tok [] [1, 3] (fun a σ => a = [(1, .fptr [.int .i64 p0.Op, .int .i64 p0.Rd, .int .i64 p0.Rs, .int .i64 p0.Rt, .int .i64 p0.Imm] 0), (3, .int .i64 r1)] ∧ σ = hp E0 [] (N0 + 6)) (fun K hK => ?_) ?_
 ·
  skip
  simp -dsimp -implicitDefEqProofs (maxDischargeDepth := 6)
  refine (c153 hr1).app ?_; try simp -dsimp -implicitDefEqProofs (maxDischargeDepth := 6)
  exact hK _ _ ⟨rfl, rfl⟩
 rintro a σ ⟨rfl, rfl⟩
 obtain ⟨r2, hr2, H⟩ := bindE H
 obtain ⟨r3, hr3, H⟩ := bindE H
 obtain ⟨r4, hr4, H⟩ := bindE H
 obtain ⟨r5, hr5, H⟩ := bindE H
 obtain ⟨r6, hr6, H⟩ := bindE H
 obtain ⟨r7, hr7, H⟩ := bindE H
 refine AWP_sr tok [] [1, 3, 4] (fun a σ => a = [(1, .fptr [.int .i64 p0.Op, .int .i64 p0.Rd, .int .i64 p0.Rs, .int .i64 p0.Rt, .int .i64 p0.Imm] 0), (3, .int .i64 r1), (4, .int .i64 (iadd .i64 (iadd .i64 r3 r5) r7))] ∧ σ = hp E0 [] (N0 + 18)) (fun K hK => ?_) ?_
 ·
  skip
  simp -dsimp -implicitDefEqProofs (maxDischargeDepth := 6)
  refine (c130 hr2).app ?_; try simp -dsimp -implicitDefEqProofs (maxDischargeDepth := 6)
  refine (c154 hr3).app ?_; try simp -dsimp -implicitDefEqProofs (maxDischargeDepth := 6)
  refine (c130 hr4).app ?_; try simp -dsimp -implicitDefEqProofs (maxDischargeDepth := 6)
  refine (c154 hr5).app ?_; try simp -dsimp -implicitDefEqProofs (maxDischargeDepth := 6)
  refine (c130 hr6).app ?_; try simp -dsimp -implicitDefEqProofs (maxDischargeDepth := 6)
  refine (c154 hr7).app ?_; try simp -dsimp -implicitDefEqProofs (maxDischargeDepth := 6)
  exact hK _ _ ⟨rfl, rfl⟩
 rintro a σ ⟨rfl, rfl⟩
 obtain ⟨r8, hr8, H⟩ := bindE H
 obtain ⟨r9, hr9, H⟩ := bindE H
 obtain ⟨r10, hr10, H⟩ := bindE H
 refine AWP_sd tok tokM [] [] [0, 1, 2, 3, 4, 5, 6, 7, 8, 9, 10] [2] (fun a σ => a = [(2, .int .i64 (iadd .i64 (iadd .i64 (iadd .i64 (iadd .i64 (iadd .i64 r3 r5) r7) r9) r10) 111))] ∧ σ = hp E0 [] (N0 + 29)) (by decide) (fun K hK => ?_) ?_
 ·
  simp only [pickL, nthO_succ, nthO_zero]
  simp -dsimp -implicitDefEqProofs (maxDischargeDepth := 6)
  refine Pc.mk (c130 hr8) ?_; try simp -dsimp -implicitDefEqProofs (maxDischargeDepth := 6)
  refine Pc.mk (c154 hr9) ?_; try simp -dsimp -implicitDefEqProofs (maxDischargeDepth := 6)
  refine Pc.mk (c154 hr10) ?_; try simp -dsimp -implicitDefEqProofs (maxDischargeDepth := 6)
  exact hK _ _ ⟨rfl, rfl⟩
 rintro a σ ⟨rfl, rfl⟩
 replace H := Option.some.inj H; subst H
 refine AWP_kp [2] [(2, .int .i64 (iadd .i64 (iadd .i64 (iadd .i64 (iadd .i64 (iadd .i64 r3 r5) r7) r9) r10) 111))] rfl ?_
 refine AWP_ret ?_
 exact ⟨[.int .i64 (iadd .i64 (iadd .i64 (iadd .i64 (iadd .i64 (iadd .i64 r3 r5) r7) r9) r10) 111)], by simp, 4, by simp [encL_nil]⟩
theorem c158 {p0 : Int} {r : Int} (H : s_l42Seven p0 = some r) : APure Tryd.prog G 158 [.int .i64 p0] (.int .i64 r) := by
 refine APure_fn (fun N0 => ?_) (by simp)
 refine ACalls_fn tok Tryd.func158 (by kernel_rfl) rfl Tryd.ntmps158 Tryd.results158 rfl ?_
 simp only [argsA, Nat.reduceAdd, hp_next]
 unfold s_l42Seven at H
 refine AWP_sr tok [] [0] (fun a σ => a = [(0, .int .i64 p0)] ∧ σ = hp E0 [] (N0 + 1)) (fun K hK => ?_) ?_
 ·
  skip
  simp -dsimp -implicitDefEqProofs (maxDischargeDepth := 6)
  exact hK _ _ ⟨rfl, rfl⟩
 rintro a σ ⟨rfl, rfl⟩
 obtain ⟨v1, hv1, H⟩ := bindE H
 have q0 : ∀ σ i, buildSliceA T 24 true i 11 [(0, .int .i64 0), (1, .int .i64 32), (2, .int .i64 1), (3, .int .i64 1), (4, .int .i64 1), (5, .int .i64 0), (6, .int .i64 0), (7, .int .i64 0), (8, .int .i64 0), (9, .int .i64 32), (10, .int .i64 0)] σ = some (.fsl (encL rI ([0, 32, 1, 1, 1, 0, 0, 0, 0, 32, 0] : List Int)), σ) := fun _ _ => rfl
 refine AWP_sr tok [0] [2] (fun a σ => a = [(2, .int .i64 v1)] ∧ σ = hp E0 [] (N0 + 7)) (fun K hK => ?_) ?_
 ·
  skip
  simp -dsimp -implicitDefEqProofs (maxDischargeDepth := 6) [q0, ix24 hv1]
  exact hK _ _ ⟨rfl, rfl⟩
 rintro a σ ⟨rfl, rfl⟩
 replace H := Option.some.inj H; subst H
 refine AWP_kp [2] [(2, .int .i64 v1)] rfl ?_
 refine AWP_ret ?_
 exact ⟨[.int .i64 v1], by simp, 4, by simp [encL_nil]⟩
theorem c141 {p0 : gInstr} {r : Int} (H : s_l42Encode p0 = some r) : APure Tryd.prog G 141 [.agg [.int .i64 p0.Op, .int .i64 p0.Rd, .int .i64 p0.Rs, .int .i64 p0.Rt, .int .i64 p0.Imm]] (.int .i64 r) := by
 refine APure_fn (fun N0 => ?_) (by simp)
 refine ACalls_fn tok Tryd.func141 (by kernel_rfl) rfl Tryd.ntmps141 Tryd.results141 rfl ?_
 simp only [argsA, Nat.reduceAdd, hp_next]
 unfold s_l42Encode at H
 refine AWP_sr tok [0] [1] (fun a σ => a = [(1, .fptr [.int .i64 p0.Op, .int .i64 p0.Rd, .int .i64 p0.Rs, .int .i64 p0.Rt, .int .i64 p0.Imm] 0)] ∧ σ = hp E0 [] (N0 + 2)) (fun K hK => ?_) ?_
 ·
  skip
  simp -dsimp -implicitDefEqProofs (maxDischargeDepth := 6)
  exact hK _ _ ⟨rfl, rfl⟩
 rintro a σ ⟨rfl, rfl⟩
 refine AWP_sq [1] fun K1 hK1 => ?_
 refine AWP_sr tok [] [1, 5] (fun a σ => a = [(1, .fptr [.int .i64 p0.Op, .int .i64 p0.Rd, .int .i64 p0.Rs, .int .i64 p0.Rt, .int .i64 p0.Imm] 0), (5, .int .i64 p0.Op)] ∧ σ = hp E0 [] (N0 + 4)) (fun K hK => ?_) ?_
 ·
  skip
  simp -dsimp -implicitDefEqProofs (maxDischargeDepth := 6)
  exact hK _ _ ⟨rfl, rfl⟩
 rintro a σ ⟨rfl, rfl⟩
 refine AWP_block (AWP_thenB ?_)
 obtain ⟨j1, hj1, H⟩ := bindE H
 refine AWP_seq (AWP_named fun K3 hK3 => ?_)
 have hJ1 : ∀ a σ, Rc G 74 N0 (fun a σ => ∃ M1 : Nat, N0 ≤ M1 ∧ a = [(1, .fptr [.int .i64 p0.Op, .int .i64 p0.Rd, .int .i64 p0.Rs, .int .i64 p0.Rt, .int .i64 p0.Imm] 0), (5, .int .i64 p0.Op), (6, .bool j1)] ∧ σ = hp E0 [] M1) (a.keep [1, 5, 6]) σ → K3 a σ := by
  rintro a σ ⟨b, τ, hr, M1, fM1_0, rfl, rfl⟩
  refine hK3 _ _ (AWP_keep [1, 5, 6] (AWP_ref hr ?_))
  refine AWP_cond j1 rfl (fun C1 => ?_) (fun C1 => ?_)
  ·
   replace H := ifT C1 H
   obtain ⟨r2, hr2, H⟩ := bindE H
   refine AWP_sr tok [] [2] (fun a σ => a = [(2, .int .i64 r2)] ∧ σ = hp E0 [] (M1 + 3)) (fun K hK => ?_) ?_
   ·
    skip
    simp -dsimp -implicitDefEqProofs (maxDischargeDepth := 6)
    refine (c152 hr2).app ?_; try simp -dsimp -implicitDefEqProofs (maxDischargeDepth := 6)
    exact hK _ _ ⟨rfl, rfl⟩
   rintro a σ ⟨rfl, rfl⟩
   replace H := Option.some.inj H; subst H
   refine AWP_kp [2] [(2, .int .i64 r2)] rfl ?_
   refine AWP_ret ?_
   exact ⟨[.int .i64 r2], by simp, 4, by simp [encL_nil]⟩
  ·
   replace H := ifF C1 H
   refine AWP_sr tok [] [1, 5, 11] (fun a σ => a = [(1, .fptr [.int .i64 p0.Op, .int .i64 p0.Rd, .int .i64 p0.Rs, .int .i64 p0.Rt, .int .i64 p0.Imm] 0), (5, .int .i64 p0.Op), (11, .bool (ieq p0.Op 14))] ∧ σ = hp E0 [] (M1 + 2)) (fun K hK => ?_) ?_
   ·
    skip
    simp -dsimp -implicitDefEqProofs (maxDischargeDepth := 6)
    exact hK _ _ ⟨rfl, rfl⟩
   rintro a σ ⟨rfl, rfl⟩
   refine AWP_cond (ieq p0.Op 14) rfl (fun C2 => ?_) (fun C2 => ?_)
   ·
    replace H := ifT C2 H
    obtain ⟨r3, hr3, H⟩ := bindE H
    refine AWP_sr tok [] [2] (fun a σ => a = [(2, .int .i64 r3)] ∧ σ = hp E0 [] (M1 + 5)) (fun K hK => ?_) ?_
    ·
     skip
     simp -dsimp -implicitDefEqProofs (maxDischargeDepth := 6)
     refine (c152 hr3).app ?_; try simp -dsimp -implicitDefEqProofs (maxDischargeDepth := 6)
     exact hK _ _ ⟨rfl, rfl⟩
    rintro a σ ⟨rfl, rfl⟩
    replace H := Option.some.inj H; subst H
    refine AWP_kp [2] [(2, .int .i64 r3)] rfl ?_
    refine AWP_ret ?_
    exact ⟨[.int .i64 r3], by simp, 4, by simp [encL_nil]⟩
   ·
    replace H := ifF C2 H
    refine AWP_sr tok [] [1, 5, 15] (fun a σ => a = [(1, .fptr [.int .i64 p0.Op, .int .i64 p0.Rd, .int .i64 p0.Rs, .int .i64 p0.Rt, .int .i64 p0.Imm] 0), (5, .int .i64 p0.Op), (15, .bool (ieq p0.Op 15))] ∧ σ = hp E0 [] (M1 + 4)) (fun K hK => ?_) ?_
    ·
     skip
     simp -dsimp -implicitDefEqProofs (maxDischargeDepth := 6)
     exact hK _ _ ⟨rfl, rfl⟩
    rintro a σ ⟨rfl, rfl⟩
    refine AWP_cond (ieq p0.Op 15) rfl (fun C3 => ?_) (fun C3 => ?_)
    ·
     replace H := ifT C3 H
     obtain ⟨r4, hr4, H⟩ := bindE H
     refine AWP_sr tok [] [2] (fun a σ => a = [(2, .int .i64 r4)] ∧ σ = hp E0 [] (M1 + 7)) (fun K hK => ?_) ?_
     ·
      skip
      simp -dsimp -implicitDefEqProofs (maxDischargeDepth := 6)
      refine (c152 hr4).app ?_; try simp -dsimp -implicitDefEqProofs (maxDischargeDepth := 6)
      exact hK _ _ ⟨rfl, rfl⟩
     rintro a σ ⟨rfl, rfl⟩
     replace H := Option.some.inj H; subst H
     refine AWP_kp [2] [(2, .int .i64 r4)] rfl ?_
     refine AWP_ret ?_
     exact ⟨[.int .i64 r4], by simp, 4, by simp [encL_nil]⟩
    ·
     replace H := ifF C3 H
     refine AWP_sr tok [] [1, 5, 19] (fun a σ => a = [(1, .fptr [.int .i64 p0.Op, .int .i64 p0.Rd, .int .i64 p0.Rs, .int .i64 p0.Rt, .int .i64 p0.Imm] 0), (5, .int .i64 p0.Op), (19, .bool (ieq p0.Op 16))] ∧ σ = hp E0 [] (M1 + 6)) (fun K hK => ?_) ?_
     ·
      skip
      simp -dsimp -implicitDefEqProofs (maxDischargeDepth := 6)
      exact hK _ _ ⟨rfl, rfl⟩
     rintro a σ ⟨rfl, rfl⟩
     refine AWP_cond (ieq p0.Op 16) rfl (fun C4 => ?_) (fun C4 => ?_)
     ·
      replace H := ifT C4 H
      obtain ⟨r5, hr5, H⟩ := bindE H
      refine AWP_sr tok [] [1, 3] (fun a σ => a = [(1, .fptr [.int .i64 p0.Op, .int .i64 p0.Rd, .int .i64 p0.Rs, .int .i64 p0.Rt, .int .i64 p0.Imm] 0), (3, .int .i64 r5)] ∧ σ = hp E0 [] (M1 + 10)) (fun K hK => ?_) ?_
      ·
       skip
       simp -dsimp -implicitDefEqProofs (maxDischargeDepth := 6)
       refine (c153 hr5).app ?_; try simp -dsimp -implicitDefEqProofs (maxDischargeDepth := 6)
       exact hK _ _ ⟨rfl, rfl⟩
      rintro a σ ⟨rfl, rfl⟩
      obtain ⟨r6, hr6, H⟩ := bindE H
      obtain ⟨r7, hr7, H⟩ := bindE H
      obtain ⟨r8, hr8, H⟩ := bindE H
      obtain ⟨r9, hr9, H⟩ := bindE H
      obtain ⟨r10, hr10, H⟩ := bindE H
      obtain ⟨r11, hr11, H⟩ := bindE H
      refine AWP_sd tok tokM [] [] [0, 1, 2, 3, 4, 5, 6, 7, 8, 9, 10, 11, 12, 13, 14] [2] (fun a σ => a = [(2, .int .i64 (iadd .i64 (iadd .i64 (iadd .i64 r7 r8) r9) r11))] ∧ σ = hp E0 [] (M1 + 25)) (by decide) (fun K hK => ?_) ?_
      ·
       simp only [pickL, nthO_succ, nthO_zero]
       simp -dsimp -implicitDefEqProofs (maxDischargeDepth := 6)
       refine Pc.mk (c130 hr6) ?_; try simp -dsimp -implicitDefEqProofs (maxDischargeDepth := 6)
       refine Pc.mk (c154 hr7) ?_; try simp -dsimp -implicitDefEqProofs (maxDischargeDepth := 6)
       refine Pc.mk (c154 hr8) ?_; try simp -dsimp -implicitDefEqProofs (maxDischargeDepth := 6)
       refine Pc.mk (c155 hr9) ?_; try simp -dsimp -implicitDefEqProofs (maxDischargeDepth := 6)
       refine Pc.mk (c130 hr10) ?_; try simp -dsimp -implicitDefEqProofs (maxDischargeDepth := 6)
       refine Pc.mk (c154 hr11) ?_; try simp -dsimp -implicitDefEqProofs (maxDischargeDepth := 6)
       exact hK _ _ ⟨rfl, rfl⟩
      rintro a σ ⟨rfl, rfl⟩
      replace H := Option.some.inj H; subst H
      refine AWP_kp [2] [(2, .int .i64 (iadd .i64 (iadd .i64 (iadd .i64 r7 r8) r9) r11))] rfl ?_
      refine AWP_ret ?_
      exact ⟨[.int .i64 (iadd .i64 (iadd .i64 (iadd .i64 r7 r8) r9) r11)], by simp, 4, by simp [encL_nil]⟩
     ·
      replace H := ifF C4 H
      obtain ⟨j2, hj2, H⟩ := bindE H
      refine AWP_seq (AWP_named fun K2 hK2 => ?_)
      have hJ2 : ∀ a σ, Rc G 74 N0 (fun a σ => ∃ M2 : Nat, N0 ≤ M2 ∧ a = [(1, .fptr [.int .i64 p0.Op, .int .i64 p0.Rd, .int .i64 p0.Rs, .int .i64 p0.Rt, .int .i64 p0.Imm] 0), (5, .int .i64 p0.Op), (38, .bool j2)] ∧ σ = hp E0 [] M2) (a.keep [1, 5, 38]) σ → K2 a σ := by
       rintro a σ ⟨b, τ, hr, M2, fM2_0, rfl, rfl⟩
       refine hK2 _ _ (AWP_keep [1, 5, 38] (AWP_ref hr ?_))
       refine AWP_cond j2 rfl (fun C5 => ?_) (fun C5 => ?_)
       ·
        replace H := ifT C5 H
        obtain ⟨r13, hr13, H⟩ := bindE H
        refine AWP_sr tok [] [2] (fun a σ => a = [(2, .int .i64 r13)] ∧ σ = hp E0 [] (M2 + 3)) (fun K hK => ?_) ?_
        ·
         skip
         simp -dsimp -implicitDefEqProofs (maxDischargeDepth := 6)
         refine (c156 hr13).app ?_; try simp -dsimp -implicitDefEqProofs (maxDischargeDepth := 6)
         exact hK _ _ ⟨rfl, rfl⟩
        rintro a σ ⟨rfl, rfl⟩
        replace H := Option.some.inj H; subst H
        refine AWP_kp [2] [(2, .int .i64 r13)] rfl ?_
        refine AWP_ret ?_
        exact ⟨[.int .i64 r13], by simp, 4, by simp [encL_nil]⟩
       ·
        replace H := ifF C5 H
        refine AWP_sr tok [] [1, 5, 43] (fun a σ => a = [(1, .fptr [.int .i64 p0.Op, .int .i64 p0.Rd, .int .i64 p0.Rs, .int .i64 p0.Rt, .int .i64 p0.Imm] 0), (5, .int .i64 p0.Op), (43, .bool (ieq p0.Op 19))] ∧ σ = hp E0 [] (M2 + 2)) (fun K hK => ?_) ?_
        ·
         skip
         simp -dsimp -implicitDefEqProofs (maxDischargeDepth := 6)
         exact hK _ _ ⟨rfl, rfl⟩
        rintro a σ ⟨rfl, rfl⟩
        refine AWP_cond (ieq p0.Op 19) rfl (fun C6 => ?_) (fun C6 => ?_)
        ·
         replace H := ifT C6 H
         obtain ⟨r14, hr14, H⟩ := bindE H
         obtain ⟨r15, hr15, H⟩ := bindE H
         refine AWP_sd tok tokM [] [] [0, 1, 2, 3, 4, 5, 6, 7, 8] [2] (fun a σ => a = [(2, .int .i64 (iadd .i64 (iadd .i64 r14 r15) 55))] ∧ σ = hp E0 [] (M2 + 11)) (by decide) (fun K hK => ?_) ?_
         ·
          simp only [pickL, nthO_succ, nthO_zero]
          simp -dsimp -implicitDefEqProofs (maxDischargeDepth := 6)
          refine Pc.mk (c154 hr14) ?_; try simp -dsimp -implicitDefEqProofs (maxDischargeDepth := 6)
          refine Pc.mk (c154 hr15) ?_; try simp -dsimp -implicitDefEqProofs (maxDischargeDepth := 6)
          exact hK _ _ ⟨rfl, rfl⟩
         rintro a σ ⟨rfl, rfl⟩
         replace H := Option.some.inj H; subst H
         refine AWP_kp [2] [(2, .int .i64 (iadd .i64 (iadd .i64 r14 r15) 55))] rfl ?_
         refine AWP_ret ?_
         exact ⟨[.int .i64 (iadd .i64 (iadd .i64 r14 r15) 55)], by simp, 4, by simp [encL_nil]⟩
        ·
         replace H := ifF C6 H
         refine AWP_sr tok [] [1, 5, 53] (fun a σ => a = [(1, .fptr [.int .i64 p0.Op, .int .i64 p0.Rd, .int .i64 p0.Rs, .int .i64 p0.Rt, .int .i64 p0.Imm] 0), (5, .int .i64 p0.Op), (53, .bool (ieq p0.Op 20))] ∧ σ = hp E0 [] (M2 + 4)) (fun K hK => ?_) ?_
         ·
          skip
          simp -dsimp -implicitDefEqProofs (maxDischargeDepth := 6)
          exact hK _ _ ⟨rfl, rfl⟩
         rintro a σ ⟨rfl, rfl⟩
         refine AWP_cond (ieq p0.Op 20) rfl (fun C7 => ?_) (fun C7 => ?_)
         ·
          replace H := ifT C7 H
          obtain ⟨r16, hr16, H⟩ := bindE H
          refine AWP_sr tok [] [2] (fun a σ => a = [(2, .int .i64 r16)] ∧ σ = hp E0 [] (M2 + 7)) (fun K hK => ?_) ?_
          ·
           skip
           simp -dsimp -implicitDefEqProofs (maxDischargeDepth := 6)
           refine (c157 hr16).app ?_; try simp -dsimp -implicitDefEqProofs (maxDischargeDepth := 6)
           exact hK _ _ ⟨rfl, rfl⟩
          rintro a σ ⟨rfl, rfl⟩
          replace H := Option.some.inj H; subst H
          refine AWP_kp [2] [(2, .int .i64 r16)] rfl ?_
          refine AWP_ret ?_
          exact ⟨[.int .i64 r16], by simp, 4, by simp [encL_nil]⟩
         ·
          replace H := ifF C7 H
          refine AWP_sr tok [] [1, 57] (fun a σ => a = [(1, .fptr [.int .i64 p0.Op, .int .i64 p0.Rd, .int .i64 p0.Rs, .int .i64 p0.Rt, .int .i64 p0.Imm] 0), (57, .bool (ieq p0.Op 21))] ∧ σ = hp E0 [] (M2 + 6)) (fun K hK => ?_) ?_
          ·
           skip
           simp -dsimp -implicitDefEqProofs (maxDischargeDepth := 6)
           exact hK _ _ ⟨rfl, rfl⟩
          rintro a σ ⟨rfl, rfl⟩
          refine AWP_cond (ieq p0.Op 21) rfl (fun C8 => ?_) (fun C8 => ?_)
          ·
           replace H := ifT C8 H
           refine AWP_sr tok [] [2] (fun a σ => a = [(2, .int .i64 115)] ∧ σ = hp E0 [] (M2 + 7)) (fun K hK => ?_) ?_
           ·
            skip
            simp -dsimp -implicitDefEqProofs (maxDischargeDepth := 6)
            exact hK _ _ ⟨rfl, rfl⟩
           rintro a σ ⟨rfl, rfl⟩
           replace H := Option.some.inj H; subst H
           refine AWP_kp [2] [(2, .int .i64 115)] rfl ?_
           refine AWP_ret ?_
           exact ⟨[.int .i64 115], by simp, 4, by simp [encL_nil]⟩
          ·
           replace H := ifF C8 H
           refine AWP_skip ?_
           show K1 _ _
           refine keepE (l := [1]) (x := [(1, .fptr [.int .i64 p0.Op, .int .i64 p0.Rd, .int .i64 p0.Rs, .int .i64 p0.Rt, .int .i64 p0.Imm] 0)]) rfl fun a' ha => ?_
           refine hK1 _ _ ?_; rw [ha]
           refine Rc.mk ?_
           obtain ⟨r17, hr17, H⟩ := bindE H
           obtain ⟨r18, hr18, H⟩ := bindE H
           obtain ⟨r19, hr19, H⟩ := bindE H
           obtain ⟨r20, hr20, H⟩ := bindE H
           obtain ⟨r21, hr21, H⟩ := bindE H
           refine AWP_sd tok tokM [] [] [0, 1, 2, 3, 4, 5, 6, 7, 8, 9, 10, 11, 12, 13, 14, 15] [2] (fun a σ => a = [(2, .int .i64 (iadd .i64 (iadd .i64 (iadd .i64 r18 r19) r20) r21))] ∧ σ = hp E0 [] (M2 + 22)) (by decide) (fun K hK => ?_) ?_
           ·
            simp only [pickL, nthO_succ, nthO_zero]
            simp -dsimp -implicitDefEqProofs (maxDischargeDepth := 6)
            refine Pc.mk (c158 hr17) ?_; try simp -dsimp -implicitDefEqProofs (maxDischargeDepth := 6)
            refine Pc.mk (c154 hr18) ?_; try simp -dsimp -implicitDefEqProofs (maxDischargeDepth := 6)
            refine Pc.mk (c154 hr19) ?_; try simp -dsimp -implicitDefEqProofs (maxDischargeDepth := 6)
            refine Pc.mk (c155 hr20) ?_; try simp -dsimp -implicitDefEqProofs (maxDischargeDepth := 6)
            refine Pc.mk (c154 hr21) ?_; try simp -dsimp -implicitDefEqProofs (maxDischargeDepth := 6)
            exact hK _ _ ⟨rfl, rfl⟩
           rintro a σ ⟨rfl, rfl⟩
           replace H := Option.some.inj H; subst H
           refine AWP_kp [2] [(2, .int .i64 (iadd .i64 (iadd .i64 (iadd .i64 r18 r19) r20) r21))] rfl ?_
           refine AWP_ret ?_
           exact ⟨[.int .i64 (iadd .i64 (iadd .i64 (iadd .i64 r18 r19) r20) r21)], by simp, 4, by simp [encL_nil]⟩
      replace H := hj2
      refine AWP_sr tok [] [1, 5, 38] (fun a σ => a = [(1, .fptr [.int .i64 p0.Op, .int .i64 p0.Rd, .int .i64 p0.Rs, .int .i64 p0.Rt, .int .i64 p0.Imm] 0), (5, .int .i64 p0.Op), (38, .bool (ieq p0.Op 17))] ∧ σ = hp E0 [] (M1 + 8)) (fun K hK => ?_) ?_
      ·
       skip
       simp -dsimp -implicitDefEqProofs (maxDischargeDepth := 6)
       exact hK _ _ ⟨rfl, rfl⟩
      rintro a σ ⟨rfl, rfl⟩
      refine AWP_cond (ieq p0.Op 17) rfl (fun C9 => ?_) (fun C9 => ?_)
      ·
       replace H := ifT C9 H
       refine AWP_skip ?_
       show K2 _ _
       refine keepE (l := [1, 5, 38]) (x := [(1, .fptr [.int .i64 p0.Op, .int .i64 p0.Rd, .int .i64 p0.Rs, .int .i64 p0.Rt, .int .i64 p0.Imm] 0), (5, .int .i64 p0.Op), (38, .bool (ieq p0.Op 17))]) rfl fun a' ha => ?_
       replace H := Option.some.inj H; subst H
       refine hJ2 _ _ ?_; rw [ha]
       exact Rc.fin (AHeap.Sub.refl _) ⟨M1 + 8, (by omega), rfl, rfl⟩
      ·
       replace H := ifF C9 H
       refine AWP_rt tok [] [1, 5, 38] (fun a σ => a = [(1, .fptr [.int .i64 p0.Op, .int .i64 p0.Rd, .int .i64 p0.Rs, .int .i64 p0.Rt, .int .i64 p0.Imm] 0), (5, .int .i64 p0.Op), (38, .bool (ieq p0.Op 18))] ∧ σ = hp E0 [] (M1 + 10)) (fun K hK => ?_) ?_
       ·
        skip
        simp -dsimp -implicitDefEqProofs (maxDischargeDepth := 6)
        exact hK _ _ ⟨rfl, rfl⟩
       rintro a σ ⟨ha, rfl⟩
       replace H := Option.some.inj H; subst H
       refine hJ2 _ _ ?_; rw [ha]
       exact Rc.fin (AHeap.Sub.refl _) ⟨M1 + 10, (by omega), rfl, rfl⟩
 replace H := hj1
 refine AWP_sr tok [] [1, 5, 6] (fun a σ => a = [(1, .fptr [.int .i64 p0.Op, .int .i64 p0.Rd, .int .i64 p0.Rs, .int .i64 p0.Rt, .int .i64 p0.Imm] 0), (5, .int .i64 p0.Op), (6, .bool (ieq p0.Op 12))] ∧ σ = hp E0 [] (N0 + 6)) (fun K hK => ?_) ?_
 ·
  skip
  simp -dsimp -implicitDefEqProofs (maxDischargeDepth := 6)
  exact hK _ _ ⟨rfl, rfl⟩
 rintro a σ ⟨rfl, rfl⟩
 refine AWP_cond (ieq p0.Op 12) rfl (fun C10 => ?_) (fun C10 => ?_)
 ·
  replace H := ifT C10 H
  refine AWP_skip ?_
  show K3 _ _
  refine keepE (l := [1, 5, 6]) (x := [(1, .fptr [.int .i64 p0.Op, .int .i64 p0.Rd, .int .i64 p0.Rs, .int .i64 p0.Rt, .int .i64 p0.Imm] 0), (5, .int .i64 p0.Op), (6, .bool (ieq p0.Op 12))]) rfl fun a' ha => ?_
  replace H := Option.some.inj H; subst H
  refine hJ1 _ _ ?_; rw [ha]
  exact Rc.fin (AHeap.Sub.refl _) ⟨N0 + 6, (by omega), rfl, rfl⟩
 ·
  replace H := ifF C10 H
  refine AWP_rt tok [] [1, 5, 6] (fun a σ => a = [(1, .fptr [.int .i64 p0.Op, .int .i64 p0.Rd, .int .i64 p0.Rs, .int .i64 p0.Rt, .int .i64 p0.Imm] 0), (5, .int .i64 p0.Op), (6, .bool (ieq p0.Op 13))] ∧ σ = hp E0 [] (N0 + 8)) (fun K hK => ?_) ?_
  ·
   skip
   simp -dsimp -implicitDefEqProofs (maxDischargeDepth := 6)
   exact hK _ _ ⟨rfl, rfl⟩
  rintro a σ ⟨ha, rfl⟩
  replace H := Option.some.inj H; subst H
  refine hJ1 _ _ ?_; rw [ha]
  exact Rc.fin (AHeap.Sub.refl _) ⟨N0 + 8, (by omega), rfl, rfl⟩
theorem c101 {p0 : gInstr} {r : Int × Bool} (H : s_InstrEncode p0 = some r) : APure Tryd.prog G 101 [.agg [.int .i64 p0.Op, .int .i64 p0.Rd, .int .i64 p0.Rs, .int .i64 p0.Rt, .int .i64 p0.Imm]] (.tup [.int .i64 r.1, .bool r.2]) := by
 refine APure_fn (fun N0 => ?_) (by simp)
 refine ACalls_fn tok Tryd.func101 (by kernel_rfl) rfl Tryd.ntmps101 Tryd.results101 rfl ?_
 simp only [argsA, Nat.reduceAdd, hp_next]
 unfold s_InstrEncode at H
 refine AWP_sr tok [0] [1] (fun a σ => a = [(1, .fptr [.int .i64 p0.Op, .int .i64 p0.Rd, .int .i64 p0.Rs, .int .i64 p0.Rt, .int .i64 p0.Imm] 0)] ∧ σ = hp E0 [] (N0 + 3)) (fun K hK => ?_) ?_
 ·
  skip
  simp -dsimp -implicitDefEqProofs (maxDischargeDepth := 6)
  exact hK _ _ ⟨rfl, rfl⟩
 rintro a σ ⟨rfl, rfl⟩
 refine AWP_sq [1] fun K1 hK1 => ?_
 obtain ⟨r1, hr1, H⟩ := bindE H
 refine AWP_sr tok [] [1, 6] (fun a σ => a = [(1, .fptr [.int .i64 p0.Op, .int .i64 p0.Rd, .int .i64 p0.Rs, .int .i64 p0.Rt, .int .i64 p0.Imm] 0), (6, .bool (bnot r1))] ∧ σ = hp E0 [] (N0 + 6)) (fun K hK => ?_) ?_
 ·
  skip
  simp -dsimp -implicitDefEqProofs (maxDischargeDepth := 6)
  refine (c140 hr1).app ?_; try simp -dsimp -implicitDefEqProofs (maxDischargeDepth := 6)
  exact hK _ _ ⟨rfl, rfl⟩
 rintro a σ ⟨rfl, rfl⟩
 refine AWP_cond (bnot r1) rfl (fun C1 => ?_) (fun C1 => ?_)
 ·
  replace H := ifT C1 H
  refine AWP_sr tok [] [2, 3] (fun a σ => a = [(2, .int .i64 0), (3, .bool false)] ∧ σ = hp E0 [] (N0 + 8)) (fun K hK => ?_) ?_
  ·
   skip
   simp -dsimp -implicitDefEqProofs (maxDischargeDepth := 6)
   exact hK _ _ ⟨rfl, rfl⟩
  rintro a σ ⟨rfl, rfl⟩
  replace H := Option.some.inj H; subst H
  refine AWP_kp [2, 3] [(2, .int .i64 0), (3, .bool false)] rfl ?_
  refine AWP_ret ?_
  exact ⟨[.int .i64 0, .bool false], by simp, 4, by simp [encL_nil]⟩
 ·
  replace H := ifF C1 H
  refine AWP_skip ?_
  show K1 _ _
  refine keepE (l := [1]) (x := [(1, .fptr [.int .i64 p0.Op, .int .i64 p0.Rd, .int .i64 p0.Rs, .int .i64 p0.Rt, .int .i64 p0.Imm] 0)]) rfl fun a' ha => ?_
  refine hK1 _ _ ?_; rw [ha]
  refine Rc.mk ?_
  obtain ⟨r2, hr2, H⟩ := bindE H
  refine AWP_sr tok [] [2, 3] (fun a σ => a = [(2, .int .i64 r2), (3, .bool true)] ∧ σ = hp E0 [] (N0 + 10)) (fun K hK => ?_) ?_
  ·
   skip
   simp -dsimp -implicitDefEqProofs (maxDischargeDepth := 6)
   refine (c141 hr2).app ?_; try simp -dsimp -implicitDefEqProofs (maxDischargeDepth := 6)
   exact hK _ _ ⟨rfl, rfl⟩
  rintro a σ ⟨rfl, rfl⟩
  replace H := Option.some.inj H; subst H
  refine AWP_kp [2, 3] [(2, .int .i64 r2), (3, .bool true)] rfl ?_
  refine AWP_ret ?_
  exact ⟨[.int .i64 r2, .bool true], by simp, 4, by simp [encL_nil]⟩
theorem c102 {p0 : Int} {r : Int} (H : s_Wrap p0 = some r) : APure Tryd.prog G 102 [.int .i64 p0] (.int .i64 r) := by
 refine APure_fn (fun N0 => ?_) (by simp)
 refine ACalls_fn tok Tryd.func102 (by kernel_rfl) rfl Tryd.ntmps102 Tryd.results102 rfl ?_
 simp only [argsA, Nat.reduceAdd, hp_next]
 unfold s_Wrap at H
 refine AWP_sr tok [] [0] (fun a σ => a = [(0, .int .i64 p0)] ∧ σ = hp E0 [] (N0 + 1)) (fun K hK => ?_) ?_
 ·
  skip
  simp -dsimp -implicitDefEqProofs (maxDischargeDepth := 6)
  exact hK _ _ ⟨rfl, rfl⟩
 rintro a σ ⟨rfl, rfl⟩
 obtain ⟨v1, hv1, H⟩ := bindE H
 refine AWP_sr tok [] [3] (fun a σ => a = [(3, .int .i64 v1)] ∧ σ = hp E0 [] (N0 + 4)) (fun K hK => ?_) ?_
 ·
  skip
  simp -dsimp -implicitDefEqProofs (maxDischargeDepth := 6) [hv1]
  exact hK _ _ ⟨rfl, rfl⟩
 rintro a σ ⟨rfl, rfl⟩
 refine AWP_sq [3] fun K1 hK1 => ?_
 refine AWP_sr tok [] [3, 7] (fun a σ => a = [(3, .int .i64 v1), (7, .bool (igt v1 2147483647))] ∧ σ = hp E0 [] (N0 + 6)) (fun K hK => ?_) ?_
 ·
  skip
  simp -dsimp -implicitDefEqProofs (maxDischargeDepth := 6)
  exact hK _ _ ⟨rfl, rfl⟩
 rintro a σ ⟨rfl, rfl⟩
 refine AWP_cond (igt v1 2147483647) rfl (fun C1 => ?_) (fun C1 => ?_)
 ·
  replace H := ifT C1 H
  refine AWP_sr tok [] [2] (fun a σ => a = [(2, .int .i64 (isub .i64 v1 4294967296))] ∧ σ = hp E0 [] (N0 + 9)) (fun K hK => ?_) ?_
  ·
   skip
   simp -dsimp -implicitDefEqProofs (maxDischargeDepth := 6)
   exact hK _ _ ⟨rfl, rfl⟩
  rintro a σ ⟨rfl, rfl⟩
  replace H := Option.some.inj H; subst H
  refine AWP_kp [2] [(2, .int .i64 (isub .i64 v1 4294967296))] rfl ?_
  refine AWP_ret ?_
  exact ⟨[.int .i64 (isub .i64 v1 4294967296)], by simp, 4, by simp [encL_nil]⟩
 ·
  replace H := ifF C1 H
  refine AWP_skip ?_
  show K1 _ _
  refine keepE (l := [3]) (x := [(3, .int .i64 v1)]) rfl fun a' ha => ?_
  refine hK1 _ _ ?_; rw [ha]
  refine Rc.mk ?_
  refine AWP_sq [3] fun K2 hK2 => ?_
  refine AWP_sr tok [] [3, 11] (fun a σ => a = [(3, .int .i64 v1), (11, .bool (ilt v1 (-2147483648)))] ∧ σ = hp E0 [] (N0 + 8)) (fun K hK => ?_) ?_
  ·
   skip
   simp -dsimp -implicitDefEqProofs (maxDischargeDepth := 6)
   exact hK _ _ ⟨rfl, rfl⟩
  rintro a σ ⟨rfl, rfl⟩
  refine AWP_cond (ilt v1 (-2147483648)) rfl (fun C2 => ?_) (fun C2 => ?_)
  ·
   replace H := ifT C2 H
   refine AWP_sr tok [] [2] (fun a σ => a = [(2, .int .i64 (iadd .i64 v1 4294967296))] ∧ σ = hp E0 [] (N0 + 11)) (fun K hK => ?_) ?_
   ·
    skip
    simp -dsimp -implicitDefEqProofs (maxDischargeDepth := 6)
    exact hK _ _ ⟨rfl, rfl⟩
   rintro a σ ⟨rfl, rfl⟩
   replace H := Option.some.inj H; subst H
   refine AWP_kp [2] [(2, .int .i64 (iadd .i64 v1 4294967296))] rfl ?_
   refine AWP_ret ?_
   exact ⟨[.int .i64 (iadd .i64 v1 4294967296)], by simp, 4, by simp [encL_nil]⟩
  ·
   replace H := ifF C2 H
   refine AWP_skip ?_
   show K2 _ _
   refine keepE (l := [3]) (x := [(3, .int .i64 v1)]) rfl fun a' ha => ?_
   refine hK2 _ _ ?_; rw [ha]
   refine Rc.mk ?_
   refine AWP_sr tok [] [2] (fun a σ => a = [(2, .int .i64 v1)] ∧ σ = hp E0 [] (N0 + 10)) (fun K hK => ?_) ?_
   ·
    skip
    simp -dsimp -implicitDefEqProofs (maxDischargeDepth := 6)
    exact hK _ _ ⟨rfl, rfl⟩
   rintro a σ ⟨rfl, rfl⟩
   replace H := Option.some.inj H; subst H
   refine AWP_kp [2] [(2, .int .i64 v1)] rfl ?_
   refine AWP_ret ?_
   exact ⟨[.int .i64 v1], by simp, 4, by simp [encL_nil]⟩
theorem c60_o {p0 : (List Int)} {p1 : (List gInstr)} {r : (List Int) × Bool} (H : s_l45Code_o p0 p1 = some r) {σ : AHeap} {w0 : Nat} (q0 : σ.objs w0 = some ⟨3, 1, encL rI p0⟩) : ACalls Tryd.prog G 60 [.sl w0 0 p0.length, .fsl (encL rInstr p1)] σ (fun v σ' => ∃ M n0 : Nat, σ.next ≤ M ∧ σ.next ≤ n0 ∧ n0 < M ∧ v = .tup [.sl n0 0 r.1.length, .bool r.2] ∧ σ' = hp σ.objs [(n0, some ⟨3, 1, encL rI r.1⟩), (w0, none)] M) := by
 refine ACalls_fr (L := [(w0, some ⟨3, 1, encL rI p0⟩)]) (Q1 := fun v σ' => ∃ M n0 : Nat, σ.next ≤ M ∧ σ.next ≤ n0 ∧ n0 < M ∧ v = .tup [.sl n0 0 r.1.length, .bool r.2] ∧ σ' = hp E0 [(n0, some ⟨3, 1, encL rI r.1⟩), (w0, none)] M) (by simp [q0]) (fun hlt => ?_) ?_ ⟨_, Tryd.func60, rfl, rfl⟩
 rotate_left
 ·
  rintro v σ1 ⟨M, n0, h0, h1, h2, rfl, rfl⟩
  exact ⟨_, M, rfl, by simp, by simp; try omega, M, n0, h0, h1, h2, rfl, rfl⟩
 generalize σ.next = N0 at hlt ⊢
 have lw0 : w0 < N0 := hlt _ (.head _) rfl
 refine ACalls_fn tok Tryd.func60 (by kernel_rfl) rfl Tryd.ntmps60 Tryd.results60 rfl ?_
 simp only [argsA, Nat.reduceAdd, hp_next]
 unfold s_l45Code_o at H
 refine gRenS AWP_ref 0 (d := w0) (obd := ⟨3, 1, encL rI p0⟩) [(N0, some ⟨3, 1, encL rI p0⟩)] [(0, .sl N0 0 p0.length), (1, .fsl (encL rInstr p1))] rfl (by simp (disch := omega)) (by simp (disch := omega) <;> omega) (by simp (disch := omega)) [0, 1] rfl ?_
 refine AWP_sr tok [] [0, 1] (fun a σ => a = [(0, .sl N0 0 p0.length), (1, .fsl (encL rInstr p1))] ∧ σ = hp E0 [(N0, some ⟨3, 1, encL rI p0⟩)] (N0 + 3)) (fun K hK => ?_) ?_
 ·
  skip
  simp -dsimp -implicitDefEqProofs (maxDischargeDepth := 6)
  exact hK _ _ ⟨rfl, rfl⟩
 rintro a σ ⟨rfl, rfl⟩
 refine AWP_sq [0] fun K1 hK1 => ?_
 refine AWP_sr tok [] [0, 1, 6] (fun a σ => a = [(0, .sl N0 0 p0.length), (1, .fsl (encL rInstr p1)), (6, .int .i64 0)] ∧ σ = hp E0 [(N0, some ⟨3, 1, encL rI p0⟩)] (N0 + 4)) (fun K hK => ?_) ?_
 ·
  skip
  simp -dsimp -implicitDefEqProofs (maxDischargeDepth := 6)
  exact hK _ _ ⟨rfl, rfl⟩
 rintro a σ ⟨rfl, rfl⟩
 refine AWP_block (AWP_thenB ?_)
 obtain ⟨e1, hse1, H⟩ := bindE H
 refine AWP_lp [0, 1, 6] (fun s a σ => ∃ M1 o1 : Nat, N0 ≤ M1 ∧ N0 ≤ o1 ∧ o1 < M1 ∧ a = [(0, .sl o1 0 s.2.length), (1, .fsl (encL rInstr p1)), (6, .int .i64 s.1)] ∧ σ = hp E0 [(o1, some ⟨3, 1, encL rI s.2⟩)] M1) (fun e x a σ => match e with | .inl s => x = .exit 0 ∧ Rc G 32 N0 (fun a σ => ∃ M2 o2 : Nat, N0 ≤ M2 ∧ N0 ≤ o2 ∧ o2 < M2 ∧ a = [(0, .sl o2 0 s.length)] ∧ σ = hp E0 [(o2, some ⟨3, 1, encL rI s⟩)] M2) (AAct.keep a [0]) σ | .inr s => x = .ret ∧ ∃ vs, resA T σ a [.tmp 4, .tmp 5] = some vs ∧ ∃ M n0 : Nat, N0 ≤ M ∧ N0 ≤ n0 ∧ n0 < M ∧ (tupA vs) = .tup [.sl n0 0 s.1.length, .bool s.2] ∧ σ = hp E0 [(n0, some ⟨3, 1, encL rI s.1⟩), (w0, none)] M) hse1 ?_ ?_ ?_
 ·
  refine Rc.kp [0, 1, 6] [(0, .sl N0 0 p0.length), (1, .fsl (encL rInstr p1)), (6, .int .i64 0)] rfl ?_
  exact Rc.fin (AHeap.Sub.refl _) ⟨N0 + 4, N0, (by omega), (by omega), (by omega), rfl, rfl⟩
 ·
  clear H hse1
  rintro ⟨s1, s2⟩ fl a σ H ⟨M1, o1, fM1_0, fM1_1, fM1_2, rfl, rfl⟩ K2 O2 hK2 hO2
  unfold s_l45Code_o_L1 at H; dsimp only at H
  refine AWP_sq [0, 1, 6] fun K3 hK3 => ?_
  refine AWP_sr tok [] [0, 1, 6, 12] (fun a σ => a = [(0, .sl o1 0 s2.length), (1, .fsl (encL rInstr p1)), (6, .int .i64 s1), (12, .bool (ilt s1 (ilen p1)))] ∧ σ = hp E0 [(o1, some ⟨3, 1, encL rI s2⟩)] (M1 + 4)) (fun K hK => ?_) ?_
  ·
   skip
   simp -dsimp -implicitDefEqProofs (maxDischargeDepth := 6)
   exact hK _ _ ⟨rfl, rfl⟩
  rintro a σ ⟨rfl, rfl⟩
  refine AWP_cond (ilt s1 (ilen p1)) rfl (fun C1 => ?_) (fun C1 => ?_)
  ·
   replace H := ifT C1 H
   refine AWP_skip ?_
   show K3 _ _
   refine keepE (l := [0, 1, 6]) (x := [(0, .sl o1 0 s2.length), (1, .fsl (encL rInstr p1)), (6, .int .i64 s1)]) rfl fun a' ha => ?_
   refine hK3 _ _ ?_; rw [ha]
   refine Rc.mk ?_
   refine AWP_sq [0, 1, 6] fun K4 hK4 => ?_
   refine AWP_block (AWP_thenB ?_)
   obtain ⟨v4, hv4, H⟩ := bindE H
   obtain ⟨r5, hr5, H⟩ := bindE H
   refine AWP_sr tok [] [0, 1, 6, 7, 8] (fun a σ => a = [(0, .sl o1 0 s2.length), (1, .fsl (encL rInstr p1)), (6, .int .i64 s1), (7, .int .i64 r5.1), (8, .bool r5.2)] ∧ σ = hp E0 [(o1, some ⟨3, 1, encL rI s2⟩)] (M1 + 14)) (fun K hK => ?_) ?_
   ·
    skip
    simp -dsimp -implicitDefEqProofs (maxDischargeDepth := 6) [ix29 hv4]
    refine (c101 hr5).app ?_; try simp -dsimp -implicitDefEqProofs (maxDischargeDepth := 6) [ix29 hv4]
    exact hK _ _ ⟨rfl, rfl⟩
   rintro a σ ⟨rfl, rfl⟩
   refine AWP_sq [0, 1, 6, 7] fun K5 hK5 => ?_
   refine AWP_sr tok [] [0, 1, 6, 7, 24] (fun a σ => a = [(0, .sl o1 0 s2.length), (1, .fsl (encL rInstr p1)), (6, .int .i64 s1), (7, .int .i64 r5.1), (24, .bool (bnot r5.2))] ∧ σ = hp E0 [(o1, some ⟨3, 1, encL rI s2⟩)] (M1 + 16)) (fun K hK => ?_) ?_
   ·
    skip
    simp -dsimp -implicitDefEqProofs (maxDischargeDepth := 6)
    exact hK _ _ ⟨rfl, rfl⟩
   rintro a σ ⟨rfl, rfl⟩
   refine AWP_cond (bnot r5.2) rfl (fun C2 => ?_) (fun C2 => ?_)
   ·
    replace H := ifT C2 H
    refine AWP_sr tok [] [4, 5] (fun a σ => a = [(4, .sl o1 0 s2.length), (5, .bool false)] ∧ σ = hp E0 [(o1, some ⟨3, 1, encL rI s2⟩)] (M1 + 19)) (fun K hK => ?_) ?_
    ·
     skip
     simp -dsimp -implicitDefEqProofs (maxDischargeDepth := 6)
     exact hK _ _ ⟨rfl, rfl⟩
    rintro a σ ⟨rfl, rfl⟩
    replace H := Option.some.inj H; subst H
    refine AWP_kp [4, 5] [(4, .sl o1 0 s2.length), (5, .bool false)] rfl ?_
    refine AWP_ret (hO2 _ _ _ _ rfl ⟨rfl, ?_⟩)
    refine ⟨[.sl o1 0 s2.length, .bool false], by simp, M1 + 19, o1, by omega, by omega, by omega, ?_, ?_⟩
    ·
     simp [encL_nil]
    ·
     symm; first | exact hp_tail (L := [(o1, some ⟨3, 1, encL rI s2⟩)]) | (simp only [List.set_set]; exact hp_tail (L := [(o1, some ⟨3, 1, encL rI s2⟩)]))
   ·
    replace H := ifF C2 H
    refine AWP_skip ?_
    show K5 _ _
    refine keepE (l := [0, 1, 6, 7]) (x := [(0, .sl o1 0 s2.length), (1, .fsl (encL rInstr p1)), (6, .int .i64 s1), (7, .int .i64 r5.1)]) rfl fun a' ha => ?_
    refine hK5 _ _ ?_; rw [ha]
    refine Rc.mk ?_
    obtain ⟨r6, hr6, H⟩ := bindE H
    obtain ⟨l7, hl7, H⟩ := bindE H
    have q0 : ∀ σ i, buildSliceA T 24 true i 1 [(0, .int .i64 r6)] σ = some (.fsl (encL rI ([r6] : List Int)), σ) := fun _ _ => rfl
    refine AWP_rt tok [3] [0, 1, 6] (fun a σ => a = [(0, .sl (M1 + 20) 0 l7.length), (1, .fsl (encL rInstr p1)), (6, .int .i64 s1)] ∧ σ = hp E0 [(M1 + 20, some ⟨3, 1, encL rI l7⟩)] (M1 + 22)) (fun K hK => ?_) ?_
    ·
     skip
     have e0 := nq (a := o1) (b := M1 + 20) (by omega)
     simp -dsimp -implicitDefEqProofs (maxDischargeDepth := 6) [e0, q0, app24 hl7]
     refine (c102 hr6).app ?_; try simp -dsimp -implicitDefEqProofs (maxDischargeDepth := 6) [e0, q0, app24 hl7]
     exact hK _ _ ⟨rfl, rfl⟩
    rintro a σ ⟨ha, rfl⟩
    refine hK4 _ _ ?_; rw [ha]
    refine Rc.mk ?_
    refine AWP_rt tok [] [0, 1, 6] (fun a σ => a = [(0, .sl (M1 + 20) 0 l7.length), (1, .fsl (encL rInstr p1)), (6, .int .i64 (iadd .i64 s1 1))] ∧ σ = hp E0 [(M1 + 20, some ⟨3, 1, encL rI l7⟩)] (M1 + 25)) (fun K hK => ?_) ?_
    ·
     skip
     simp -dsimp -implicitDefEqProofs (maxDischargeDepth := 6)
     exact hK _ _ ⟨rfl, rfl⟩
    rintro a σ ⟨ha, rfl⟩
    replace H := Option.some.inj H; subst H
    refine hK2 _ _ _ rfl ?_; rw [ha]
    exact Rc.fin (AHeap.Sub.refl _) ⟨M1 + 25, (M1 + 20), (by omega), (by omega), (by omega), rfl, rfl⟩
  ·
   replace H := ifF C1 H
   replace H := Option.some.inj H; subst H
   refine AWP_exit (hO2 _ _ _ _ rfl ⟨rfl, ?_⟩)
   refine Rc.rw (l := [0]) (X := [(0, .sl o1 0 s2.length)]) rfl ?_
   exact Rc.fin (AHeap.Sub.refl _) ⟨M1 + 4, o1, (by omega), (by omega), (by omega), rfl, rfl⟩
 ·
  intro x a σ hx
  rcases e1 with y3 | r0
  ·
   obtain ⟨rfl, b, τ, hr, M2, o2, fM2_0, fM2_1, fM2_2, rfl, rfl⟩ := hx
   dsimp only at H
   show K1 _ _
   refine hK1 _ _ (Rc_ref hr ?_)
   refine Rc.mk ?_
   refine AWP_sr tok [] [4, 5] (fun a σ => a = [(4, .sl o2 0 y3.length), (5, .bool true)] ∧ σ = hp E0 [(o2, some ⟨3, 1, encL rI y3⟩)] (M2 + 3)) (fun K hK => ?_) ?_
   ·
    skip
    simp -dsimp -implicitDefEqProofs (maxDischargeDepth := 6)
    exact hK _ _ ⟨rfl, rfl⟩
   rintro a σ ⟨rfl, rfl⟩
   replace H := Option.some.inj H; subst H
   refine AWP_kp [4, 5] [(4, .sl o2 0 y3.length), (5, .bool true)] rfl ?_
   refine AWP_ret ?_
   refine ⟨[.sl o2 0 y3.length, .bool true], by simp, M2 + 3, o2, by omega, by omega, by omega, ?_, ?_⟩
   ·
    simp [encL_nil]
   ·
    symm; first | exact hp_tail (L := [(o2, some ⟨3, 1, encL rI y3⟩)]) | (simp only [List.set_set]; exact hp_tail (L := [(o2, some ⟨3, 1, encL rI y3⟩)]))
  ·
   obtain ⟨rfl, hx2⟩ := hx
   dsimp only at H
   replace H := Option.some.inj H; subst H; exact hx2
theorem c15 {p0 : (List gInstr)} {r : gMachine × Bool} (H : s_HartNew p0 = some r) : APure Tryd.prog G 15 [.fsl (encL rInstr p0)] (.tup [.agg [.fsl (encL rI r.1.Regs), .int .i64 r.1.Pc, .fsl (encL rI r.1.Mem)], .bool r.2]) := by
 refine APure_fn (fun N0 => ?_) (by simp)
 refine ACalls_fn tok Tryd.func15 (by kernel_rfl) rfl Tryd.ntmps15 Tryd.results15 rfl ?_
 simp only [argsA, Nat.reduceAdd, hp_next]
 unfold s_HartNew at H
 refine AWP_sr tok [] [0, 2] (fun a σ => a = [(0, .fsl (encL rInstr p0)), (2, .ptr N0 0 0)] ∧ σ = hp E0 [(N0, some ⟨26, 3, [[.nilsl, .int .i64 0, .nilsl]]⟩)] (N0 + 2)) (fun K hK => ?_) ?_
 ·
  skip
  simp -dsimp -implicitDefEqProofs (maxDischargeDepth := 6)
  exact hK _ _ ⟨rfl, rfl⟩
 rintro a σ ⟨rfl, rfl⟩
 refine AWP_sq [0, 2] fun K1 hK1 => ?_
 refine AWP_sr tok [] [0, 2, 9] (fun a σ => a = [(0, .fsl (encL rInstr p0)), (2, .ptr N0 0 0), (9, .bool (igt (ilen p0) 9987))] ∧ σ = hp E0 [(N0, some ⟨26, 3, [[.nilsl, .int .i64 0, .nilsl]]⟩)] (N0 + 5)) (fun K hK => ?_) ?_
 ·
  skip
  simp -dsimp -implicitDefEqProofs (maxDischargeDepth := 6)
  exact hK _ _ ⟨rfl, rfl⟩
 rintro a σ ⟨rfl, rfl⟩
 refine AWP_cond (igt (ilen p0) 9987) rfl (fun C1 => ?_) (fun C1 => ?_)
 ·
  replace H := ifT C1 H
  refine AWP_sr tok [] [2, 3] (fun a σ => a = [(2, .ptr N0 0 0), (3, .bool false)] ∧ σ = hp E0 [(N0, some ⟨26, 3, [[.fsl [], .int .i64 0, .fsl []]]⟩)] (N0 + 8)) (fun K hK => ?_) ?_
  ·
   skip
   simp -dsimp -implicitDefEqProofs (maxDischargeDepth := 6)
   exact hK _ _ ⟨rfl, rfl⟩
  rintro a σ ⟨rfl, rfl⟩
  replace H := Option.some.inj H; subst H
  refine AWP_kp [2, 3] [(2, .ptr N0 0 0), (3, .bool false)] rfl ?_
  refine AWP_ret ?_
  exact ⟨[.agg [.fsl [], .int .i64 0, .fsl []], .bool false], by simp, 4, by simp [encL_nil]⟩
 ·
  replace H := ifF C1 H
  refine AWP_skip ?_
  show K1 _ _
  refine keepE (l := [0, 2]) (x := [(0, .fsl (encL rInstr p0)), (2, .ptr N0 0 0)]) rfl fun a' ha => ?_
  refine hK1 _ _ ?_; rw [ha]
  refine Rc.mk ?_
  refine gWkC AWP_ref (o := N0) (ob := ⟨26, 3, [[.nilsl, .int .i64 0, .nilsl]]⟩) (row := [.nilsl, .int .i64 0, .nilsl]) (r := 0) (i := 0) [(N0, some ⟨26, 3, [[.fsl [], .int .i64 0, .nilsl]]⟩)] (by simp (disch := omega)) rfl rfl (by simp (disch := omega)) (by simp (disch := omega) [encL_nil, List.set_set, app_set]) ?_
  refine gWkC AWP_ref (o := N0) (ob := ⟨26, 3, [[.fsl [], .int .i64 0, .nilsl]]⟩) (row := [.fsl [], .int .i64 0, .nilsl]) (r := 0) (i := 2) [(N0, some ⟨26, 3, [[.fsl [], .int .i64 0, .fsl []]]⟩)] (by simp (disch := omega)) rfl rfl (by simp (disch := omega)) (by simp (disch := omega) [encL_nil, List.set_set, app_set]) ?_
  obtain ⟨l1, hl1, H⟩ := bindE H
  obtain ⟨r2, hr2, H⟩ := bindE H
  have q0 : ∀ σ i, buildSliceA T 24 false i 1 [(0, .int .i64 0)] σ = some (.sl i 0 (List.length l1), σ.put i ⟨3, 1, encL rI l1⟩) := by rw [← Option.some.inj hl1]; intro _ _; rfl
  refine AWP_sr tok [] [2, 4, 5] (fun a σ => ∃ M1 o1 : Nat, N0 + 13 ≤ M1 ∧ N0 + 13 ≤ o1 ∧ o1 < M1 ∧ a = [(2, .ptr N0 0 0), (4, .sl o1 0 r2.1.length), (5, .bool r2.2)] ∧ σ = hp E0 [(N0, some ⟨26, 3, [[.fsl [], .int .i64 0, .fsl []]]⟩), (o1, some ⟨3, 1, encL rI r2.1⟩)] M1) (fun K hK => ?_) ?_
  ·
   skip
   simp -dsimp -implicitDefEqProofs (maxDischargeDepth := 6) [q0]
   refine (c60_o (H := hr2) (by simp [q0])).mono ?_; rintro _ _ ⟨M1, o1, fM1_0, fM1_1, fM1_2, rfl, rfl⟩; simp only [hp_next] at fM1_0 fM1_1 fM1_2
   have eM1_0 := nq (a := o1) (b := N0) (by omega)
   have eM1_1 := nq (a := o1) (b := N0 + 5) (by omega)
   try simp -dsimp -implicitDefEqProofs (maxDischargeDepth := 6) [q0, eM1_0, eM1_1, hp_over_some, hp_over_none]
   exact hK _ _ ⟨M1, o1, (by omega), (by omega), (by omega), rfl, rfl⟩
  rintro a σ ⟨M1, o1, fM1_0, fM1_1, fM1_2, rfl, rfl⟩
  refine AWP_sq [2, 4] fun K2 hK2 => ?_
  refine AWP_sr tok [] [2, 4, 18] (fun a σ => a = [(2, .ptr N0 0 0), (4, .sl o1 0 r2.1.length), (18, .bool (bnot r2.2))] ∧ σ = hp E0 [(N0, some ⟨26, 3, [[.fsl [], .int .i64 0, .fsl []]]⟩), (o1, some ⟨3, 1, encL rI r2.1⟩)] (M1 + 2)) (fun K hK => ?_) ?_
  ·
   skip
   have e0 := nq (a := N0) (b := o1) (by omega)
   simp -dsimp -implicitDefEqProofs (maxDischargeDepth := 6) [e0]
   exact hK _ _ ⟨rfl, rfl⟩
  rintro a σ ⟨rfl, rfl⟩
  refine AWP_cond (bnot r2.2) rfl (fun C2 => ?_) (fun C2 => ?_)
  ·
   replace H := ifT C2 H
   refine AWP_sr tok [] [2, 3] (fun a σ => a = [(2, .ptr N0 0 0), (3, .bool false)] ∧ σ = hp E0 [(N0, some ⟨26, 3, [[.fsl [], .int .i64 0, .fsl []]]⟩), (o1, some ⟨3, 1, encL rI r2.1⟩)] (M1 + 5)) (fun K hK => ?_) ?_
   ·
    skip
    have e0 := nq (a := N0) (b := o1) (by omega)
    simp -dsimp -implicitDefEqProofs (maxDischargeDepth := 6) [e0]
    exact hK _ _ ⟨rfl, rfl⟩
   rintro a σ ⟨rfl, rfl⟩
   replace H := Option.some.inj H; subst H
   refine AWP_kp [2, 3] [(2, .ptr N0 0 0), (3, .bool false)] rfl ?_
   have z0 := nq (a := N0) (b := o1) (by omega)
   refine AWP_ret ?_
   exact ⟨[.agg [.fsl [], .int .i64 0, .fsl []], .bool false], by simp [z0], 4, by simp [encL_nil, z0]⟩
  ·
   replace H := ifF C2 H
   refine AWP_skip ?_
   show K2 _ _
   refine keepE (l := [2, 4]) (x := [(2, .ptr N0 0 0), (4, .sl o1 0 r2.1.length)]) rfl fun a' ha => ?_
   refine hK2 _ _ ?_; rw [ha]
   refine Rc.mk ?_
   obtain ⟨l3, hl3, H⟩ := bindE H
   refine AWP_sr tok [] [2, 4, 6] (fun a σ => a = [(2, .ptr N0 0 0), (4, .sl o1 0 r2.1.length), (6, .ptr (M1 + 4) 0 0)] ∧ σ = hp E0 [(N0, some ⟨26, 3, [[.fsl [], .int .i64 0, .fsl []]]⟩), (o1, some ⟨3, 1, encL rI r2.1⟩), (M1 + 2, some ⟨3, 1, encL rI l3⟩), (M1 + 4, some ⟨26, 3, [[.sl (M1 + 2) 0 l3.length, .int .i64 4, .fsl []]]⟩)] (M1 + 6)) (fun K hK => ?_) ?_
   ·
    skip
    have e0 := nq (a := N0) (b := o1) (by omega)
    have e1 := nq (a := N0) (b := M1 + 2) (by omega)
    have e2 := nq (a := N0) (b := M1 + 4) (by omega)
    have e3 := nq (a := o1) (b := M1 + 2) (by omega)
    have e4 := nq (a := o1) (b := M1 + 4) (by omega)
    simp -dsimp -implicitDefEqProofs (maxDischargeDepth := 6) [e0, e1, e2, e3, e4, mak24 hl3]
    exact hK _ _ ⟨rfl, rfl⟩
   rintro a σ ⟨rfl, rfl⟩
   obtain ⟨v4, hv4, H⟩ := bindE H
   obtain ⟨l5, hl5, H⟩ := bindE H
   refine AWP_sr tok [] [2, 4, 6] (fun a σ => a = [(2, .ptr N0 0 0), (4, .sl o1 0 r2.1.length), (6, .ptr (M1 + 4) 0 0)] ∧ σ = hp E0 [(N0, some ⟨26, 3, [[.fsl [], .int .i64 0, .fsl []]]⟩), (o1, some ⟨3, 1, encL rI r2.1⟩), (M1 + 2, some ⟨3, 1, encL rI l5⟩), (M1 + 4, some ⟨26, 3, [[.sl (M1 + 2) 0 l3.length, .int .i64 4, .fsl []]]⟩)] (M1 + 13)) (fun K hK => ?_) ?_
   ·
    skip
    have e0 := nq (a := N0) (b := o1) (by omega)
    have e1 := nq (a := N0) (b := M1 + 2) (by omega)
    have e2 := nq (a := N0) (b := M1 + 4) (by omega)
    have e3 := nq (a := o1) (b := M1 + 2) (by omega)
    have e4 := nq (a := o1) (b := M1 + 4) (by omega)
    simp -dsimp -implicitDefEqProofs (maxDischargeDepth := 6) [e0, e1, e2, e3, e4, ixo24 hv4, (show _[2]? = some v4 from (idx_lt3 hv4).2.2), (show List.set _ 2 _ = l5 from (setx_iff.1 hl5).2.symm)]
    exact hK _ _ ⟨rfl, rfl⟩
   rintro a σ ⟨rfl, rfl⟩
   try rw [← setx_len hl5]
   obtain ⟨l6, hl6, H⟩ := bindE H
   refine AWP_sr tok [] [2, 6] (fun a σ => a = [(2, .ptr N0 0 0), (6, .ptr (M1 + 4) 0 0)] ∧ σ = hp E0 [(N0, some ⟨26, 3, [[.fsl [], .int .i64 0, .fsl []]]⟩), (M1 + 2, some ⟨3, 1, encL rI l5⟩), (M1 + 4, some ⟨26, 3, [[.sl (M1 + 2) 0 l5.length, .int .i64 4, .sl (M1 + 14) 0 l6.length]]⟩), (M1 + 14, some ⟨3, 1, encL rI l6⟩)] (M1 + 17)) (fun K hK => ?_) ?_
   ·
    skip
    have e0 := nq (a := N0) (b := o1) (by omega)
    have e1 := nq (a := N0) (b := M1 + 2) (by omega)
    have e2 := nq (a := N0) (b := M1 + 4) (by omega)
    have e3 := nq (a := N0) (b := M1 + 14) (by omega)
    have e4 := nq (a := o1) (b := M1 + 2) (by omega)
    have e5 := nq (a := o1) (b := M1 + 4) (by omega)
    have e6 := nq (a := o1) (b := M1 + 14) (by omega)
    simp -dsimp -implicitDefEqProofs (maxDischargeDepth := 6) [e0, e1, e2, e3, e4, e5, e6, appz24_3 hl6]
    exact hK _ _ ⟨rfl, rfl⟩
   rintro a σ ⟨rfl, rfl⟩
   refine AWP_sr tok [] [2, 3] (fun a σ => a = [(2, .ptr N0 0 0), (3, .bool true)] ∧ σ = hp E0 [(N0, some ⟨26, 3, [[.sl (M1 + 2) 0 l5.length, .int .i64 4, .sl (M1 + 14) 0 l6.length]]⟩), (M1 + 2, some ⟨3, 1, encL rI l5⟩), (M1 + 4, some ⟨26, 3, [[.sl (M1 + 2) 0 l5.length, .int .i64 4, .sl (M1 + 14) 0 l6.length]]⟩), (M1 + 14, some ⟨3, 1, encL rI l6⟩)] (M1 + 20)) (fun K hK => ?_) ?_
   ·
    skip
    have e0 := nq (a := N0) (b := M1 + 2) (by omega)
    have e1 := nq (a := N0) (b := M1 + 4) (by omega)
    have e2 := nq (a := N0) (b := M1 + 14) (by omega)
    simp -dsimp -implicitDefEqProofs (maxDischargeDepth := 6) [e0, e1, e2]
    exact hK _ _ ⟨rfl, rfl⟩
   rintro a σ ⟨rfl, rfl⟩
   replace H := Option.some.inj H; subst H
   refine AWP_kp [2, 3] [(2, .ptr N0 0 0), (3, .bool true)] rfl ?_
   have z1 := nq (a := N0) (b := M1 + 2) (by omega)
   have z2 := nq (a := N0) (b := M1 + 4) (by omega)
   have z3 := nq (a := N0) (b := M1 + 14) (by omega)
   refine AWP_ret ?_
   exact ⟨[.agg [.sl (M1 + 2) 0 l5.length, .int .i64 4, .sl (M1 + 14) 0 l6.length], .bool true], by simp [z1, z2, z3], 4, by simp [encL_nil, z1, z2, z3]⟩
theorem c85 {p0 : Int} {r : Bool} (H : i_isMachineReg p0 = some r) : APure Tryd.prog G 85 [.int .i64 p0] (.bool r) := by
 refine APure_fn (fun N0 => ?_) (by simp)
 refine ACalls_fn tok Tryd.func85 (by kernel_rfl) rfl Tryd.ntmps85 Tryd.results85 rfl ?_
 simp only [argsA, Nat.reduceAdd, hp_next]
 unfold i_isMachineReg at H
 refine AWP_sr tok [] [0] (fun a σ => a = [(0, .int .i64 p0)] ∧ σ = hp E0 [] (N0 + 1)) (fun K hK => ?_) ?_
 ·
  skip
  simp -dsimp -implicitDefEqProofs (maxDischargeDepth := 6)
  exact hK _ _ ⟨rfl, rfl⟩
 rintro a σ ⟨rfl, rfl⟩
 obtain ⟨g1, hg1, H⟩ := bindE H
 refine AWP_sr tok [] [2] (fun a σ => a = [(2, .bool g1)] ∧ σ = hp E0 [] (N0 + 8)) (fun K hK => ?_) ?_
 ·
  skip
  simp -dsimp -implicitDefEqProofs (maxDischargeDepth := 6)
  cases hbg1 : ige p0 0
  ·
   replace hg1 := ifF hbg1 hg1
   replace hg1 := Option.some.inj hg1; subst hg1
   try simp -dsimp -implicitDefEqProofs (maxDischargeDepth := 6) [hbg1]
   exact hK _ _ ⟨rfl, rfl⟩
  ·
   replace hg1 := ifT hbg1 hg1
   replace hg1 := Option.some.inj hg1; subst hg1
   try simp -dsimp -implicitDefEqProofs (maxDischargeDepth := 6) [hbg1]
   exact hK _ _ ⟨rfl, rfl⟩
 rintro a σ ⟨rfl, rfl⟩
 replace H := Option.some.inj H; subst H
 refine AWP_kp [2] [(2, .bool g1)] rfl ?_
 refine AWP_ret ?_
 exact ⟨[.bool g1], by simp, 4, by simp [encL_nil]⟩
theorem c86 {p0 : Int} {r : Int} (H : i_formatOf p0 = some r) : APure Tryd.prog G 86 [.int .i64 p0] (.int .u8 r) := by
 refine APure_fn (fun N0 => ?_) (by simp)
 refine ACalls_fn tok Tryd.func86 (by kernel_rfl) rfl Tryd.ntmps86 Tryd.results86 rfl ?_
 simp only [argsA, Nat.reduceAdd, hp_next]
 unfold i_formatOf at H
 refine AWP_sr tok [] [0] (fun a σ => a = [(0, .int .i64 p0)] ∧ σ = hp E0 [] (N0 + 1)) (fun K hK => ?_) ?_
 ·
  skip
  simp -dsimp -implicitDefEqProofs (maxDischargeDepth := 6)
  exact hK _ _ ⟨rfl, rfl⟩
 rintro a σ ⟨rfl, rfl⟩
 refine AWP_sq [] fun K1 hK1 => ?_
 refine AWP_block (AWP_thenB ?_)
 obtain ⟨g1, hg1, H⟩ := bindE H
 refine AWP_sr tok [] [0, 3] (fun a σ => a = [(0, .int .i64 p0), (3, .bool g1)] ∧ σ = hp E0 [] (N0 + 8)) (fun K hK => ?_) ?_
 ·
  skip
  simp -dsimp -implicitDefEqProofs (maxDischargeDepth := 6)
  cases hbg1 : ige p0 1
  ·
   replace hg1 := ifF hbg1 hg1
   replace hg1 := Option.some.inj hg1; subst hg1
   try simp -dsimp -implicitDefEqProofs (maxDischargeDepth := 6) [hbg1]
   exact hK _ _ ⟨rfl, rfl⟩
  ·
   replace hg1 := ifT hbg1 hg1
   replace hg1 := Option.some.inj hg1; subst hg1
   try simp -dsimp -implicitDefEqProofs (maxDischargeDepth := 6) [hbg1]
   exact hK _ _ ⟨rfl, rfl⟩
 rintro a σ ⟨rfl, rfl⟩
 refine AWP_cond g1 rfl (fun C1 => ?_) (fun C1 => ?_)
 ·
  replace H := ifT C1 H
  refine AWP_sr tok [] [2] (fun a σ => a = [(2, .int .u8 82)] ∧ σ = hp E0 [] (N0 + 9)) (fun K hK => ?_) ?_
  ·
   skip
   simp -dsimp -implicitDefEqProofs (maxDischargeDepth := 6)
   exact hK _ _ ⟨rfl, rfl⟩
  rintro a σ ⟨rfl, rfl⟩
  replace H := Option.some.inj H; subst H
  refine AWP_kp [2] [(2, .int .u8 82)] rfl ?_
  refine AWP_ret ?_
  exact ⟨[.int .u8 82], by simp, 4, by simp [encL_nil]⟩
 ·
  replace H := ifF C1 H
  obtain ⟨g2, hg2, H⟩ := bindE H
  refine AWP_sr tok [] [0, 10] (fun a σ => a = [(0, .int .i64 p0), (10, .bool g2)] ∧ σ = hp E0 [] (N0 + 15)) (fun K hK => ?_) ?_
  ·
   skip
   simp -dsimp -implicitDefEqProofs (maxDischargeDepth := 6)
   cases hbg2 : ige p0 12
   ·
    replace hg2 := ifF hbg2 hg2
    replace hg2 := Option.some.inj hg2; subst hg2
    try simp -dsimp -implicitDefEqProofs (maxDischargeDepth := 6) [hbg2]
    exact hK _ _ ⟨rfl, rfl⟩
   ·
    replace hg2 := ifT hbg2 hg2
    replace hg2 := Option.some.inj hg2; subst hg2
    try simp -dsimp -implicitDefEqProofs (maxDischargeDepth := 6) [hbg2]
    exact hK _ _ ⟨rfl, rfl⟩
  rintro a σ ⟨rfl, rfl⟩
  refine AWP_cond g2 rfl (fun C2 => ?_) (fun C2 => ?_)
  ·
   replace H := ifT C2 H
   refine AWP_sr tok [] [2] (fun a σ => a = [(2, .int .u8 73)] ∧ σ = hp E0 [] (N0 + 16)) (fun K hK => ?_) ?_
   ·
    skip
    simp -dsimp -implicitDefEqProofs (maxDischargeDepth := 6)
    exact hK _ _ ⟨rfl, rfl⟩
   rintro a σ ⟨rfl, rfl⟩
   replace H := Option.some.inj H; subst H
   refine AWP_kp [2] [(2, .int .u8 73)] rfl ?_
   refine AWP_ret ?_
   exact ⟨[.int .u8 73], by simp, 4, by simp [encL_nil]⟩
  ·
   replace H := ifF C2 H
   refine AWP_sr tok [] [0, 17] (fun a σ => a = [(0, .int .i64 p0), (17, .bool (ieq p0 16))] ∧ σ = hp E0 [] (N0 + 18)) (fun K hK => ?_) ?_
   ·
    skip
    simp -dsimp -implicitDefEqProofs (maxDischargeDepth := 6)
    exact hK _ _ ⟨rfl, rfl⟩
   rintro a σ ⟨rfl, rfl⟩
   refine AWP_cond (ieq p0 16) rfl (fun C3 => ?_) (fun C3 => ?_)
   ·
    replace H := ifT C3 H
    refine AWP_sr tok [] [2] (fun a σ => a = [(2, .int .u8 83)] ∧ σ = hp E0 [] (N0 + 19)) (fun K hK => ?_) ?_
    ·
     skip
     simp -dsimp -implicitDefEqProofs (maxDischargeDepth := 6)
     exact hK _ _ ⟨rfl, rfl⟩
    rintro a σ ⟨rfl, rfl⟩
    replace H := Option.some.inj H; subst H
    refine AWP_kp [2] [(2, .int .u8 83)] rfl ?_
    refine AWP_ret ?_
    exact ⟨[.int .u8 83], by simp, 4, by simp [encL_nil]⟩
   ·
    replace H := ifF C3 H
    obtain ⟨g3, hg3, H⟩ := bindE H
    refine AWP_sr tok [] [0, 20] (fun a σ => a = [(0, .int .i64 p0), (20, .bool g3)] ∧ σ = hp E0 [] (N0 + 25)) (fun K hK => ?_) ?_
    ·
     skip
     simp -dsimp -implicitDefEqProofs (maxDischargeDepth := 6)
     cases hbg3 : ieq p0 17
     ·
      replace hg3 := ifF hbg3 hg3
      replace hg3 := Option.some.inj hg3; subst hg3
      try simp -dsimp -implicitDefEqProofs (maxDischargeDepth := 6) [hbg3]
      exact hK _ _ ⟨rfl, rfl⟩
     ·
      replace hg3 := ifT hbg3 hg3
      replace hg3 := Option.some.inj hg3; subst hg3
      try simp -dsimp -implicitDefEqProofs (maxDischargeDepth := 6) [hbg3]
      exact hK _ _ ⟨rfl, rfl⟩
    rintro a σ ⟨rfl, rfl⟩
    refine AWP_cond g3 rfl (fun C4 => ?_) (fun C4 => ?_)
    ·
     replace H := ifT C4 H
     refine AWP_sr tok [] [2] (fun a σ => a = [(2, .int .u8 66)] ∧ σ = hp E0 [] (N0 + 26)) (fun K hK => ?_) ?_
     ·
      skip
      simp -dsimp -implicitDefEqProofs (maxDischargeDepth := 6)
      exact hK _ _ ⟨rfl, rfl⟩
     rintro a σ ⟨rfl, rfl⟩
     replace H := Option.some.inj H; subst H
     refine AWP_kp [2] [(2, .int .u8 66)] rfl ?_
     refine AWP_ret ?_
     exact ⟨[.int .u8 66], by simp, 4, by simp [encL_nil]⟩
    ·
     replace H := ifF C4 H
     refine AWP_sr tok [] [0, 27] (fun a σ => a = [(0, .int .i64 p0), (27, .bool (ieq p0 19))] ∧ σ = hp E0 [] (N0 + 28)) (fun K hK => ?_) ?_
     ·
      skip
      simp -dsimp -implicitDefEqProofs (maxDischargeDepth := 6)
      exact hK _ _ ⟨rfl, rfl⟩
     rintro a σ ⟨rfl, rfl⟩
     refine AWP_cond (ieq p0 19) rfl (fun C5 => ?_) (fun C5 => ?_)
     ·
      replace H := ifT C5 H
      refine AWP_sr tok [] [2] (fun a σ => a = [(2, .int .u8 85)] ∧ σ = hp E0 [] (N0 + 29)) (fun K hK => ?_) ?_
      ·
       skip
       simp -dsimp -implicitDefEqProofs (maxDischargeDepth := 6)
       exact hK _ _ ⟨rfl, rfl⟩
      rintro a σ ⟨rfl, rfl⟩
      replace H := Option.some.inj H; subst H
      refine AWP_kp [2] [(2, .int .u8 85)] rfl ?_
      refine AWP_ret ?_
      exact ⟨[.int .u8 85], by simp, 4, by simp [encL_nil]⟩
     ·
      replace H := ifF C5 H
      refine AWP_sr tok [] [0, 30] (fun a σ => a = [(0, .int .i64 p0), (30, .bool (ieq p0 20))] ∧ σ = hp E0 [] (N0 + 31)) (fun K hK => ?_) ?_
      ·
       skip
       simp -dsimp -implicitDefEqProofs (maxDischargeDepth := 6)
       exact hK _ _ ⟨rfl, rfl⟩
      rintro a σ ⟨rfl, rfl⟩
      refine AWP_cond (ieq p0 20) rfl (fun C6 => ?_) (fun C6 => ?_)
      ·
       replace H := ifT C6 H
       refine AWP_sr tok [] [2] (fun a σ => a = [(2, .int .u8 74)] ∧ σ = hp E0 [] (N0 + 32)) (fun K hK => ?_) ?_
       ·
        skip
        simp -dsimp -implicitDefEqProofs (maxDischargeDepth := 6)
        exact hK _ _ ⟨rfl, rfl⟩
       rintro a σ ⟨rfl, rfl⟩
       replace H := Option.some.inj H; subst H
       refine AWP_kp [2] [(2, .int .u8 74)] rfl ?_
       refine AWP_ret ?_
       exact ⟨[.int .u8 74], by simp, 4, by simp [encL_nil]⟩
      ·
       replace H := ifF C6 H
       refine AWP_sr tok [] [33] (fun a σ => a = [(33, .bool (ieq p0 21))] ∧ σ = hp E0 [] (N0 + 34)) (fun K hK => ?_) ?_
       ·
        skip
        simp -dsimp -implicitDefEqProofs (maxDischargeDepth := 6)
        exact hK _ _ ⟨rfl, rfl⟩
       rintro a σ ⟨rfl, rfl⟩
       refine AWP_cond (ieq p0 21) rfl (fun C7 => ?_) (fun C7 => ?_)
       ·
        replace H := ifT C7 H
        refine AWP_sr tok [] [2] (fun a σ => a = [(2, .int .u8 69)] ∧ σ = hp E0 [] (N0 + 35)) (fun K hK => ?_) ?_
        ·
         skip
         simp -dsimp -implicitDefEqProofs (maxDischargeDepth := 6)
         exact hK _ _ ⟨rfl, rfl⟩
        rintro a σ ⟨rfl, rfl⟩
        replace H := Option.some.inj H; subst H
        refine AWP_kp [2] [(2, .int .u8 69)] rfl ?_
        refine AWP_ret ?_
        exact ⟨[.int .u8 69], by simp, 4, by simp [encL_nil]⟩
       ·
        replace H := ifF C7 H
        refine AWP_skip ?_
        show K1 _ _
        refine keepE (l := []) (x := []) rfl fun a' ha => ?_
        refine hK1 _ _ ?_; rw [ha]
        refine Rc.mk ?_
        refine AWP_sr tok [] [2] (fun a σ => a = [(2, .int .u8 32)] ∧ σ = hp E0 [] (N0 + 35)) (fun K hK => ?_) ?_
        ·
         skip
         simp -dsimp -implicitDefEqProofs (maxDischargeDepth := 6)
         exact hK _ _ ⟨rfl, rfl⟩
        rintro a σ ⟨rfl, rfl⟩
        replace H := Option.some.inj H; subst H
        refine AWP_kp [2] [(2, .int .u8 32)] rfl ?_
        refine AWP_ret ?_
        exact ⟨[.int .u8 32], by simp, 4, by simp [encL_nil]⟩
theorem c44 {p0 : gInstr} {r : Bool} (H : i_InstrValid p0 = some r) : APure Tryd.prog G 44 [.agg [.int .i64 p0.Op, .int .i64 p0.Rd, .int .i64 p0.Rs, .int .i64 p0.Rt, .int .i64 p0.Imm]] (.bool r) := by
 refine APure_fn (fun N0 => ?_) (by simp)
 refine ACalls_fn tok Tryd.func44 (by kernel_rfl) rfl Tryd.ntmps44 Tryd.results44 rfl ?_
 simp only [argsA, Nat.reduceAdd, hp_next]
 unfold i_InstrValid at H
 refine AWP_sr tok [0] [1] (fun a σ => a = [(1, .fptr [.int .i64 p0.Op, .int .i64 p0.Rd, .int .i64 p0.Rs, .int .i64 p0.Rt, .int .i64 p0.Imm] 0)] ∧ σ = hp E0 [] (N0 + 2)) (fun K hK => ?_) ?_
 ·
  skip
  simp -dsimp -implicitDefEqProofs (maxDischargeDepth := 6)
  exact hK _ _ ⟨rfl, rfl⟩
 rintro a σ ⟨rfl, rfl⟩
 obtain ⟨r1, hr1, H⟩ := bindE H
 obtain ⟨r2, hr2, H⟩ := bindE H
 obtain ⟨r3, hr3, H⟩ := bindE H
 refine AWP_sd tok tokM [] [] [0, 1, 2, 3, 4, 5, 6, 7, 8, 9, 10, 11] [1, 3, 4, 5] (fun a σ => a = [(1, .fptr [.int .i64 p0.Op, .int .i64 p0.Rd, .int .i64 p0.Rs, .int .i64 p0.Rt, .int .i64 p0.Imm] 0), (3, .bool r1), (4, .bool r2), (5, .bool r3)] ∧ σ = hp E0 [] (N0 + 14)) (by decide) (fun K hK => ?_) ?_
 ·
  simp only [pickL, nthO_succ, nthO_zero]
  simp -dsimp -implicitDefEqProofs (maxDischargeDepth := 6)
  refine Pc.mk (c85 hr1) ?_; try simp -dsimp -implicitDefEqProofs (maxDischargeDepth := 6)
  refine Pc.mk (c85 hr2) ?_; try simp -dsimp -implicitDefEqProofs (maxDischargeDepth := 6)
  refine Pc.mk (c85 hr3) ?_; try simp -dsimp -implicitDefEqProofs (maxDischargeDepth := 6)
  exact hK _ _ ⟨rfl, rfl⟩
 rintro a σ ⟨rfl, rfl⟩
 obtain ⟨g4, hg4, H⟩ := bindE H
 refine AWP_sr tok [] [1, 3, 4, 5, 6] (fun a σ => a = [(1, .fptr [.int .i64 p0.Op, .int .i64 p0.Rd, .int .i64 p0.Rs, .int .i64 p0.Rt, .int .i64 p0.Imm] 0), (3, .bool r1), (4, .bool r2), (5, .bool r3), (6, .bool g4)] ∧ σ = hp E0 [] (N0 + 23)) (fun K hK => ?_) ?_
 ·
  skip
  simp -dsimp -implicitDefEqProofs (maxDischargeDepth := 6)
  cases hbg4 : ige p0.Imm (-2048)
  ·
   replace hg4 := ifF hbg4 hg4
   replace hg4 := Option.some.inj hg4; subst hg4
   try simp -dsimp -implicitDefEqProofs (maxDischargeDepth := 6) [hbg4]
   exact hK _ _ ⟨rfl, rfl⟩
  ·
   replace hg4 := ifT hbg4 hg4
   replace hg4 := Option.some.inj hg4; subst hg4
   try simp -dsimp -implicitDefEqProofs (maxDischargeDepth := 6) [hbg4]
   exact hK _ _ ⟨rfl, rfl⟩
 rintro a σ ⟨rfl, rfl⟩
 refine AWP_sq [] fun K1 hK1 => ?_
 obtain ⟨r5, hr5, H⟩ := bindE H
 refine AWP_sr tok [] [1, 3, 4, 5, 6, 26] (fun a σ => a = [(1, .fptr [.int .i64 p0.Op, .int .i64 p0.Rd, .int .i64 p0.Rs, .int .i64 p0.Rt, .int .i64 p0.Imm] 0), (3, .bool r1), (4, .bool r2), (5, .bool r3), (6, .bool g4), (26, .int .u8 r5)] ∧ σ = hp E0 [] (N0 + 26)) (fun K hK => ?_) ?_
 ·
  skip
  simp -dsimp -implicitDefEqProofs (maxDischargeDepth := 6)
  refine (c86 hr5).app ?_; try simp -dsimp -implicitDefEqProofs (maxDischargeDepth := 6)
  exact hK _ _ ⟨rfl, rfl⟩
 rintro a σ ⟨rfl, rfl⟩
 refine AWP_block (AWP_thenB ?_)
 refine AWP_sr tok [] [1, 3, 4, 5, 6, 26, 27] (fun a σ => a = [(1, .fptr [.int .i64 p0.Op, .int .i64 p0.Rd, .int .i64 p0.Rs, .int .i64 p0.Rt, .int .i64 p0.Imm] 0), (3, .bool r1), (4, .bool r2), (5, .bool r3), (6, .bool g4), (26, .int .u8 r5), (27, .bool (ieq r5 82))] ∧ σ = hp E0 [] (N0 + 28)) (fun K hK => ?_) ?_
 ·
  skip
  simp -dsimp -implicitDefEqProofs (maxDischargeDepth := 6)
  exact hK _ _ ⟨rfl, rfl⟩
 rintro a σ ⟨rfl, rfl⟩
 refine AWP_cond (ieq r5 82) rfl (fun C1 => ?_) (fun C1 => ?_)
 ·
  replace H := ifT C1 H
  obtain ⟨g6, hg6, H⟩ := bindE H
  obtain ⟨g7, hg7, H⟩ := bindE H
  obtain ⟨g8, hg8, H⟩ := bindE H
  refine AWP_sr tok [] [2] (fun a σ => a = [(2, .bool g8)] ∧ σ = hp E0 [] (N0 + 41)) (fun K hK => ?_) ?_
  ·
   skip
   simp -dsimp -implicitDefEqProofs (maxDischargeDepth := 6)
   cases hbg6 : r1
   ·
    replace hg6 := ifF hbg6 hg6
    replace hg6 := Option.some.inj hg6; subst hg6
    try simp -dsimp -implicitDefEqProofs (maxDischargeDepth := 6) [hbg6]
    replace hg7 := ifF rfl hg7
    replace hg7 := Option.some.inj hg7; subst hg7
    try simp -dsimp -implicitDefEqProofs (maxDischargeDepth := 6) [hbg6]
    replace hg8 := ifF rfl hg8
    replace hg8 := Option.some.inj hg8; subst hg8
    try simp -dsimp -implicitDefEqProofs (maxDischargeDepth := 6) [hbg6]
    exact hK _ _ ⟨rfl, rfl⟩
   ·
    replace hg6 := ifT hbg6 hg6
    replace hg6 := Option.some.inj hg6; subst hg6
    try simp -dsimp -implicitDefEqProofs (maxDischargeDepth := 6) [hbg6]
    cases hbg7 : r2
    ·
     replace hg7 := ifF hbg7 hg7
     replace hg7 := Option.some.inj hg7; subst hg7
     try simp -dsimp -implicitDefEqProofs (maxDischargeDepth := 6) [hbg6, hbg7]
     replace hg8 := ifF rfl hg8
     replace hg8 := Option.some.inj hg8; subst hg8
     try simp -dsimp -implicitDefEqProofs (maxDischargeDepth := 6) [hbg6, hbg7]
     exact hK _ _ ⟨rfl, rfl⟩
    ·
     replace hg7 := ifT hbg7 hg7
     replace hg7 := Option.some.inj hg7; subst hg7
     try simp -dsimp -implicitDefEqProofs (maxDischargeDepth := 6) [hbg6, hbg7]
     cases hbg8 : r3
     ·
      replace hg8 := ifF hbg8 hg8
      replace hg8 := Option.some.inj hg8; subst hg8
      try simp -dsimp -implicitDefEqProofs (maxDischargeDepth := 6) [hbg6, hbg7, hbg8]
      exact hK _ _ ⟨rfl, rfl⟩
     ·
      replace hg8 := ifT hbg8 hg8
      replace hg8 := Option.some.inj hg8; subst hg8
      try simp -dsimp -implicitDefEqProofs (maxDischargeDepth := 6) [hbg6, hbg7, hbg8]
      exact hK _ _ ⟨rfl, rfl⟩
  rintro a σ ⟨rfl, rfl⟩
  replace H := Option.some.inj H; subst H
  refine AWP_kp [2] [(2, .bool g8)] rfl ?_
  refine AWP_ret ?_
  exact ⟨[.bool g8], by simp, 4, by simp [encL_nil]⟩
 ·
  replace H := ifF C1 H
  refine AWP_sr tok [] [1, 3, 4, 5, 6, 26, 41] (fun a σ => a = [(1, .fptr [.int .i64 p0.Op, .int .i64 p0.Rd, .int .i64 p0.Rs, .int .i64 p0.Rt, .int .i64 p0.Imm] 0), (3, .bool r1), (4, .bool r2), (5, .bool r3), (6, .bool g4), (26, .int .u8 r5), (41, .bool (ieq r5 73))] ∧ σ = hp E0 [] (N0 + 30)) (fun K hK => ?_) ?_
  ·
   skip
   simp -dsimp -implicitDefEqProofs (maxDischargeDepth := 6)
   exact hK _ _ ⟨rfl, rfl⟩
  rintro a σ ⟨rfl, rfl⟩
  refine AWP_cond (ieq r5 73) rfl (fun C2 => ?_) (fun C2 => ?_)
  ·
   replace H := ifT C2 H
   obtain ⟨g9, hg9, H⟩ := bindE H
   obtain ⟨g10, hg10, H⟩ := bindE H
   obtain ⟨g11, hg11, H⟩ := bindE H
   refine AWP_sr tok [] [2] (fun a σ => a = [(2, .bool g11)] ∧ σ = hp E0 [] (N0 + 43)) (fun K hK => ?_) ?_
   ·
    skip
    simp -dsimp -implicitDefEqProofs (maxDischargeDepth := 6)
    cases hbg9 : r1
    ·
     replace hg9 := ifF hbg9 hg9
     replace hg9 := Option.some.inj hg9; subst hg9
     try simp -dsimp -implicitDefEqProofs (maxDischargeDepth := 6) [hbg9]
     replace hg10 := ifF rfl hg10
     replace hg10 := Option.some.inj hg10; subst hg10
     try simp -dsimp -implicitDefEqProofs (maxDischargeDepth := 6) [hbg9]
     replace hg11 := ifF rfl hg11
     replace hg11 := Option.some.inj hg11; subst hg11
     try simp -dsimp -implicitDefEqProofs (maxDischargeDepth := 6) [hbg9]
     exact hK _ _ ⟨rfl, rfl⟩
    ·
     replace hg9 := ifT hbg9 hg9
     replace hg9 := Option.some.inj hg9; subst hg9
     try simp -dsimp -implicitDefEqProofs (maxDischargeDepth := 6) [hbg9]
     cases hbg10 : r2
     ·
      replace hg10 := ifF hbg10 hg10
      replace hg10 := Option.some.inj hg10; subst hg10
      try simp -dsimp -implicitDefEqProofs (maxDischargeDepth := 6) [hbg9, hbg10]
      replace hg11 := ifF rfl hg11
      replace hg11 := Option.some.inj hg11; subst hg11
      try simp -dsimp -implicitDefEqProofs (maxDischargeDepth := 6) [hbg9, hbg10]
      exact hK _ _ ⟨rfl, rfl⟩
     ·
      replace hg10 := ifT hbg10 hg10
      replace hg10 := Option.some.inj hg10; subst hg10
      try simp -dsimp -implicitDefEqProofs (maxDischargeDepth := 6) [hbg9, hbg10]
      cases hbg11 : (ieq p0.Rt 0)
      ·
       replace hg11 := ifF hbg11 hg11
       replace hg11 := Option.some.inj hg11; subst hg11
       try simp -dsimp -implicitDefEqProofs (maxDischargeDepth := 6) [hbg9, hbg10, hbg11]
       exact hK _ _ ⟨rfl, rfl⟩
      ·
       replace hg11 := ifT hbg11 hg11
       replace hg11 := Option.some.inj hg11; subst hg11
       try simp -dsimp -implicitDefEqProofs (maxDischargeDepth := 6) [hbg9, hbg10, hbg11]
       exact hK _ _ ⟨rfl, rfl⟩
   rintro a σ ⟨rfl, rfl⟩
   replace H := Option.some.inj H; subst H
   refine AWP_kp [2] [(2, .bool g11)] rfl ?_
   refine AWP_ret ?_
   exact ⟨[.bool g11], by simp, 4, by simp [encL_nil]⟩
  ·
   replace H := ifF C2 H
   refine AWP_sr tok [] [1, 3, 4, 5, 6, 26, 55] (fun a σ => a = [(1, .fptr [.int .i64 p0.Op, .int .i64 p0.Rd, .int .i64 p0.Rs, .int .i64 p0.Rt, .int .i64 p0.Imm] 0), (3, .bool r1), (4, .bool r2), (5, .bool r3), (6, .bool g4), (26, .int .u8 r5), (55, .bool (ieq r5 83))] ∧ σ = hp E0 [] (N0 + 32)) (fun K hK => ?_) ?_
   ·
    skip
    simp -dsimp -implicitDefEqProofs (maxDischargeDepth := 6)
    exact hK _ _ ⟨rfl, rfl⟩
   rintro a σ ⟨rfl, rfl⟩
   refine AWP_cond (ieq r5 83) rfl (fun C3 => ?_) (fun C3 => ?_)
   ·
    replace H := ifT C3 H
    obtain ⟨g12, hg12, H⟩ := bindE H
    obtain ⟨g13, hg13, H⟩ := bindE H
    obtain ⟨g14, hg14, H⟩ := bindE H
    refine AWP_sr tok [] [2] (fun a σ => a = [(2, .bool g14)] ∧ σ = hp E0 [] (N0 + 45)) (fun K hK => ?_) ?_
    ·
     skip
     simp -dsimp -implicitDefEqProofs (maxDischargeDepth := 6)
     cases hbg12 : ieq p0.Rd 0
     ·
      replace hg12 := ifF hbg12 hg12
      replace hg12 := Option.some.inj hg12; subst hg12
      try simp -dsimp -implicitDefEqProofs (maxDischargeDepth := 6) [hbg12]
      replace hg13 := ifF rfl hg13
      replace hg13 := Option.some.inj hg13; subst hg13
      try simp -dsimp -implicitDefEqProofs (maxDischargeDepth := 6) [hbg12]
      replace hg14 := ifF rfl hg14
      replace hg14 := Option.some.inj hg14; subst hg14
      try simp -dsimp -implicitDefEqProofs (maxDischargeDepth := 6) [hbg12]
      exact hK _ _ ⟨rfl, rfl⟩
     ·
      replace hg12 := ifT hbg12 hg12
      replace hg12 := Option.some.inj hg12; subst hg12
      try simp -dsimp -implicitDefEqProofs (maxDischargeDepth := 6) [hbg12]
      cases hbg13 : r2
      ·
       replace hg13 := ifF hbg13 hg13
       replace hg13 := Option.some.inj hg13; subst hg13
       try simp -dsimp -implicitDefEqProofs (maxDischargeDepth := 6) [hbg12, hbg13]
       replace hg14 := ifF rfl hg14
       replace hg14 := Option.some.inj hg14; subst hg14
       try simp -dsimp -implicitDefEqProofs (maxDischargeDepth := 6) [hbg12, hbg13]
       exact hK _ _ ⟨rfl, rfl⟩
      ·
       replace hg13 := ifT hbg13 hg13
       replace hg13 := Option.some.inj hg13; subst hg13
       try simp -dsimp -implicitDefEqProofs (maxDischargeDepth := 6) [hbg12, hbg13]
       cases hbg14 : r3
       ·
        replace hg14 := ifF hbg14 hg14
        replace hg14 := Option.some.inj hg14; subst hg14
        try simp -dsimp -implicitDefEqProofs (maxDischargeDepth := 6) [hbg12, hbg13, hbg14]
        exact hK _ _ ⟨rfl, rfl⟩
       ·
        replace hg14 := ifT hbg14 hg14
        replace hg14 := Option.some.inj hg14; subst hg14
        try simp -dsimp -implicitDefEqProofs (maxDischargeDepth := 6) [hbg12, hbg13, hbg14]
        exact hK _ _ ⟨rfl, rfl⟩
    rintro a σ ⟨rfl, rfl⟩
    replace H := Option.some.inj H; subst H
    refine AWP_kp [2] [(2, .bool g14)] rfl ?_
    refine AWP_ret ?_
    exact ⟨[.bool g14], by simp, 4, by simp [encL_nil]⟩
   ·
    replace H := ifF C3 H
    refine AWP_sr tok [] [1, 3, 4, 5, 26, 69] (fun a σ => a = [(1, .fptr [.int .i64 p0.Op, .int .i64 p0.Rd, .int .i64 p0.Rs, .int .i64 p0.Rt, .int .i64 p0.Imm] 0), (3, .bool r1), (4, .bool r2), (5, .bool r3), (26, .int .u8 r5), (69, .bool (ieq r5 66))] ∧ σ = hp E0 [] (N0 + 34)) (fun K hK => ?_) ?_
    ·
     skip
     simp -dsimp -implicitDefEqProofs (maxDischargeDepth := 6)
     exact hK _ _ ⟨rfl, rfl⟩
    rintro a σ ⟨rfl, rfl⟩
    refine AWP_cond (ieq r5 66) rfl (fun C4 => ?_) (fun C4 => ?_)
    ·
     replace H := ifT C4 H
     obtain ⟨g15, hg15, H⟩ := bindE H
     obtain ⟨g16, hg16, H⟩ := bindE H
     obtain ⟨g17, hg17, H⟩ := bindE H
     obtain ⟨g18, hg18, H⟩ := bindE H
     obtain ⟨g20, hg20, H⟩ := bindE H
     refine AWP_sr tok [] [2] (fun a σ => a = [(2, .bool g20)] ∧ σ = hp E0 [] (N0 + 60)) (fun K hK => ?_) ?_
     ·
      skip
      simp -dsimp -implicitDefEqProofs (maxDischargeDepth := 6)
      cases hbg15 : ieq p0.Rd 0
      ·
       replace hg15 := ifF hbg15 hg15
       replace hg15 := Option.some.inj hg15; subst hg15
       try simp -dsimp -implicitDefEqProofs (maxDischargeDepth := 6) [hbg15]
       replace hg16 := ifF rfl hg16
       replace hg16 := Option.some.inj hg16; subst hg16
       try simp -dsimp -implicitDefEqProofs (maxDischargeDepth := 6) [hbg15]
       replace hg17 := ifF rfl hg17
       replace hg17 := Option.some.inj hg17; subst hg17
       try simp -dsimp -implicitDefEqProofs (maxDischargeDepth := 6) [hbg15]
       replace hg18 := ifF rfl hg18
       replace hg18 := Option.some.inj hg18; subst hg18
       try simp -dsimp -implicitDefEqProofs (maxDischargeDepth := 6) [hbg15]
       replace hg20 := ifF rfl hg20
       replace hg20 := Option.some.inj hg20; subst hg20
       try simp -dsimp -implicitDefEqProofs (maxDischargeDepth := 6) [hbg15]
       exact hK _ _ ⟨rfl, rfl⟩
      ·
       replace hg15 := ifT hbg15 hg15
       replace hg15 := Option.some.inj hg15; subst hg15
       try simp -dsimp -implicitDefEqProofs (maxDischargeDepth := 6) [hbg15]
       cases hbg16 : r2
       ·
        replace hg16 := ifF hbg16 hg16
        replace hg16 := Option.some.inj hg16; subst hg16
        try simp -dsimp -implicitDefEqProofs (maxDischargeDepth := 6) [hbg15, hbg16]
        replace hg17 := ifF rfl hg17
        replace hg17 := Option.some.inj hg17; subst hg17
        try simp -dsimp -implicitDefEqProofs (maxDischargeDepth := 6) [hbg15, hbg16]
        replace hg18 := ifF rfl hg18
        replace hg18 := Option.some.inj hg18; subst hg18
        try simp -dsimp -implicitDefEqProofs (maxDischargeDepth := 6) [hbg15, hbg16]
        replace hg20 := ifF rfl hg20
        replace hg20 := Option.some.inj hg20; subst hg20
        try simp -dsimp -implicitDefEqProofs (maxDischargeDepth := 6) [hbg15, hbg16]
        exact hK _ _ ⟨rfl, rfl⟩
       ·
        replace hg16 := ifT hbg16 hg16
        replace hg16 := Option.some.inj hg16; subst hg16
        try simp -dsimp -implicitDefEqProofs (maxDischargeDepth := 6) [hbg15, hbg16]
        cases hbg17 : r3
        ·
         replace hg17 := ifF hbg17 hg17
         replace hg17 := Option.some.inj hg17; subst hg17
         try simp -dsimp -implicitDefEqProofs (maxDischargeDepth := 6) [hbg15, hbg16, hbg17]
         replace hg18 := ifF rfl hg18
         replace hg18 := Option.some.inj hg18; subst hg18
         try simp -dsimp -implicitDefEqProofs (maxDischargeDepth := 6) [hbg15, hbg16, hbg17]
         replace hg20 := ifF rfl hg20
         replace hg20 := Option.some.inj hg20; subst hg20
         try simp -dsimp -implicitDefEqProofs (maxDischargeDepth := 6) [hbg15, hbg16, hbg17]
         exact hK _ _ ⟨rfl, rfl⟩
        ·
         replace hg17 := ifT hbg17 hg17
         replace hg17 := Option.some.inj hg17; subst hg17
         try simp -dsimp -implicitDefEqProofs (maxDischargeDepth := 6) [hbg15, hbg16, hbg17]
         cases hbg18 : (ige p0.Imm (-4096))
         ·
          replace hg18 := ifF hbg18 hg18
          replace hg18 := Option.some.inj hg18; subst hg18
          try simp -dsimp -implicitDefEqProofs (maxDischargeDepth := 6) [hbg15, hbg16, hbg17, hbg18]
          replace hg20 := ifF rfl hg20
          replace hg20 := Option.some.inj hg20; subst hg20
          try simp -dsimp -implicitDefEqProofs (maxDischargeDepth := 6) [hbg15, hbg16, hbg17, hbg18]
          exact hK _ _ ⟨rfl, rfl⟩
         ·
          replace hg18 := ifT hbg18 hg18
          replace hg18 := Option.some.inj hg18; subst hg18
          try simp -dsimp -implicitDefEqProofs (maxDischargeDepth := 6) [hbg15, hbg16, hbg17, hbg18]
          cases hbg20 : (ile p0.Imm 4094)
          ·
           replace hg20 := ifF hbg20 hg20
           replace hg20 := Option.some.inj hg20; subst hg20
           try simp -dsimp -implicitDefEqProofs (maxDischargeDepth := 6) [hbg15, hbg16, hbg17, hbg18, hbg20]
           exact hK _ _ ⟨rfl, rfl⟩
          ·
           replace hg20 := ifT hbg20 hg20
           obtain ⟨v19, hv19, hg20⟩ := bindE hg20
           replace hg20 := Option.some.inj hg20; subst hg20
           try simp -dsimp -implicitDefEqProofs (maxDischargeDepth := 6) [hbg15, hbg16, hbg17, hbg18, hbg20, hv19]
           exact hK _ _ ⟨rfl, rfl⟩
     rintro a σ ⟨rfl, rfl⟩
     replace H := Option.some.inj H; subst H
     refine AWP_kp [2] [(2, .bool g20)] rfl ?_
     refine AWP_ret ?_
     exact ⟨[.bool g20], by simp, 4, by simp [encL_nil]⟩
    ·
     replace H := ifF C4 H
     refine AWP_sr tok [] [1, 3, 26, 96] (fun a σ => a = [(1, .fptr [.int .i64 p0.Op, .int .i64 p0.Rd, .int .i64 p0.Rs, .int .i64 p0.Rt, .int .i64 p0.Imm] 0), (3, .bool r1), (26, .int .u8 r5), (96, .bool (ieq r5 85))] ∧ σ = hp E0 [] (N0 + 36)) (fun K hK => ?_) ?_
     ·
      skip
      simp -dsimp -implicitDefEqProofs (maxDischargeDepth := 6)
      exact hK _ _ ⟨rfl, rfl⟩
     rintro a σ ⟨rfl, rfl⟩
     refine AWP_cond (ieq r5 85) rfl (fun C5 => ?_) (fun C5 => ?_)
     ·
      replace H := ifT C5 H
      obtain ⟨g21, hg21, H⟩ := bindE H
      obtain ⟨g22, hg22, H⟩ := bindE H
      obtain ⟨g23, hg23, H⟩ := bindE H
      obtain ⟨g24, hg24, H⟩ := bindE H
      refine AWP_sr tok [] [2] (fun a σ => a = [(2, .bool g24)] ∧ σ = hp E0 [] (N0 + 58)) (fun K hK => ?_) ?_
      ·
       skip
       simp -dsimp -implicitDefEqProofs (maxDischargeDepth := 6)
       cases hbg21 : r1
       ·
        replace hg21 := ifF hbg21 hg21
        replace hg21 := Option.some.inj hg21; subst hg21
        try simp -dsimp -implicitDefEqProofs (maxDischargeDepth := 6) [hbg21]
        replace hg22 := ifF rfl hg22
        replace hg22 := Option.some.inj hg22; subst hg22
        try simp -dsimp -implicitDefEqProofs (maxDischargeDepth := 6) [hbg21]
        replace hg23 := ifF rfl hg23
        replace hg23 := Option.some.inj hg23; subst hg23
        try simp -dsimp -implicitDefEqProofs (maxDischargeDepth := 6) [hbg21]
        replace hg24 := ifF rfl hg24
        replace hg24 := Option.some.inj hg24; subst hg24
        try simp -dsimp -implicitDefEqProofs (maxDischargeDepth := 6) [hbg21]
        exact hK _ _ ⟨rfl, rfl⟩
       ·
        replace hg21 := ifT hbg21 hg21
        replace hg21 := Option.some.inj hg21; subst hg21
        try simp -dsimp -implicitDefEqProofs (maxDischargeDepth := 6) [hbg21]
        cases hbg22 : (ieq p0.Rs 0)
        ·
         replace hg22 := ifF hbg22 hg22
         replace hg22 := Option.some.inj hg22; subst hg22
         try simp -dsimp -implicitDefEqProofs (maxDischargeDepth := 6) [hbg21, hbg22]
         replace hg23 := ifF rfl hg23
         replace hg23 := Option.some.inj hg23; subst hg23
         try simp -dsimp -implicitDefEqProofs (maxDischargeDepth := 6) [hbg21, hbg22]
         replace hg24 := ifF rfl hg24
         replace hg24 := Option.some.inj hg24; subst hg24
         try simp -dsimp -implicitDefEqProofs (maxDischargeDepth := 6) [hbg21, hbg22]
         exact hK _ _ ⟨rfl, rfl⟩
        ·
         replace hg22 := ifT hbg22 hg22
         replace hg22 := Option.some.inj hg22; subst hg22
         try simp -dsimp -implicitDefEqProofs (maxDischargeDepth := 6) [hbg21, hbg22]
         cases hbg23 : (ieq p0.Rt 0)
         ·
          replace hg23 := ifF hbg23 hg23
          replace hg23 := Option.some.inj hg23; subst hg23
          try simp -dsimp -implicitDefEqProofs (maxDischargeDepth := 6) [hbg21, hbg22, hbg23]
          replace hg24 := ifF rfl hg24
          replace hg24 := Option.some.inj hg24; subst hg24
          try simp -dsimp -implicitDefEqProofs (maxDischargeDepth := 6) [hbg21, hbg22, hbg23]
          exact hK _ _ ⟨rfl, rfl⟩
         ·
          replace hg23 := ifT hbg23 hg23
          replace hg23 := Option.some.inj hg23; subst hg23
          try simp -dsimp -implicitDefEqProofs (maxDischargeDepth := 6) [hbg21, hbg22, hbg23]
          cases hbg24 : (ige p0.Imm 0)
          ·
           replace hg24 := ifF hbg24 hg24
           replace hg24 := Option.some.inj hg24; subst hg24
           try simp -dsimp -implicitDefEqProofs (maxDischargeDepth := 6) [hbg21, hbg22, hbg23, hbg24]
           exact hK _ _ ⟨rfl, rfl⟩
          ·
           replace hg24 := ifT hbg24 hg24
           replace hg24 := Option.some.inj hg24; subst hg24
           try simp -dsimp -implicitDefEqProofs (maxDischargeDepth := 6) [hbg21, hbg22, hbg23, hbg24]
           exact hK _ _ ⟨rfl, rfl⟩
      rintro a σ ⟨rfl, rfl⟩
      replace H := Option.some.inj H; subst H
      refine AWP_kp [2] [(2, .bool g24)] rfl ?_
      refine AWP_ret ?_
      exact ⟨[.bool g24], by simp, 4, by simp [encL_nil]⟩
     ·
      replace H := ifF C5 H
      refine AWP_sr tok [] [1, 3, 26, 119] (fun a σ => a = [(1, .fptr [.int .i64 p0.Op, .int .i64 p0.Rd, .int .i64 p0.Rs, .int .i64 p0.Rt, .int .i64 p0.Imm] 0), (3, .bool r1), (26, .int .u8 r5), (119, .bool (ieq r5 74))] ∧ σ = hp E0 [] (N0 + 38)) (fun K hK => ?_) ?_
      ·
       skip
       simp -dsimp -implicitDefEqProofs (maxDischargeDepth := 6)
       exact hK _ _ ⟨rfl, rfl⟩
      rintro a σ ⟨rfl, rfl⟩
      refine AWP_cond (ieq r5 74) rfl (fun C6 => ?_) (fun C6 => ?_)
      ·
       replace H := ifT C6 H
       obtain ⟨g25, hg25, H⟩ := bindE H
       obtain ⟨g26, hg26, H⟩ := bindE H
       obtain ⟨g27, hg27, H⟩ := bindE H
       obtain ⟨g28, hg28, H⟩ := bindE H
       obtain ⟨g30, hg30, H⟩ := bindE H
       refine AWP_sr tok [] [2] (fun a σ => a = [(2, .bool g30)] ∧ σ = hp E0 [] (N0 + 66)) (fun K hK => ?_) ?_
       ·
        skip
        simp -dsimp -implicitDefEqProofs (maxDischargeDepth := 6)
        cases hbg25 : r1
        ·
         replace hg25 := ifF hbg25 hg25
         replace hg25 := Option.some.inj hg25; subst hg25
         try simp -dsimp -implicitDefEqProofs (maxDischargeDepth := 6) [hbg25]
         replace hg26 := ifF rfl hg26
         replace hg26 := Option.some.inj hg26; subst hg26
         try simp -dsimp -implicitDefEqProofs (maxDischargeDepth := 6) [hbg25]
         replace hg27 := ifF rfl hg27
         replace hg27 := Option.some.inj hg27; subst hg27
         try simp -dsimp -implicitDefEqProofs (maxDischargeDepth := 6) [hbg25]
         replace hg28 := ifF rfl hg28
         replace hg28 := Option.some.inj hg28; subst hg28
         try simp -dsimp -implicitDefEqProofs (maxDischargeDepth := 6) [hbg25]
         replace hg30 := ifF rfl hg30
         replace hg30 := Option.some.inj hg30; subst hg30
         try simp -dsimp -implicitDefEqProofs (maxDischargeDepth := 6) [hbg25]
         exact hK _ _ ⟨rfl, rfl⟩
        ·
         replace hg25 := ifT hbg25 hg25
         replace hg25 := Option.some.inj hg25; subst hg25
         try simp -dsimp -implicitDefEqProofs (maxDischargeDepth := 6) [hbg25]
         cases hbg26 : (ieq p0.Rs 0)
         ·
          replace hg26 := ifF hbg26 hg26
          replace hg26 := Option.some.inj hg26; subst hg26
          try simp -dsimp -implicitDefEqProofs (maxDischargeDepth := 6) [hbg25, hbg26]
          replace hg27 := ifF rfl hg27
          replace hg27 := Option.some.inj hg27; subst hg27
          try simp -dsimp -implicitDefEqProofs (maxDischargeDepth := 6) [hbg25, hbg26]
          replace hg28 := ifF rfl hg28
          replace hg28 := Option.some.inj hg28; subst hg28
          try simp -dsimp -implicitDefEqProofs (maxDischargeDepth := 6) [hbg25, hbg26]
          replace hg30 := ifF rfl hg30
          replace hg30 := Option.some.inj hg30; subst hg30
          try simp -dsimp -implicitDefEqProofs (maxDischargeDepth := 6) [hbg25, hbg26]
          exact hK _ _ ⟨rfl, rfl⟩
         ·
          replace hg26 := ifT hbg26 hg26
          replace hg26 := Option.some.inj hg26; subst hg26
          try simp -dsimp -implicitDefEqProofs (maxDischargeDepth := 6) [hbg25, hbg26]
          cases hbg27 : (ieq p0.Rt 0)
          ·
           replace hg27 := ifF hbg27 hg27
           replace hg27 := Option.some.inj hg27; subst hg27
           try simp -dsimp -implicitDefEqProofs (maxDischargeDepth := 6) [hbg25, hbg26, hbg27]
           replace hg28 := ifF rfl hg28
           replace hg28 := Option.some.inj hg28; subst hg28
           try simp -dsimp -implicitDefEqProofs (maxDischargeDepth := 6) [hbg25, hbg26, hbg27]
           replace hg30 := ifF rfl hg30
           replace hg30 := Option.some.inj hg30; subst hg30
           try simp -dsimp -implicitDefEqProofs (maxDischargeDepth := 6) [hbg25, hbg26, hbg27]
           exact hK _ _ ⟨rfl, rfl⟩
          ·
           replace hg27 := ifT hbg27 hg27
           replace hg27 := Option.some.inj hg27; subst hg27
           try simp -dsimp -implicitDefEqProofs (maxDischargeDepth := 6) [hbg25, hbg26, hbg27]
           cases hbg28 : (ige p0.Imm (-1048576))
           ·
            replace hg28 := ifF hbg28 hg28
            replace hg28 := Option.some.inj hg28; subst hg28
            try simp -dsimp -implicitDefEqProofs (maxDischargeDepth := 6) [hbg25, hbg26, hbg27, hbg28]
            replace hg30 := ifF rfl hg30
            replace hg30 := Option.some.inj hg30; subst hg30
            try simp -dsimp -implicitDefEqProofs (maxDischargeDepth := 6) [hbg25, hbg26, hbg27, hbg28]
            exact hK _ _ ⟨rfl, rfl⟩
           ·
            replace hg28 := ifT hbg28 hg28
            replace hg28 := Option.some.inj hg28; subst hg28
            try simp -dsimp -implicitDefEqProofs (maxDischargeDepth := 6) [hbg25, hbg26, hbg27, hbg28]
            cases hbg30 : (ile p0.Imm 1048574)
            ·
             replace hg30 := ifF hbg30 hg30
             replace hg30 := Option.some.inj hg30; subst hg30
             try simp -dsimp -implicitDefEqProofs (maxDischargeDepth := 6) [hbg25, hbg26, hbg27, hbg28, hbg30]
             exact hK _ _ ⟨rfl, rfl⟩
            ·
             replace hg30 := ifT hbg30 hg30
             obtain ⟨v29, hv29, hg30⟩ := bindE hg30
             replace hg30 := Option.some.inj hg30; subst hg30
             try simp -dsimp -implicitDefEqProofs (maxDischargeDepth := 6) [hbg25, hbg26, hbg27, hbg28, hbg30, hv29]
             exact hK _ _ ⟨rfl, rfl⟩
       rintro a σ ⟨rfl, rfl⟩
       replace H := Option.some.inj H; subst H
       refine AWP_kp [2] [(2, .bool g30)] rfl ?_
       refine AWP_ret ?_
       exact ⟨[.bool g30], by simp, 4, by simp [encL_nil]⟩
      ·
       replace H := ifF C6 H
       refine AWP_sr tok [] [1, 148] (fun a σ => a = [(1, .fptr [.int .i64 p0.Op, .int .i64 p0.Rd, .int .i64 p0.Rs, .int .i64 p0.Rt, .int .i64 p0.Imm] 0), (148, .bool (ieq r5 69))] ∧ σ = hp E0 [] (N0 + 40)) (fun K hK => ?_) ?_
       ·
        skip
        simp -dsimp -implicitDefEqProofs (maxDischargeDepth := 6)
        exact hK _ _ ⟨rfl, rfl⟩
       rintro a σ ⟨rfl, rfl⟩
       refine AWP_cond (ieq r5 69) rfl (fun C7 => ?_) (fun C7 => ?_)
       ·
        replace H := ifT C7 H
        refine AWP_sr tok [] [2] (fun a σ => a = [(2, .bool (eqD p0 (⟨21, 0, 0, 0, 0⟩ : gInstr)))] ∧ σ = hp E0 [] (N0 + 44)) (fun K hK => ?_) ?_
        ·
         skip
         simp -dsimp -implicitDefEqProofs (maxDischargeDepth := 6)
         exact hK _ _ ⟨rfl, rfl⟩
        rintro a σ ⟨rfl, rfl⟩
        replace H := Option.some.inj H; subst H
        refine AWP_kp [2] [(2, .bool (eqD p0 (⟨21, 0, 0, 0, 0⟩ : gInstr)))] rfl ?_
        refine AWP_ret ?_
        exact ⟨[.bool (eqD p0 (⟨21, 0, 0, 0, 0⟩ : gInstr))], by simp, 4, by simp [encL_nil]⟩
       ·
        replace H := ifF C7 H
        refine AWP_skip ?_
        show K1 _ _
        refine keepE (l := []) (x := []) rfl fun a' ha => ?_
        refine hK1 _ _ ?_; rw [ha]
        refine Rc.mk ?_
        refine AWP_sr tok [] [2] (fun a σ => a = [(2, .bool false)] ∧ σ = hp E0 [] (N0 + 41)) (fun K hK => ?_) ?_
        ·
         skip
         simp -dsimp -implicitDefEqProofs (maxDischargeDepth := 6)
         exact hK _ _ ⟨rfl, rfl⟩
        rintro a σ ⟨rfl, rfl⟩
        replace H := Option.some.inj H; subst H
        refine AWP_kp [2] [(2, .bool false)] rfl ?_
        refine AWP_ret ?_
        exact ⟨[.bool false], by simp, 4, by simp [encL_nil]⟩
theorem c73 {p0 : Int} {r : Bool} (H : i_WordValid p0 = some r) : APure Tryd.prog G 73 [.int .i64 p0] (.bool r) := by
 refine APure_fn (fun N0 => ?_) (by simp)
 refine ACalls_fn tok Tryd.func73 (by kernel_rfl) rfl Tryd.ntmps73 Tryd.results73 rfl ?_
 simp only [argsA, Nat.reduceAdd, hp_next]
 unfold i_WordValid at H
 refine AWP_sr tok [] [0] (fun a σ => a = [(0, .int .i64 p0)] ∧ σ = hp E0 [] (N0 + 1)) (fun K hK => ?_) ?_
 ·
  skip
  simp -dsimp -implicitDefEqProofs (maxDischargeDepth := 6)
  exact hK _ _ ⟨rfl, rfl⟩
 rintro a σ ⟨rfl, rfl⟩
 obtain ⟨g1, hg1, H⟩ := bindE H
 refine AWP_sr tok [] [2] (fun a σ => a = [(2, .bool g1)] ∧ σ = hp E0 [] (N0 + 8)) (fun K hK => ?_) ?_
 ·
  skip
  simp -dsimp -implicitDefEqProofs (maxDischargeDepth := 6)
  cases hbg1 : ige p0 (-2147483648)
  ·
   replace hg1 := ifF hbg1 hg1
   replace hg1 := Option.some.inj hg1; subst hg1
   try simp -dsimp -implicitDefEqProofs (maxDischargeDepth := 6) [hbg1]
   exact hK _ _ ⟨rfl, rfl⟩
  ·
   replace hg1 := ifT hbg1 hg1
   replace hg1 := Option.some.inj hg1; subst hg1
   try simp -dsimp -implicitDefEqProofs (maxDischargeDepth := 6) [hbg1]
   exact hK _ _ ⟨rfl, rfl⟩
 rintro a σ ⟨rfl, rfl⟩
 replace H := Option.some.inj H; subst H
 refine AWP_kp [2] [(2, .bool g1)] rfl ?_
 refine AWP_ret ?_
 exact ⟨[.bool g1], by simp, 4, by simp [encL_nil]⟩
theorem c128 {p0 : Int} {r : Int} (H : i_Unsigned p0 = some r) : APure Tryd.prog G 128 [.int .i64 p0] (.int .i64 r) := by
 refine APure_fn (fun N0 => ?_) (by simp)
 refine ACalls_fn tok Tryd.func128 (by kernel_rfl) rfl Tryd.ntmps128 Tryd.results128 rfl ?_
 simp only [argsA, Nat.reduceAdd, hp_next]
 unfold i_Unsigned at H
 refine AWP_sr tok [] [0] (fun a σ => a = [(0, .int .i64 p0)] ∧ σ = hp E0 [] (N0 + 1)) (fun K hK => ?_) ?_
 ·
  skip
  simp -dsimp -implicitDefEqProofs (maxDischargeDepth := 6)
  exact hK _ _ ⟨rfl, rfl⟩
 rintro a σ ⟨rfl, rfl⟩
 refine AWP_sq [0] fun K1 hK1 => ?_
 obtain ⟨r1, hr1, H⟩ := bindE H
 refine AWP_sr tok [] [0, 5] (fun a σ => a = [(0, .int .i64 p0), (5, .bool (bnot r1))] ∧ σ = hp E0 [] (N0 + 4)) (fun K hK => ?_) ?_
 ·
  skip
  simp -dsimp -implicitDefEqProofs (maxDischargeDepth := 6)
  refine (c73 hr1).app ?_; try simp -dsimp -implicitDefEqProofs (maxDischargeDepth := 6)
  exact hK _ _ ⟨rfl, rfl⟩
 rintro a σ ⟨rfl, rfl⟩
 refine AWP_cond (bnot r1) rfl (fun C1 => ?_) (fun C1 => ?_)
 ·
  replace H := ifT C1 H
  refine AWP_sr tok [] [2] (fun a σ => a = [(2, .int .i64 (-1))] ∧ σ = hp E0 [] (N0 + 5)) (fun K hK => ?_) ?_
  ·
   skip
   simp -dsimp -implicitDefEqProofs (maxDischargeDepth := 6)
   exact hK _ _ ⟨rfl, rfl⟩
  rintro a σ ⟨rfl, rfl⟩
  replace H := Option.some.inj H; subst H
  refine AWP_kp [2] [(2, .int .i64 (-1))] rfl ?_
  refine AWP_ret ?_
  exact ⟨[.int .i64 (-1)], by simp, 4, by simp [encL_nil]⟩
 ·
  replace H := ifF C1 H
  refine AWP_skip ?_
  show K1 _ _
  refine keepE (l := [0]) (x := [(0, .int .i64 p0)]) rfl fun a' ha => ?_
  refine hK1 _ _ ?_; rw [ha]
  refine Rc.mk ?_
  refine AWP_sr tok [] [2] (fun a σ => a = [(2, .int .i64 (iconv .i64 (iconv .u32 p0)))] ∧ σ = hp E0 [] (N0 + 8)) (fun K hK => ?_) ?_
  ·
   skip
   simp -dsimp -implicitDefEqProofs (maxDischargeDepth := 6)
   exact hK _ _ ⟨rfl, rfl⟩
  rintro a σ ⟨rfl, rfl⟩
  replace H := Option.some.inj H; subst H
  refine AWP_kp [2] [(2, .int .i64 (iconv .i64 (iconv .u32 p0)))] rfl ?_
  refine AWP_ret ?_
  exact ⟨[.int .i64 (iconv .i64 (iconv .u32 p0))], by simp, 4, by simp [encL_nil]⟩
theorem c146 {p0 : Int} {r : Bool} (H : i_isUnsigned p0 = some r) : APure Tryd.prog G 146 [.int .i64 p0] (.bool r) := by
 refine APure_fn (fun N0 => ?_) (by simp)
 refine ACalls_fn tok Tryd.func146 (by kernel_rfl) rfl Tryd.ntmps146 Tryd.results146 rfl ?_
 simp only [argsA, Nat.reduceAdd, hp_next]
 unfold i_isUnsigned at H
 refine AWP_sr tok [] [0] (fun a σ => a = [(0, .int .i64 p0)] ∧ σ = hp E0 [] (N0 + 1)) (fun K hK => ?_) ?_
 ·
  skip
  simp -dsimp -implicitDefEqProofs (maxDischargeDepth := 6)
  exact hK _ _ ⟨rfl, rfl⟩
 rintro a σ ⟨rfl, rfl⟩
 obtain ⟨g1, hg1, H⟩ := bindE H
 refine AWP_sr tok [] [2] (fun a σ => a = [(2, .bool g1)] ∧ σ = hp E0 [] (N0 + 8)) (fun K hK => ?_) ?_
 ·
  skip
  simp -dsimp -implicitDefEqProofs (maxDischargeDepth := 6)
  cases hbg1 : ige p0 0
  ·
   replace hg1 := ifF hbg1 hg1
   replace hg1 := Option.some.inj hg1; subst hg1
   try simp -dsimp -implicitDefEqProofs (maxDischargeDepth := 6) [hbg1]
   exact hK _ _ ⟨rfl, rfl⟩
  ·
   replace hg1 := ifT hbg1 hg1
   replace hg1 := Option.some.inj hg1; subst hg1
   try simp -dsimp -implicitDefEqProofs (maxDischargeDepth := 6) [hbg1]
   exact hK _ _ ⟨rfl, rfl⟩
 rintro a σ ⟨rfl, rfl⟩
 replace H := Option.some.inj H; subst H
 refine AWP_kp [2] [(2, .bool g1)] rfl ?_
 refine AWP_ret ?_
 exact ⟨[.bool g1], by simp, 4, by simp [encL_nil]⟩
theorem c127 {p0 : Int} {p1 : Int} {p2 : Int} {r : Int} (H : i_Bits p0 p1 p2 = some r) : APure Tryd.prog G 127 [.int .i64 p0, .int .i64 p1, .int .i64 p2] (.int .i64 r) := by
 refine APure_fn (fun N0 => ?_) (by simp)
 refine ACalls_fn tok Tryd.func127 (by kernel_rfl) rfl Tryd.ntmps127 Tryd.results127 rfl ?_
 simp only [argsA, Nat.reduceAdd, hp_next]
 unfold i_Bits at H
 refine AWP_sr tok [] [0, 1, 2] (fun a σ => a = [(0, .int .i64 p0), (1, .int .i64 p1), (2, .int .i64 p2)] ∧ σ = hp E0 [] (N0 + 1)) (fun K hK => ?_) ?_
 ·
  skip
  simp -dsimp -implicitDefEqProofs (maxDischargeDepth := 6)
  exact hK _ _ ⟨rfl, rfl⟩
 rintro a σ ⟨rfl, rfl⟩
 refine AWP_sq [0, 1, 2] fun K1 hK1 => ?_
 obtain ⟨r1, hr1, H⟩ := bindE H
 obtain ⟨g2, hg2, H⟩ := bindE H
 obtain ⟨g3, hg3, H⟩ := bindE H
 obtain ⟨g4, hg4, H⟩ := bindE H
 obtain ⟨g5, hg5, H⟩ := bindE H
 refine AWP_sr tok [] [0, 1, 2, 27] (fun a σ => a = [(0, .int .i64 p0), (1, .int .i64 p1), (2, .int .i64 p2), (27, .bool g5)] ∧ σ = hp E0 [] (N0 + 22)) (fun K hK => ?_) ?_
 ·
  skip
  simp -dsimp -implicitDefEqProofs (maxDischargeDepth := 6)
  refine (c146 hr1).app ?_; try simp -dsimp -implicitDefEqProofs (maxDischargeDepth := 6)
  cases hbg2 : bnot r1
  ·
   replace hg2 := ifF hbg2 hg2
   replace hg2 := Option.some.inj hg2; subst hg2
   try simp -dsimp -implicitDefEqProofs (maxDischargeDepth := 6) [hbg2]
   cases hbg3 : (ilt p1 0)
   ·
    replace hg3 := ifF hbg3 hg3
    replace hg3 := Option.some.inj hg3; subst hg3
    try simp -dsimp -implicitDefEqProofs (maxDischargeDepth := 6) [hbg2, hbg3]
    cases hbg4 : (igt p1 31)
    ·
     replace hg4 := ifF hbg4 hg4
     replace hg4 := Option.some.inj hg4; subst hg4
     try simp -dsimp -implicitDefEqProofs (maxDischargeDepth := 6) [hbg2, hbg3, hbg4]
     cases hbg5 : (ilt p2 1)
     ·
      replace hg5 := ifF hbg5 hg5
      replace hg5 := Option.some.inj hg5; subst hg5
      try simp -dsimp -implicitDefEqProofs (maxDischargeDepth := 6) [hbg2, hbg3, hbg4, hbg5]
      exact hK _ _ ⟨rfl, rfl⟩
     ·
      replace hg5 := ifT hbg5 hg5
      replace hg5 := Option.some.inj hg5; subst hg5
      try simp -dsimp -implicitDefEqProofs (maxDischargeDepth := 6) [hbg2, hbg3, hbg4, hbg5]
      exact hK _ _ ⟨rfl, rfl⟩
    ·
     replace hg4 := ifT hbg4 hg4
     replace hg4 := Option.some.inj hg4; subst hg4
     try simp -dsimp -implicitDefEqProofs (maxDischargeDepth := 6) [hbg2, hbg3, hbg4]
     replace hg5 := ifT rfl hg5
     replace hg5 := Option.some.inj hg5; subst hg5
     try simp -dsimp -implicitDefEqProofs (maxDischargeDepth := 6) [hbg2, hbg3, hbg4]
     exact hK _ _ ⟨rfl, rfl⟩
   ·
    replace hg3 := ifT hbg3 hg3
    replace hg3 := Option.some.inj hg3; subst hg3
    try simp -dsimp -implicitDefEqProofs (maxDischargeDepth := 6) [hbg2, hbg3]
    replace hg4 := ifT rfl hg4
    replace hg4 := Option.some.inj hg4; subst hg4
    try simp -dsimp -implicitDefEqProofs (maxDischargeDepth := 6) [hbg2, hbg3]
    replace hg5 := ifT rfl hg5
    replace hg5 := Option.some.inj hg5; subst hg5
    try simp -dsimp -implicitDefEqProofs (maxDischargeDepth := 6) [hbg2, hbg3]
    exact hK _ _ ⟨rfl, rfl⟩
  ·
   replace hg2 := ifT hbg2 hg2
   replace hg2 := Option.some.inj hg2; subst hg2
   try simp -dsimp -implicitDefEqProofs (maxDischargeDepth := 6) [hbg2]
   replace hg3 := ifT rfl hg3
   replace hg3 := Option.some.inj hg3; subst hg3
   try simp -dsimp -implicitDefEqProofs (maxDischargeDepth := 6) [hbg2]
   replace hg4 := ifT rfl hg4
   replace hg4 := Option.some.inj hg4; subst hg4
   try simp -dsimp -implicitDefEqProofs (maxDischargeDepth := 6) [hbg2]
   replace hg5 := ifT rfl hg5
   replace hg5 := Option.some.inj hg5; subst hg5
   try simp -dsimp -implicitDefEqProofs (maxDischargeDepth := 6) [hbg2]
   exact hK _ _ ⟨rfl, rfl⟩
 rintro a σ ⟨rfl, rfl⟩
 refine AWP_cond g5 rfl (fun C1 => ?_) (fun C1 => ?_)
 ·
  replace H := ifT C1 H
  refine AWP_sr tok [] [6] (fun a σ => a = [(6, .int .i64 0)] ∧ σ = hp E0 [] (N0 + 23)) (fun K hK => ?_) ?_
  ·
   skip
   simp -dsimp -implicitDefEqProofs (maxDischargeDepth := 6)
   exact hK _ _ ⟨rfl, rfl⟩
  rintro a σ ⟨rfl, rfl⟩
  replace H := Option.some.inj H; subst H
  refine AWP_kp [6] [(6, .int .i64 0)] rfl ?_
  refine AWP_ret ?_
  exact ⟨[.int .i64 0], by simp, 4, by simp [encL_nil]⟩
 ·
  replace H := ifF C1 H
  refine AWP_skip ?_
  show K1 _ _
  refine keepE (l := [0, 1, 2]) (x := [(0, .int .i64 p0), (1, .int .i64 p1), (2, .int .i64 p2)]) rfl fun a' ha => ?_
  refine hK1 _ _ ?_; rw [ha]
  refine Rc.mk ?_
  obtain ⟨v6, hv6, H⟩ := bindE H
  obtain ⟨v7, hv7, H⟩ := bindE H
  refine AWP_sd tok tokM [] [] [0, 1, 2, 3, 4, 5, 6, 7] [6] (fun a σ => a = [(6, .int .i64 (iand .i64 v6 (isub .i64 v7 1)))] ∧ σ = hp E0 [] (N0 + 30)) (by decide) (fun K hK => ?_) ?_
  ·
   simp only [pickL, nthO_succ, nthO_zero]
   simp -dsimp -implicitDefEqProofs (maxDischargeDepth := 6) [hv6, hv7]
   exact hK _ _ ⟨rfl, rfl⟩
  rintro a σ ⟨rfl, rfl⟩
  replace H := Option.some.inj H; subst H
  refine AWP_kp [6] [(6, .int .i64 (iand .i64 v6 (isub .i64 v7 1)))] rfl ?_
  refine AWP_ret ?_
  exact ⟨[.int .i64 (iand .i64 v6 (isub .i64 v7 1))], by simp, 4, by simp [encL_nil]⟩
end Go.Proofs.YtoklfbdcghgmlaaDoor
