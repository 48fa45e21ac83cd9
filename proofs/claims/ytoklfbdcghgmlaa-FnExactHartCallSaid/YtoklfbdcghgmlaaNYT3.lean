/- The contracts of functions of the program, part 3: each computes what its mirror computes. No conditions. -/
import Derived.Test.YtoklfbdcghgmlaaNYT2
set_option linter.unusedSimpArgs false
set_option linter.unusedVariables false
set_option maxRecDepth 20000
set_option maxHeartbeats 4000000
namespace Go.Proofs.Ytoklfbdcghgmlaa
open Go Go.Abs Go.RowKit

theorem c13_o5 {p0 : gMachine} {p1 : (List gBox)} {r : gMachine × (List gBox) × (List Int) × Int} (H : i_HartCall_o5 p0 p1 = some r) {σ : AHeap} : ACalls Try.prog G 13 [.agg [.fsl (encL rI p0.Regs), .int .i64 p0.Pc, .fsl (encL rI p0.Mem)], .fsl (encL rBox p1)] σ (fun v σ' => ∃ M n0 n1 n2 n3 : Nat, σ.next ≤ M ∧ σ.next ≤ n0 ∧ n0 < M ∧ σ.next ≤ n1 ∧ n1 < M ∧ σ.next ≤ n2 ∧ n2 < M ∧ σ.next ≤ n3 ∧ n3 < M ∧ ¬ n0 = n1 ∧ ¬ n0 = n2 ∧ ¬ n0 = n3 ∧ ¬ n1 = n2 ∧ ¬ n1 = n3 ∧ ¬ n2 = n3 ∧ v = .tup [.agg [.sl n0 0 r.1.Regs.length, .int .i64 r.1.Pc, .sl n1 0 r.1.Mem.length], .sl n2 0 r.2.1.length, .sl n3 0 r.2.2.1.length, .int .i64 r.2.2.2] ∧ σ' = hp σ.objs [(n0, some ⟨3, 1, encL rI r.1.Regs⟩), (n1, some ⟨3, 1, encL rI r.1.Mem⟩), (n2, some ⟨64, 2, encL rBox_o r.2.1⟩), (n3, some ⟨3, 1, encL rI r.2.2.1⟩)] M) := by
 refine ACalls_fr (L := []) (Q1 := fun v σ' => ∃ M n0 n1 n2 n3 : Nat, σ.next ≤ M ∧ σ.next ≤ n0 ∧ n0 < M ∧ σ.next ≤ n1 ∧ n1 < M ∧ σ.next ≤ n2 ∧ n2 < M ∧ σ.next ≤ n3 ∧ n3 < M ∧ ¬ n0 = n1 ∧ ¬ n0 = n2 ∧ ¬ n0 = n3 ∧ ¬ n1 = n2 ∧ ¬ n1 = n3 ∧ ¬ n2 = n3 ∧ v = .tup [.agg [.sl n0 0 r.1.Regs.length, .int .i64 r.1.Pc, .sl n1 0 r.1.Mem.length], .sl n2 0 r.2.1.length, .sl n3 0 r.2.2.1.length, .int .i64 r.2.2.2] ∧ σ' = hp E0 [(n0, some ⟨3, 1, encL rI r.1.Regs⟩), (n1, some ⟨3, 1, encL rI r.1.Mem⟩), (n2, some ⟨64, 2, encL rBox_o r.2.1⟩), (n3, some ⟨3, 1, encL rI r.2.2.1⟩)] M) (by simp []) (fun hlt => ?_) ?_ ⟨_, Try.func13, rfl, rfl⟩
 rotate_left
 ·
  rintro v σ1 ⟨M, n0, n1, n2, n3, h0, h1, h2, h3, h4, h5, h6, h7, h8, h9, h10, h11, h12, h13, h14, rfl, rfl⟩
  exact ⟨_, M, rfl, by simp, by simp; try omega, M, n0, n1, n2, n3, h0, h1, h2, h3, h4, h5, h6, h7, h8, h9, h10, h11, h12, h13, h14, rfl, rfl⟩
 generalize σ.next = N0 at hlt ⊢
 refine ACalls_thaw 4 ?_
 refine ACalls_fn tok Try.func13 (by kernel_rfl) rfl Try.ntmps13 Try.results13 rfl ?_
 simp only [argsA, Nat.reduceAdd, hp_next]
 unfold i_HartCall_o5 at H
 refine AWP_sr tok [0] [1, 2, 4] (fun a σ => a = [(1, .fsl (encL rBox p1)), (2, .fptr [.fsl (encL rI p0.Regs), .int .i64 p0.Pc, .fsl (encL rI p0.Mem)] 0), (4, .ptr (N0 + 1) 0 0)] ∧ σ = hp E0 [(N0 + 1, some ⟨28, 3, [[.nilsl, .int .i64 0, .nilsl]]⟩)] (N0 + 5)) (fun K hK => ?_) ?_
 ·
  skip
  simp -dsimp -implicitDefEqProofs (maxDischargeDepth := 6)
  exact hK _ _ ⟨rfl, rfl⟩
 rintro a σ ⟨rfl, rfl⟩
 refine AWP_sq [1, 2, 4] fun K1 hK1 => ?_
 refine gPk0 AWP_ref (o := (N0 + 1)) (ob := ⟨28, 3, [[.nilsl, .int .i64 0, .nilsl]]⟩) (row := [.nilsl, .int .i64 0, .nilsl]) (r := 0) (i := 0) 3 1 [(N0 + 1, some ⟨28, 3, [[.osl 3 1 (encL rI ([] : List Int)), .int .i64 0, .nilsl]]⟩)] (by simp (disch := omega)) rfl rfl (by simp (disch := omega)) (by simp (disch := omega) [encL_nil, List.set_set, app_set]) ?_
 refine gPk0 AWP_ref (o := (N0 + 1)) (ob := ⟨28, 3, [[.osl 3 1 (encL rI ([] : List Int)), .int .i64 0, .nilsl]]⟩) (row := [.osl 3 1 (encL rI ([] : List Int)), .int .i64 0, .nilsl]) (r := 0) (i := 2) 3 1 [(N0 + 1, some ⟨28, 3, [[.osl 3 1 (encL rI ([] : List Int)), .int .i64 0, .osl 3 1 (encL rI ([] : List Int))]]⟩)] (by simp (disch := omega)) rfl rfl (by simp (disch := omega)) (by simp (disch := omega) [encL_nil, List.set_set, app_set]) ?_
 obtain ⟨r1, hr1, H⟩ := bindE H
 obtain ⟨g3, hg3, H⟩ := bindE H
 refine AWP_sr tok [] [1, 2, 4, 19] (fun a σ => a = [(1, .fsl (encL rBox p1)), (2, .fptr [.fsl (encL rI p0.Regs), .int .i64 p0.Pc, .fsl (encL rI p0.Mem)] 0), (4, .ptr (N0 + 1) 0 0), (19, .bool g3)] ∧ σ = hp E0 [(N0 + 1, some ⟨28, 3, [[.osl 3 1 (encL rI ([] : List Int)), .int .i64 0, .osl 3 1 (encL rI ([] : List Int))]]⟩)] (N0 + 13)) (fun K hK => ?_) ?_
 ·
  skip
  simp -dsimp -implicitDefEqProofs (maxDischargeDepth := 6)
  refine (c50 hr1).app ?_; try simp -dsimp -implicitDefEqProofs (maxDischargeDepth := 6)
  cases hbg3 : bnot r1
  ·
   replace hg3 := ifF hbg3 hg3
   obtain ⟨r2, hr2, hg3⟩ := bindE hg3
   replace hg3 := Option.some.inj hg3; subst hg3
   try simp -dsimp -implicitDefEqProofs (maxDischargeDepth := 6) [hbg3]
   refine (c51 hr2).app ?_; try simp -dsimp -implicitDefEqProofs (maxDischargeDepth := 6) [hbg3]
   exact hK _ _ ⟨rfl, rfl⟩
  ·
   replace hg3 := ifT hbg3 hg3
   replace hg3 := Option.some.inj hg3; subst hg3
   try simp -dsimp -implicitDefEqProofs (maxDischargeDepth := 6) [hbg3]
   exact hK _ _ ⟨rfl, rfl⟩
 rintro a σ ⟨rfl, rfl⟩
 refine AWP_cond g3 rfl (fun C1 => ?_) (fun C1 => ?_)
 ·
  replace H := ifT C1 H
  refine AWP_sr tok [0] [4, 5, 6, 7] (fun a σ => a = [(4, .ptr (N0 + 1) 0 0), (5, .nilsl), (6, .nilsl), (7, .int .i64 0)] ∧ σ = hp E0 [(N0 + 1, some ⟨28, 3, [[.nilsl, .int .i64 0, .nilsl]]⟩)] (N0 + 18)) (fun K hK => ?_) ?_
  ·
   skip
   simp -dsimp -implicitDefEqProofs (maxDischargeDepth := 6)
   exact hK _ _ ⟨rfl, rfl⟩
  rintro a σ ⟨rfl, rfl⟩
  replace H := Option.some.inj H; subst H
  refine AWP_kp [4, 5, 6, 7] [(4, .ptr (N0 + 1) 0 0), (5, .nilsl), (6, .nilsl), (7, .int .i64 0)] rfl ?_
  refine gPk0 AWP_ref (o := (N0 + 1)) (ob := ⟨28, 3, [[.nilsl, .int .i64 0, .nilsl]]⟩) (row := [.nilsl, .int .i64 0, .nilsl]) (r := 0) (i := 0) 3 1 [(N0 + 1, some ⟨28, 3, [[.osl 3 1 (encL rI ([] : List Int)), .int .i64 0, .nilsl]]⟩)] (by simp (disch := omega)) rfl rfl (by simp (disch := omega)) (by simp (disch := omega) [encL_nil, List.set_set, app_set]) ?_
  refine gPk0 AWP_ref (o := (N0 + 1)) (ob := ⟨28, 3, [[.osl 3 1 (encL rI ([] : List Int)), .int .i64 0, .nilsl]]⟩) (row := [.osl 3 1 (encL rI ([] : List Int)), .int .i64 0, .nilsl]) (r := 0) (i := 2) 3 1 [(N0 + 1, some ⟨28, 3, [[.osl 3 1 (encL rI ([] : List Int)), .int .i64 0, .osl 3 1 (encL rI ([] : List Int))]]⟩)] (by simp (disch := omega)) rfl rfl (by simp (disch := omega)) (by simp (disch := omega) [encL_nil, List.set_set, app_set]) ?_
  refine gUnp AWP_ref (ty := 3) (sz := 1) (es := encL rI ([] : List Int)) (o := (N0 + 1)) (ob := ⟨28, 3, [[.osl 3 1 (encL rI ([] : List Int)), .int .i64 0, .osl 3 1 (encL rI ([] : List Int))]]⟩) (row := [.osl 3 1 (encL rI ([] : List Int)), .int .i64 0, .osl 3 1 (encL rI ([] : List Int))]) (r := 0) (i := 0) [(N0 + 1, some ⟨28, 3, [[.sl (N0 + 18) 0 ([] : List Int).length, .int .i64 0, .osl 3 1 (encL rI ([] : List Int))]]⟩), (N0 + 18, some ⟨3, 1, encL rI ([] : List Int)⟩)] (by simp (disch := omega)) rfl rfl (by simp (disch := omega) [List.set_set]) ?_
  refine gUnp AWP_ref (ty := 3) (sz := 1) (es := encL rI ([] : List Int)) (o := (N0 + 1)) (ob := ⟨28, 3, [[.sl (N0 + 18) 0 ([] : List Int).length, .int .i64 0, .osl 3 1 (encL rI ([] : List Int))]]⟩) (row := [.sl (N0 + 18) 0 ([] : List Int).length, .int .i64 0, .osl 3 1 (encL rI ([] : List Int))]) (r := 0) (i := 2) [(N0 + 1, some ⟨28, 3, [[.sl (N0 + 18) 0 ([] : List Int).length, .int .i64 0, .sl (N0 + 19) 0 ([] : List Int).length]]⟩), (N0 + 18, some ⟨3, 1, encL rI ([] : List Int)⟩), (N0 + 19, some ⟨3, 1, encL rI ([] : List Int)⟩)] (by simp (disch := omega)) rfl rfl (by simp (disch := omega) [List.set_set]) ?_
  refine gNilS AWP_ref 5 64 2 [(N0 + 1, some ⟨28, 3, [[.sl (N0 + 18) 0 ([] : List Int).length, .int .i64 0, .sl (N0 + 19) 0 ([] : List Int).length]]⟩), (N0 + 18, some ⟨3, 1, encL rI ([] : List Int)⟩), (N0 + 19, some ⟨3, 1, encL rI ([] : List Int)⟩), (N0 + 20, some ⟨64, 2, encL rBox_o ([] : List gBox)⟩)] [(4, .ptr (N0 + 1) 0 0), (5, .sl (N0 + 20) 0 ([] : List gBox).length), (6, .nilsl), (7, .int .i64 0)] (by simp (disch := omega)) (by simp (disch := omega) [encL_nil]) [4, 5, 6, 7] rfl ?_
  refine gNilS AWP_ref 6 3 1 [(N0 + 1, some ⟨28, 3, [[.sl (N0 + 18) 0 ([] : List Int).length, .int .i64 0, .sl (N0 + 19) 0 ([] : List Int).length]]⟩), (N0 + 18, some ⟨3, 1, encL rI ([] : List Int)⟩), (N0 + 19, some ⟨3, 1, encL rI ([] : List Int)⟩), (N0 + 20, some ⟨64, 2, encL rBox_o ([] : List gBox)⟩), (N0 + 21, some ⟨3, 1, encL rI ([] : List Int)⟩)] [(4, .ptr (N0 + 1) 0 0), (5, .sl (N0 + 20) 0 ([] : List gBox).length), (6, .sl (N0 + 21) 0 ([] : List Int).length), (7, .int .i64 0)] (by simp (disch := omega)) (by simp (disch := omega) [encL_nil]) [4, 5, 6, 7] rfl ?_
  refine AWP_ret ?_
  refine ⟨[.agg [.sl (N0 + 18) 0 ([] : List Int).length, .int .i64 0, .sl (N0 + 19) 0 ([] : List Int).length], .sl (N0 + 20) 0 ([] : List gBox).length, .sl (N0 + 21) 0 ([] : List Int).length, .int .i64 0], by simp, (fun o => [N0 + 1].contains o), N0 + 22, N0 + 18, N0 + 19, N0 + 20, N0 + 21, by omega, by omega, by omega, by omega, by omega, by omega, by omega, by omega, by omega, by omega, by omega, by omega, by omega, by omega, by omega, ?_, ?_⟩
  ·
   simp [encL_nil]
  ·
   rw [cutD (L' := [(N0 + 18, some ⟨3, 1, encL rI ([] : List Int)⟩), (N0 + 19, some ⟨3, 1, encL rI ([] : List Int)⟩), (N0 + 20, some ⟨64, 2, encL rBox_o ([] : List gBox)⟩), (N0 + 21, some ⟨3, 1, encL rI ([] : List Int)⟩)]) (by simp)]
   first | done | rfl | simp [List.set_set]
 ·
  replace H := ifF C1 H
  refine AWP_skip ?_
  show K1 _ _
  refine keepE (l := [1, 2, 4]) (x := [(1, .fsl (encL rBox p1)), (2, .fptr [.fsl (encL rI p0.Regs), .int .i64 p0.Pc, .fsl (encL rI p0.Mem)] 0), (4, .ptr (N0 + 1) 0 0)]) rfl fun a' ha => ?_
  refine hK1 _ _ ?_; rw [ha]
  refine Rc.mk ?_
  obtain ⟨r4, hr4, H⟩ := bindE H
  refine AWP_sr tok [] [1, 4, 8] (fun a σ => ∃ M1 o1 o2 : Nat, N0 + 17 ≤ M1 ∧ N0 + 17 ≤ o1 ∧ o1 < M1 ∧ N0 + 17 ≤ o2 ∧ o2 < M1 ∧ ¬ o1 = o2 ∧ a = [(1, .fsl (encL rBox p1)), (4, .ptr (N0 + 1) 0 0), (8, .ptr (N0 + 15) 0 0)] ∧ σ = hp E0 [(N0 + 1, some ⟨28, 3, [[.osl 3 1 (encL rI ([] : List Int)), .int .i64 0, .osl 3 1 (encL rI ([] : List Int))]]⟩), (o1, some ⟨3, 1, encL rI r4.Regs⟩), (o2, some ⟨3, 1, encL rI r4.Mem⟩), (N0 + 15, some ⟨28, 3, [[.sl o1 0 r4.Regs.length, .int .i64 r4.Pc, .sl o2 0 r4.Mem.length]]⟩)] M1) (fun K hK => ?_) ?_
  ·
   skip
   simp -dsimp -implicitDefEqProofs (maxDischargeDepth := 6)
   refine (c52_o2 (H := hr4) ).mono ?_; rintro _ _ ⟨M1, o1, o2, fM1_0, fM1_1, fM1_2, fM1_3, fM1_4, fM1_5, rfl, rfl⟩; simp only [hp_next] at fM1_0 fM1_1 fM1_2 fM1_3 fM1_4 fM1_5
   have eM1_0 := nq (a := o1) (b := N0 + 1) (by omega)
   have eM1_1 := nq (a := o1) (b := N0 + 15) (by omega)
   have eM1_2 := nq (a := o1) (b := o2) (by omega)
   have eM1_3 := nq (a := o2) (b := N0 + 1) (by omega)
   have eM1_4 := nq (a := o2) (b := N0 + 15) (by omega)
   try simp -dsimp -implicitDefEqProofs (maxDischargeDepth := 6) [eM1_0, eM1_1, eM1_2, eM1_3, eM1_4, hp_over_some, hp_over_none]
   exact hK _ _ ⟨M1, o1, o2, (by omega), (by omega), (by omega), (by omega), (by omega), (by omega), rfl, rfl⟩
  rintro a σ ⟨M1, o1, o2, fM1_0, fM1_1, fM1_2, fM1_3, fM1_4, fM1_5, rfl, rfl⟩
  refine gPk AWP_ref (k := r4.Regs.length) (o := (N0 + 15)) (ob := ⟨28, 3, [[.sl o1 0 r4.Regs.length, .int .i64 r4.Pc, .sl o2 0 r4.Mem.length]]⟩) (row := [.sl o1 0 r4.Regs.length, .int .i64 r4.Pc, .sl o2 0 r4.Mem.length]) (d := o1) (obd := ⟨3, 1, encL rI r4.Regs⟩) (r := 0) (i := 0) [(N0 + 1, some ⟨28, 3, [[.osl 3 1 (encL rI ([] : List Int)), .int .i64 0, .osl 3 1 (encL rI ([] : List Int))]]⟩), (o2, some ⟨3, 1, encL rI r4.Mem⟩), (N0 + 15, some ⟨28, 3, [[.osl 3 1 (encL rI r4.Regs), .int .i64 r4.Pc, .sl o2 0 r4.Mem.length]]⟩)] (by simp (disch := omega)) rfl rfl (by simp (disch := omega)) (by simp (disch := omega)) (by first | omega | simp) (by simp (disch := omega) [List.set_set, app_set] <;> omega) (by simp (disch := omega) [List.set_set, app_set]) ?_
  refine gPk AWP_ref (k := r4.Mem.length) (o := (N0 + 15)) (ob := ⟨28, 3, [[.osl 3 1 (encL rI r4.Regs), .int .i64 r4.Pc, .sl o2 0 r4.Mem.length]]⟩) (row := [.osl 3 1 (encL rI r4.Regs), .int .i64 r4.Pc, .sl o2 0 r4.Mem.length]) (d := o2) (obd := ⟨3, 1, encL rI r4.Mem⟩) (r := 0) (i := 2) [(N0 + 1, some ⟨28, 3, [[.osl 3 1 (encL rI ([] : List Int)), .int .i64 0, .osl 3 1 (encL rI ([] : List Int))]]⟩), (N0 + 15, some ⟨28, 3, [[.osl 3 1 (encL rI r4.Regs), .int .i64 r4.Pc, .osl 3 1 (encL rI r4.Mem)]]⟩)] (by simp (disch := omega)) rfl rfl (by simp (disch := omega)) (by simp (disch := omega)) (by first | omega | simp) (by simp (disch := omega) [List.set_set, app_set] <;> omega) (by simp (disch := omega) [List.set_set, app_set]) ?_
  obtain ⟨r5, hr5, H⟩ := bindE H
  refine AWP_sr tok [] [4, 8, 9] (fun a σ => ∃ M2 o3 : Nat, M1 + 3 ≤ M2 ∧ M1 + 3 ≤ o3 ∧ o3 < M2 ∧ a = [(4, .ptr (N0 + 1) 0 0), (8, .ptr (N0 + 15) 0 0), (9, .sl o3 0 r5.length)] ∧ σ = hp E0 [(N0 + 1, some ⟨28, 3, [[.osl 3 1 (encL rI ([] : List Int)), .int .i64 0, .osl 3 1 (encL rI ([] : List Int))]]⟩), (N0 + 15, some ⟨28, 3, [[.osl 3 1 (encL rI r4.Regs), .int .i64 r4.Pc, .osl 3 1 (encL rI r4.Mem)]]⟩), (o3, some ⟨64, 2, encL rBox_o r5⟩)] M2) (fun K hK => ?_) ?_
  ·
   skip
   simp -dsimp -implicitDefEqProofs (maxDischargeDepth := 6)
   refine (c53_o2 (H := hr5) ).mono ?_; rintro _ _ ⟨M2, o3, fM2_0, fM2_1, fM2_2, rfl, rfl⟩; simp only [hp_next] at fM2_0 fM2_1 fM2_2
   have eM2_0 := nq (a := o3) (b := N0 + 1) (by omega)
   have eM2_1 := nq (a := o3) (b := N0 + 15) (by omega)
   try simp -dsimp -implicitDefEqProofs (maxDischargeDepth := 6) [eM2_0, eM2_1, hp_over_some, hp_over_none]
   exact hK _ _ ⟨M2, o3, (by omega), (by omega), (by omega), rfl, rfl⟩
  rintro a σ ⟨M2, o3, fM2_0, fM2_1, fM2_2, rfl, rfl⟩
  refine AWP_sr tok [] [4, 8, 9, 10] (fun a σ => a = [(4, .ptr (N0 + 1) 0 0), (8, .ptr (N0 + 15) 0 0), (9, .sl o3 0 r5.length), (10, .ptr M2 0 0)] ∧ σ = hp E0 [(N0 + 1, some ⟨28, 3, [[.osl 3 1 (encL rI ([] : List Int)), .int .i64 0, .osl 3 1 (encL rI ([] : List Int))]]⟩), (N0 + 15, some ⟨28, 3, [[.osl 3 1 (encL rI r4.Regs), .int .i64 r4.Pc, .osl 3 1 (encL rI r4.Mem)]]⟩), (o3, some ⟨64, 2, encL rBox_o r5⟩), (M2, some ⟨22, 1, [[.nilsl]]⟩)] (M2 + 1)) (fun K hK => ?_) ?_
  ·
   skip
   have e0 := nq (a := N0 + 1) (b := o3) (by omega)
   have e1 := nq (a := N0 + 1) (b := M2) (by omega)
   have e2 := nq (a := N0 + 15) (b := o3) (by omega)
   have e3 := nq (a := N0 + 15) (b := M2) (by omega)
   have e4 := nq (a := o3) (b := M2) (by omega)
   simp -dsimp -implicitDefEqProofs (maxDischargeDepth := 6) [e0, e1, e2, e3, e4]
   exact hK _ _ ⟨rfl, rfl⟩
  rintro a σ ⟨rfl, rfl⟩
  refine gPk0 AWP_ref (o := M2) (ob := ⟨22, 1, [[.nilsl]]⟩) (row := [.nilsl]) (r := 0) (i := 0) 3 1 [(N0 + 1, some ⟨28, 3, [[.osl 3 1 (encL rI ([] : List Int)), .int .i64 0, .osl 3 1 (encL rI ([] : List Int))]]⟩), (N0 + 15, some ⟨28, 3, [[.osl 3 1 (encL rI r4.Regs), .int .i64 r4.Pc, .osl 3 1 (encL rI r4.Mem)]]⟩), (o3, some ⟨64, 2, encL rBox_o r5⟩), (M2, some ⟨22, 1, [[.osl 3 1 (encL rI ([] : List Int))]]⟩)] (by simp (disch := omega)) rfl rfl (by simp (disch := omega)) (by simp (disch := omega) [encL_nil, List.set_set, app_set]) ?_
  obtain ⟨r6, hr6, H⟩ := bindE H
  refine AWP_sr tok [] [4, 8, 9, 10, 11] (fun a σ => ∃ M3 : Nat, M2 + 4 ≤ M3 ∧ r6.2.2.1.length = r5.length ∧ a = [(4, .ptr (N0 + 1) 0 0), (8, .ptr (N0 + 15) 0 0), (9, .sl o3 0 r5.length), (10, .ptr M2 0 0), (11, .int .i64 r6.1)] ∧ σ = hp E0 [(N0 + 1, some ⟨28, 3, [[.osl 3 1 (encL rI ([] : List Int)), .int .i64 0, .osl 3 1 (encL rI ([] : List Int))]]⟩), (N0 + 15, some ⟨28, 3, [[.osl 3 1 (encL rI r6.2.1.Regs), .int .i64 r6.2.1.Pc, .osl 3 1 (encL rI r6.2.1.Mem)]]⟩), (o3, some ⟨64, 2, encL rBox_o r6.2.2.1⟩), (M2, some ⟨22, 1, [[.osl 3 1 (encL rI r6.2.2.2)]]⟩)] M3) (fun K hK => ?_) ?_
  ·
   skip
   have e0 := nq (a := N0 + 1) (b := o3) (by omega)
   have e1 := nq (a := N0 + 1) (b := M2) (by omega)
   have e2 := nq (a := N0 + 15) (b := o3) (by omega)
   have e3 := nq (a := N0 + 15) (b := M2) (by omega)
   have e4 := nq (a := o3) (b := M2) (by omega)
   simp -dsimp -implicitDefEqProofs (maxDischargeDepth := 6) [e0, e1, e2, e3, e4]
   refine (c54_moo (W0 := [[.osl 3 1 (encL rI r4.Regs), .int .i64 r4.Pc, .osl 3 1 (encL rI r4.Mem)]]) (r0_ := 0) (W2 := [[.osl 3 1 (encL rI ([] : List Int))]]) (r2_ := 0) (x2_ := [.osl 3 1 (encL rI ([] : List Int))]) (i2_ := 0) (t2_ := 22) (s2_ := 1) (H := hr6) (by simp [e0, e1, e2, e3, e4]) (by simp [e0, e1, e2, e3, e4]) (by simp [e0, e1, e2, e3, e4]) (by simp [e0, e1, e2, e3, e4]) (by simp [e0, e1, e2, e3, e4]) (by simp [e0, e1, e2, e3, e4]) (by simp [e0, e1, e2, e3, e4]) (by simp [e0, e1, e2, e3, e4]) (by simp [e0, e1, e2, e3, e4])).mono ?_; rintro _ _ ⟨M3, fM3_0, fM3_1, rfl, rfl⟩; simp only [hp_next] at fM3_0
   try simp -dsimp -implicitDefEqProofs (maxDischargeDepth := 6) [e0, e1, e2, e3, e4, hp_over_some, hp_over_none]
   exact hK _ _ ⟨M3, (by omega), fM3_1, rfl, rfl⟩
  rintro a σ ⟨M3, fM3_0, fM3_1, rfl, rfl⟩
  try rw [← fM3_1]
  refine AWP_sq [4, 8, 9, 10, 11] fun K2 hK2 => ?_
  refine AWP_sr tok [] [4, 8, 9, 10, 11, 28] (fun a σ => a = [(4, .ptr (N0 + 1) 0 0), (8, .ptr (N0 + 15) 0 0), (9, .sl o3 0 r6.2.2.1.length), (10, .ptr M2 0 0), (11, .int .i64 r6.1), (28, .bool (ieq r6.1 0))] ∧ σ = hp E0 [(N0 + 1, some ⟨28, 3, [[.osl 3 1 (encL rI ([] : List Int)), .int .i64 0, .osl 3 1 (encL rI ([] : List Int))]]⟩), (N0 + 15, some ⟨28, 3, [[.osl 3 1 (encL rI r6.2.1.Regs), .int .i64 r6.2.1.Pc, .osl 3 1 (encL rI r6.2.1.Mem)]]⟩), (o3, some ⟨64, 2, encL rBox_o r6.2.2.1⟩), (M2, some ⟨22, 1, [[.osl 3 1 (encL rI r6.2.2.2)]]⟩)] (M3 + 2)) (fun K hK => ?_) ?_
  ·
   skip
   have e0 := nq (a := N0 + 1) (b := o3) (by omega)
   have e1 := nq (a := N0 + 1) (b := M2) (by omega)
   have e2 := nq (a := N0 + 15) (b := o3) (by omega)
   have e3 := nq (a := N0 + 15) (b := M2) (by omega)
   have e4 := nq (a := o3) (b := M2) (by omega)
   simp -dsimp -implicitDefEqProofs (maxDischargeDepth := 6) [e0, e1, e2, e3, e4]
   exact hK _ _ ⟨rfl, rfl⟩
  rintro a σ ⟨rfl, rfl⟩
  refine AWP_cond (ieq r6.1 0) rfl (fun C2 => ?_) (fun C2 => ?_)
  ·
   replace H := ifT C2 H
   refine AWP_sr tok [0] [4, 5, 6, 7] (fun a σ => a = [(4, .ptr (N0 + 1) 0 0), (5, .nilsl), (6, .nilsl), (7, .int .i64 0)] ∧ σ = hp E0 [(N0 + 1, some ⟨28, 3, [[.nilsl, .int .i64 0, .nilsl]]⟩), (N0 + 15, some ⟨28, 3, [[.osl 3 1 (encL rI r6.2.1.Regs), .int .i64 r6.2.1.Pc, .osl 3 1 (encL rI r6.2.1.Mem)]]⟩), (o3, some ⟨64, 2, encL rBox_o r6.2.2.1⟩), (M2, some ⟨22, 1, [[.osl 3 1 (encL rI r6.2.2.2)]]⟩)] (M3 + 7)) (fun K hK => ?_) ?_
   ·
    skip
    have e0 := nq (a := N0 + 1) (b := o3) (by omega)
    have e1 := nq (a := N0 + 1) (b := M2) (by omega)
    have e2 := nq (a := N0 + 15) (b := o3) (by omega)
    have e3 := nq (a := N0 + 15) (b := M2) (by omega)
    have e4 := nq (a := o3) (b := M2) (by omega)
    simp -dsimp -implicitDefEqProofs (maxDischargeDepth := 6) [e0, e1, e2, e3, e4]
    exact hK _ _ ⟨rfl, rfl⟩
   rintro a σ ⟨rfl, rfl⟩
   replace H := Option.some.inj H; subst H
   refine AWP_kp [4, 5, 6, 7] [(4, .ptr (N0 + 1) 0 0), (5, .nilsl), (6, .nilsl), (7, .int .i64 0)] rfl ?_
   refine gPk0 AWP_ref (o := (N0 + 1)) (ob := ⟨28, 3, [[.nilsl, .int .i64 0, .nilsl]]⟩) (row := [.nilsl, .int .i64 0, .nilsl]) (r := 0) (i := 0) 3 1 [(N0 + 1, some ⟨28, 3, [[.osl 3 1 (encL rI ([] : List Int)), .int .i64 0, .nilsl]]⟩), (N0 + 15, some ⟨28, 3, [[.osl 3 1 (encL rI r6.2.1.Regs), .int .i64 r6.2.1.Pc, .osl 3 1 (encL rI r6.2.1.Mem)]]⟩), (o3, some ⟨64, 2, encL rBox_o r6.2.2.1⟩), (M2, some ⟨22, 1, [[.osl 3 1 (encL rI r6.2.2.2)]]⟩)] (by simp (disch := omega)) rfl rfl (by simp (disch := omega)) (by simp (disch := omega) [encL_nil, List.set_set, app_set]) ?_
   refine gPk0 AWP_ref (o := (N0 + 1)) (ob := ⟨28, 3, [[.osl 3 1 (encL rI ([] : List Int)), .int .i64 0, .nilsl]]⟩) (row := [.osl 3 1 (encL rI ([] : List Int)), .int .i64 0, .nilsl]) (r := 0) (i := 2) 3 1 [(N0 + 1, some ⟨28, 3, [[.osl 3 1 (encL rI ([] : List Int)), .int .i64 0, .osl 3 1 (encL rI ([] : List Int))]]⟩), (N0 + 15, some ⟨28, 3, [[.osl 3 1 (encL rI r6.2.1.Regs), .int .i64 r6.2.1.Pc, .osl 3 1 (encL rI r6.2.1.Mem)]]⟩), (o3, some ⟨64, 2, encL rBox_o r6.2.2.1⟩), (M2, some ⟨22, 1, [[.osl 3 1 (encL rI r6.2.2.2)]]⟩)] (by simp (disch := omega)) rfl rfl (by simp (disch := omega)) (by simp (disch := omega) [encL_nil, List.set_set, app_set]) ?_
   refine gUnp AWP_ref (ty := 3) (sz := 1) (es := encL rI ([] : List Int)) (o := (N0 + 1)) (ob := ⟨28, 3, [[.osl 3 1 (encL rI ([] : List Int)), .int .i64 0, .osl 3 1 (encL rI ([] : List Int))]]⟩) (row := [.osl 3 1 (encL rI ([] : List Int)), .int .i64 0, .osl 3 1 (encL rI ([] : List Int))]) (r := 0) (i := 0) [(N0 + 1, some ⟨28, 3, [[.sl (M3 + 7) 0 ([] : List Int).length, .int .i64 0, .osl 3 1 (encL rI ([] : List Int))]]⟩), (N0 + 15, some ⟨28, 3, [[.osl 3 1 (encL rI r6.2.1.Regs), .int .i64 r6.2.1.Pc, .osl 3 1 (encL rI r6.2.1.Mem)]]⟩), (o3, some ⟨64, 2, encL rBox_o r6.2.2.1⟩), (M2, some ⟨22, 1, [[.osl 3 1 (encL rI r6.2.2.2)]]⟩), (M3 + 7, some ⟨3, 1, encL rI ([] : List Int)⟩)] (by simp (disch := omega)) rfl rfl (by simp (disch := omega) [List.set_set]) ?_
   refine gUnp AWP_ref (ty := 3) (sz := 1) (es := encL rI ([] : List Int)) (o := (N0 + 1)) (ob := ⟨28, 3, [[.sl (M3 + 7) 0 ([] : List Int).length, .int .i64 0, .osl 3 1 (encL rI ([] : List Int))]]⟩) (row := [.sl (M3 + 7) 0 ([] : List Int).length, .int .i64 0, .osl 3 1 (encL rI ([] : List Int))]) (r := 0) (i := 2) [(N0 + 1, some ⟨28, 3, [[.sl (M3 + 7) 0 ([] : List Int).length, .int .i64 0, .sl (M3 + 8) 0 ([] : List Int).length]]⟩), (N0 + 15, some ⟨28, 3, [[.osl 3 1 (encL rI r6.2.1.Regs), .int .i64 r6.2.1.Pc, .osl 3 1 (encL rI r6.2.1.Mem)]]⟩), (o3, some ⟨64, 2, encL rBox_o r6.2.2.1⟩), (M2, some ⟨22, 1, [[.osl 3 1 (encL rI r6.2.2.2)]]⟩), (M3 + 7, some ⟨3, 1, encL rI ([] : List Int)⟩), (M3 + 8, some ⟨3, 1, encL rI ([] : List Int)⟩)] (by simp (disch := omega)) rfl rfl (by simp (disch := omega) [List.set_set]) ?_
   refine gNilS AWP_ref 5 64 2 [(N0 + 1, some ⟨28, 3, [[.sl (M3 + 7) 0 ([] : List Int).length, .int .i64 0, .sl (M3 + 8) 0 ([] : List Int).length]]⟩), (N0 + 15, some ⟨28, 3, [[.osl 3 1 (encL rI r6.2.1.Regs), .int .i64 r6.2.1.Pc, .osl 3 1 (encL rI r6.2.1.Mem)]]⟩), (o3, some ⟨64, 2, encL rBox_o r6.2.2.1⟩), (M2, some ⟨22, 1, [[.osl 3 1 (encL rI r6.2.2.2)]]⟩), (M3 + 7, some ⟨3, 1, encL rI ([] : List Int)⟩), (M3 + 8, some ⟨3, 1, encL rI ([] : List Int)⟩), (M3 + 9, some ⟨64, 2, encL rBox_o ([] : List gBox)⟩)] [(4, .ptr (N0 + 1) 0 0), (5, .sl (M3 + 9) 0 ([] : List gBox).length), (6, .nilsl), (7, .int .i64 0)] (by simp (disch := omega)) (by simp (disch := omega) [encL_nil]) [4, 5, 6, 7] rfl ?_
   refine gNilS AWP_ref 6 3 1 [(N0 + 1, some ⟨28, 3, [[.sl (M3 + 7) 0 ([] : List Int).length, .int .i64 0, .sl (M3 + 8) 0 ([] : List Int).length]]⟩), (N0 + 15, some ⟨28, 3, [[.osl 3 1 (encL rI r6.2.1.Regs), .int .i64 r6.2.1.Pc, .osl 3 1 (encL rI r6.2.1.Mem)]]⟩), (o3, some ⟨64, 2, encL rBox_o r6.2.2.1⟩), (M2, some ⟨22, 1, [[.osl 3 1 (encL rI r6.2.2.2)]]⟩), (M3 + 7, some ⟨3, 1, encL rI ([] : List Int)⟩), (M3 + 8, some ⟨3, 1, encL rI ([] : List Int)⟩), (M3 + 9, some ⟨64, 2, encL rBox_o ([] : List gBox)⟩), (M3 + 10, some ⟨3, 1, encL rI ([] : List Int)⟩)] [(4, .ptr (N0 + 1) 0 0), (5, .sl (M3 + 9) 0 ([] : List gBox).length), (6, .sl (M3 + 10) 0 ([] : List Int).length), (7, .int .i64 0)] (by simp (disch := omega)) (by simp (disch := omega) [encL_nil]) [4, 5, 6, 7] rfl ?_
   have z0 := nq (a := N0 + 1) (b := o3) (by omega)
   have z1 := nq (a := N0 + 1) (b := M2) (by omega)
   have z2 := nq (a := N0 + 1) (b := M3 + 7) (by omega)
   have z3 := nq (a := N0) (b := M3 + 6) (by omega)
   have z4 := nq (a := N0 + 1) (b := M3 + 8) (by omega)
   have z5 := nq (a := N0) (b := M3 + 7) (by omega)
   have z6 := nq (a := N0 + 1) (b := M3 + 9) (by omega)
   have z7 := nq (a := N0) (b := M3 + 8) (by omega)
   have z8 := nq (a := N0 + 1) (b := M3 + 10) (by omega)
   have z9 := nq (a := N0) (b := M3 + 9) (by omega)
   have z10 := nq (a := N0 + 15) (b := o3) (by omega)
   have z11 := nq (a := N0 + 15) (b := M2) (by omega)
   have z12 := nq (a := N0 + 15) (b := M3 + 7) (by omega)
   have z13 := nq (a := N0 + 8) (b := M3) (by omega)
   have z14 := nq (a := N0 + 15) (b := M3 + 8) (by omega)
   have z15 := nq (a := N0 + 7) (b := M3) (by omega)
   have z16 := nq (a := N0 + 15) (b := M3 + 9) (by omega)
   have z17 := nq (a := N0 + 6) (b := M3) (by omega)
   have z18 := nq (a := N0 + 15) (b := M3 + 10) (by omega)
   have z19 := nq (a := N0 + 5) (b := M3) (by omega)
   have z20 := nq (a := o3) (b := M2) (by omega)
   have z21 := nq (a := o3) (b := M3 + 7) (by omega)
   have z22 := nq (a := o3) (b := M3 + 8) (by omega)
   have z23 := nq (a := o3) (b := M3 + 9) (by omega)
   have z24 := nq (a := o3) (b := M3 + 10) (by omega)
   have z25 := nq (a := M2) (b := M3 + 7) (by omega)
   have z26 := nq (a := M2) (b := M3 + 8) (by omega)
   have z27 := nq (a := M2) (b := M3 + 9) (by omega)
   have z28 := nq (a := M2) (b := M3 + 10) (by omega)
   refine gDrop AWP_ref [(N0 + 1, some ⟨28, 3, [[.sl (M3 + 7) 0 ([] : List Int).length, .int .i64 0, .sl (M3 + 8) 0 ([] : List Int).length]]⟩), (M3 + 7, some ⟨3, 1, encL rI ([] : List Int)⟩), (M3 + 8, some ⟨3, 1, encL rI ([] : List Int)⟩), (M3 + 9, some ⟨64, 2, encL rBox_o ([] : List gBox)⟩), (M3 + 10, some ⟨3, 1, encL rI ([] : List Int)⟩)] (hp_skip (AHeap.Sub.trans (AHeap.Sub.trans (AHeap.Sub.trans (hp_skip (hp_skip (hp_skip (hp_skip (AHeap.Sub.refl _))))) (hp_drop rfl (by simp; try omega))) (hp_drop rfl (by simp; try omega))) (hp_drop rfl (by simp; try omega)))) ?_
   refine AWP_ret ?_
   refine ⟨[.agg [.sl (M3 + 7) 0 ([] : List Int).length, .int .i64 0, .sl (M3 + 8) 0 ([] : List Int).length], .sl (M3 + 9) 0 ([] : List gBox).length, .sl (M3 + 10) 0 ([] : List Int).length, .int .i64 0], by simp [z0, z1, z2, z3, z4, z5, z6, z7, z8, z9, z10, z11, z12, z13, z14, z15, z16, z17, z18, z19, z20, z21, z22, z23, z24, z25, z26, z27, z28], (fun o => [N0 + 1].contains o), M3 + 11, M3 + 7, M3 + 8, M3 + 9, M3 + 10, by omega, by omega, by omega, by omega, by omega, by omega, by omega, by omega, by omega, by omega, by omega, by omega, by omega, by omega, by omega, ?_, ?_⟩
   ·
    simp [encL_nil, z0, z1, z2, z3, z4, z5, z6, z7, z8, z9, z10, z11, z12, z13, z14, z15, z16, z17, z18, z19, z20, z21, z22, z23, z24, z25, z26, z27, z28]
   ·
    rw [cutD (L' := [(M3 + 7, some ⟨3, 1, encL rI ([] : List Int)⟩), (M3 + 8, some ⟨3, 1, encL rI ([] : List Int)⟩), (M3 + 9, some ⟨64, 2, encL rBox_o ([] : List gBox)⟩), (M3 + 10, some ⟨3, 1, encL rI ([] : List Int)⟩)]) (by simp [z0, z1, z2, z3, z4, z5, z6, z7, z8, z9, z10, z11, z12, z13, z14, z15, z16, z17, z18, z19, z20, z21, z22, z23, z24, z25, z26, z27, z28])]
    first | done | rfl | simp [List.set_set]
  ·
   replace H := ifF C2 H
   refine AWP_skip ?_
   show K2 _ _
   refine keepE (l := [4, 8, 9, 10, 11]) (x := [(4, .ptr (N0 + 1) 0 0), (8, .ptr (N0 + 15) 0 0), (9, .sl o3 0 r6.2.2.1.length), (10, .ptr M2 0 0), (11, .int .i64 r6.1)]) rfl fun a' ha => ?_
   refine hK2 _ _ ?_; rw [ha]
   refine Rc.mk ?_
   refine gUnp AWP_ref (ty := 3) (sz := 1) (es := encL rI r6.2.1.Regs) (o := (N0 + 15)) (ob := ⟨28, 3, [[.osl 3 1 (encL rI r6.2.1.Regs), .int .i64 r6.2.1.Pc, .osl 3 1 (encL rI r6.2.1.Mem)]]⟩) (row := [.osl 3 1 (encL rI r6.2.1.Regs), .int .i64 r6.2.1.Pc, .osl 3 1 (encL rI r6.2.1.Mem)]) (r := 0) (i := 0) [(N0 + 1, some ⟨28, 3, [[.osl 3 1 (encL rI ([] : List Int)), .int .i64 0, .osl 3 1 (encL rI ([] : List Int))]]⟩), (N0 + 15, some ⟨28, 3, [[.sl (M3 + 2) 0 r6.2.1.Regs.length, .int .i64 r6.2.1.Pc, .osl 3 1 (encL rI r6.2.1.Mem)]]⟩), (o3, some ⟨64, 2, encL rBox_o r6.2.2.1⟩), (M2, some ⟨22, 1, [[.osl 3 1 (encL rI r6.2.2.2)]]⟩), (M3 + 2, some ⟨3, 1, encL rI r6.2.1.Regs⟩)] (by simp (disch := omega)) rfl rfl (by simp (disch := omega) [List.set_set]) ?_
   refine gUnp AWP_ref (ty := 3) (sz := 1) (es := encL rI r6.2.1.Mem) (o := (N0 + 15)) (ob := ⟨28, 3, [[.sl (M3 + 2) 0 r6.2.1.Regs.length, .int .i64 r6.2.1.Pc, .osl 3 1 (encL rI r6.2.1.Mem)]]⟩) (row := [.sl (M3 + 2) 0 r6.2.1.Regs.length, .int .i64 r6.2.1.Pc, .osl 3 1 (encL rI r6.2.1.Mem)]) (r := 0) (i := 2) [(N0 + 1, some ⟨28, 3, [[.osl 3 1 (encL rI ([] : List Int)), .int .i64 0, .osl 3 1 (encL rI ([] : List Int))]]⟩), (N0 + 15, some ⟨28, 3, [[.sl (M3 + 2) 0 r6.2.1.Regs.length, .int .i64 r6.2.1.Pc, .sl (M3 + 3) 0 r6.2.1.Mem.length]]⟩), (o3, some ⟨64, 2, encL rBox_o r6.2.2.1⟩), (M2, some ⟨22, 1, [[.osl 3 1 (encL rI r6.2.2.2)]]⟩), (M3 + 2, some ⟨3, 1, encL rI r6.2.1.Regs⟩), (M3 + 3, some ⟨3, 1, encL rI r6.2.1.Mem⟩)] (by simp (disch := omega)) rfl rfl (by simp (disch := omega) [List.set_set]) ?_
   refine gUnp AWP_ref (ty := 3) (sz := 1) (es := encL rI r6.2.2.2) (o := M2) (ob := ⟨22, 1, [[.osl 3 1 (encL rI r6.2.2.2)]]⟩) (row := [.osl 3 1 (encL rI r6.2.2.2)]) (r := 0) (i := 0) [(N0 + 1, some ⟨28, 3, [[.osl 3 1 (encL rI ([] : List Int)), .int .i64 0, .osl 3 1 (encL rI ([] : List Int))]]⟩), (N0 + 15, some ⟨28, 3, [[.sl (M3 + 2) 0 r6.2.1.Regs.length, .int .i64 r6.2.1.Pc, .sl (M3 + 3) 0 r6.2.1.Mem.length]]⟩), (o3, some ⟨64, 2, encL rBox_o r6.2.2.1⟩), (M2, some ⟨22, 1, [[.sl (M3 + 4) 0 r6.2.2.2.length]]⟩), (M3 + 2, some ⟨3, 1, encL rI r6.2.1.Regs⟩), (M3 + 3, some ⟨3, 1, encL rI r6.2.1.Mem⟩), (M3 + 4, some ⟨3, 1, encL rI r6.2.2.2⟩)] (by simp (disch := omega)) rfl rfl (by simp (disch := omega) [List.set_set]) ?_
   refine AWP_sy tok tokM [] [0, 2, 4, 5] [1, 3, 0, 2, 4, 5, 6, 7] [(4, [2])] [4, 5, 6, 7] (fun a σ => a = [(4, .ptr (N0 + 1) 0 0), (5, .sl o3 0 r6.2.2.1.length), (6, .sl (M3 + 4) 0 r6.2.2.2.length), (7, .int .i64 r6.1)] ∧ σ = hp E0 [(N0 + 1, some ⟨28, 3, [[.sl (M3 + 2) 0 r6.2.1.Regs.length, .int .i64 r6.2.1.Pc, .sl (M3 + 3) 0 r6.2.1.Mem.length]]⟩), (N0 + 15, some ⟨28, 3, [[.sl (M3 + 2) 0 r6.2.1.Regs.length, .int .i64 r6.2.1.Pc, .sl (M3 + 3) 0 r6.2.1.Mem.length]]⟩), (o3, some ⟨64, 2, encL rBox_o r6.2.2.1⟩), (M2, some ⟨22, 1, [[.sl (M3 + 4) 0 r6.2.2.2.length]]⟩), (M3 + 2, some ⟨3, 1, encL rI r6.2.1.Regs⟩), (M3 + 3, some ⟨3, 1, encL rI r6.2.1.Mem⟩), (M3 + 4, some ⟨3, 1, encL rI r6.2.2.2⟩)] (M3 + 13)) (by decide) (fun K hK => ?_) ?_
   ·
    simp only [pickL, nthO_succ, nthO_zero]
    have e0 := nq (a := N0 + 1) (b := o3) (by omega)
    have e1 := nq (a := N0 + 1) (b := M2) (by omega)
    have e2 := nq (a := N0 + 1) (b := M3 + 2) (by omega)
    have e3 := nq (a := N0) (b := M3 + 1) (by omega)
    have e4 := nq (a := N0 + 1) (b := M3 + 3) (by omega)
    have e5 := nq (a := N0) (b := M3 + 2) (by omega)
    have e6 := nq (a := N0 + 1) (b := M3 + 4) (by omega)
    have e7 := nq (a := N0) (b := M3 + 3) (by omega)
    have e8 := nq (a := N0 + 15) (b := o3) (by omega)
    have e9 := nq (a := N0 + 15) (b := M2) (by omega)
    have e10 := nq (a := N0 + 15) (b := M3 + 2) (by omega)
    have e11 := nq (a := N0 + 13) (b := M3) (by omega)
    have e12 := nq (a := N0 + 15) (b := M3 + 3) (by omega)
    have e13 := nq (a := N0 + 12) (b := M3) (by omega)
    have e14 := nq (a := N0 + 15) (b := M3 + 4) (by omega)
    have e15 := nq (a := N0 + 11) (b := M3) (by omega)
    have e16 := nq (a := o3) (b := M2) (by omega)
    have e17 := nq (a := o3) (b := M3 + 2) (by omega)
    have e18 := nq (a := o3) (b := M3 + 3) (by omega)
    have e19 := nq (a := o3) (b := M3 + 4) (by omega)
    have e20 := nq (a := M2) (b := M3 + 2) (by omega)
    have e21 := nq (a := M2) (b := M3 + 3) (by omega)
    have e22 := nq (a := M2) (b := M3 + 4) (by omega)
    simp -dsimp -implicitDefEqProofs (maxDischargeDepth := 6) [e0, e1, e2, e3, e4, e5, e6, e7, e8, e9, e10, e11, e12, e13, e14, e15, e16, e17, e18, e19, e20, e21, e22]
    exact hK _ _ ⟨rfl, rfl⟩
   rintro a σ ⟨rfl, rfl⟩
   replace H := Option.some.inj H; subst H
   refine AWP_kp [4, 5, 6, 7] [(4, .ptr (N0 + 1) 0 0), (5, .sl o3 0 r6.2.2.1.length), (6, .sl (M3 + 4) 0 r6.2.2.2.length), (7, .int .i64 r6.1)] rfl ?_
   refine gDrop AWP_ref [(N0 + 1, some ⟨28, 3, [[.sl (M3 + 2) 0 r6.2.1.Regs.length, .int .i64 r6.2.1.Pc, .sl (M3 + 3) 0 r6.2.1.Mem.length]]⟩), (o3, some ⟨64, 2, encL rBox_o r6.2.2.1⟩), (M3 + 2, some ⟨3, 1, encL rI r6.2.1.Regs⟩), (M3 + 3, some ⟨3, 1, encL rI r6.2.1.Mem⟩), (M3 + 4, some ⟨3, 1, encL rI r6.2.2.2⟩)] (hp_skip (AHeap.Sub.trans (hp_skip (AHeap.Sub.trans (hp_skip (hp_skip (hp_skip (AHeap.Sub.refl _)))) (hp_drop rfl (by simp; try omega)))) (hp_drop rfl (by simp; try omega)))) ?_
   refine gPk AWP_ref (k := r6.2.1.Regs.length) (o := (N0 + 1)) (ob := ⟨28, 3, [[.sl (M3 + 2) 0 r6.2.1.Regs.length, .int .i64 r6.2.1.Pc, .sl (M3 + 3) 0 r6.2.1.Mem.length]]⟩) (row := [.sl (M3 + 2) 0 r6.2.1.Regs.length, .int .i64 r6.2.1.Pc, .sl (M3 + 3) 0 r6.2.1.Mem.length]) (d := (M3 + 2)) (obd := ⟨3, 1, encL rI r6.2.1.Regs⟩) (r := 0) (i := 0) [(N0 + 1, some ⟨28, 3, [[.osl 3 1 (encL rI r6.2.1.Regs), .int .i64 r6.2.1.Pc, .sl (M3 + 3) 0 r6.2.1.Mem.length]]⟩), (o3, some ⟨64, 2, encL rBox_o r6.2.2.1⟩), (M3 + 3, some ⟨3, 1, encL rI r6.2.1.Mem⟩), (M3 + 4, some ⟨3, 1, encL rI r6.2.2.2⟩)] (by simp (disch := omega)) rfl rfl (by simp (disch := omega)) (by simp (disch := omega)) (by first | omega | simp) (by simp (disch := omega) [List.set_set, app_set] <;> omega) (by simp (disch := omega) [List.set_set, app_set]) ?_
   refine gPk AWP_ref (k := r6.2.1.Mem.length) (o := (N0 + 1)) (ob := ⟨28, 3, [[.osl 3 1 (encL rI r6.2.1.Regs), .int .i64 r6.2.1.Pc, .sl (M3 + 3) 0 r6.2.1.Mem.length]]⟩) (row := [.osl 3 1 (encL rI r6.2.1.Regs), .int .i64 r6.2.1.Pc, .sl (M3 + 3) 0 r6.2.1.Mem.length]) (d := (M3 + 3)) (obd := ⟨3, 1, encL rI r6.2.1.Mem⟩) (r := 0) (i := 2) [(N0 + 1, some ⟨28, 3, [[.osl 3 1 (encL rI r6.2.1.Regs), .int .i64 r6.2.1.Pc, .osl 3 1 (encL rI r6.2.1.Mem)]]⟩), (o3, some ⟨64, 2, encL rBox_o r6.2.2.1⟩), (M3 + 4, some ⟨3, 1, encL rI r6.2.2.2⟩)] (by simp (disch := omega)) rfl rfl (by simp (disch := omega)) (by simp (disch := omega)) (by first | omega | simp) (by simp (disch := omega) [List.set_set, app_set] <;> omega) (by simp (disch := omega) [List.set_set, app_set]) ?_
   refine gUnp AWP_ref (ty := 3) (sz := 1) (es := encL rI r6.2.1.Regs) (o := (N0 + 1)) (ob := ⟨28, 3, [[.osl 3 1 (encL rI r6.2.1.Regs), .int .i64 r6.2.1.Pc, .osl 3 1 (encL rI r6.2.1.Mem)]]⟩) (row := [.osl 3 1 (encL rI r6.2.1.Regs), .int .i64 r6.2.1.Pc, .osl 3 1 (encL rI r6.2.1.Mem)]) (r := 0) (i := 0) [(N0 + 1, some ⟨28, 3, [[.sl (M3 + 13) 0 r6.2.1.Regs.length, .int .i64 r6.2.1.Pc, .osl 3 1 (encL rI r6.2.1.Mem)]]⟩), (o3, some ⟨64, 2, encL rBox_o r6.2.2.1⟩), (M3 + 4, some ⟨3, 1, encL rI r6.2.2.2⟩), (M3 + 13, some ⟨3, 1, encL rI r6.2.1.Regs⟩)] (by simp (disch := omega)) rfl rfl (by simp (disch := omega) [List.set_set]) ?_
   refine gUnp AWP_ref (ty := 3) (sz := 1) (es := encL rI r6.2.1.Mem) (o := (N0 + 1)) (ob := ⟨28, 3, [[.sl (M3 + 13) 0 r6.2.1.Regs.length, .int .i64 r6.2.1.Pc, .osl 3 1 (encL rI r6.2.1.Mem)]]⟩) (row := [.sl (M3 + 13) 0 r6.2.1.Regs.length, .int .i64 r6.2.1.Pc, .osl 3 1 (encL rI r6.2.1.Mem)]) (r := 0) (i := 2) [(N0 + 1, some ⟨28, 3, [[.sl (M3 + 13) 0 r6.2.1.Regs.length, .int .i64 r6.2.1.Pc, .sl (M3 + 14) 0 r6.2.1.Mem.length]]⟩), (o3, some ⟨64, 2, encL rBox_o r6.2.2.1⟩), (M3 + 4, some ⟨3, 1, encL rI r6.2.2.2⟩), (M3 + 13, some ⟨3, 1, encL rI r6.2.1.Regs⟩), (M3 + 14, some ⟨3, 1, encL rI r6.2.1.Mem⟩)] (by simp (disch := omega)) rfl rfl (by simp (disch := omega) [List.set_set]) ?_
   have z29 := nq (a := N0 + 1) (b := o3) (by omega)
   have z30 := nq (a := N0 + 1) (b := M3 + 4) (by omega)
   have z31 := nq (a := N0) (b := M3 + 3) (by omega)
   have z32 := nq (a := N0 + 1) (b := M3 + 13) (by omega)
   have z33 := nq (a := N0) (b := M3 + 12) (by omega)
   have z34 := nq (a := N0 + 1) (b := M3 + 14) (by omega)
   have z35 := nq (a := N0) (b := M3 + 13) (by omega)
   have z36 := nq (a := o3) (b := M3 + 4) (by omega)
   have z37 := nq (a := o3) (b := M3 + 13) (by omega)
   have z38 := nq (a := o3) (b := M3 + 14) (by omega)
   have z39 := nq (a := N0 + 1) (b := o3) (by omega)
   have z40 := nq (a := N0 + 1) (b := M3 + 4) (by omega)
   have z41 := nq (a := N0) (b := M3 + 3) (by omega)
   have z42 := nq (a := N0 + 1) (b := M3 + 13) (by omega)
   have z43 := nq (a := N0) (b := M3 + 12) (by omega)
   have z44 := nq (a := N0 + 1) (b := M3 + 14) (by omega)
   have z45 := nq (a := N0) (b := M3 + 13) (by omega)
   have z46 := nq (a := o3) (b := M3 + 4) (by omega)
   have z47 := nq (a := o3) (b := M3 + 13) (by omega)
   have z48 := nq (a := o3) (b := M3 + 14) (by omega)
   rw [show hp E0 [(N0 + 1, some ⟨28, 3, [[.sl (M3 + 13) 0 r6.2.1.Regs.length, .int .i64 r6.2.1.Pc, .sl (M3 + 14) 0 r6.2.1.Mem.length]]⟩), (o3, some ⟨64, 2, encL rBox_o r6.2.2.1⟩), (M3 + 4, some ⟨3, 1, encL rI r6.2.2.2⟩), (M3 + 13, some ⟨3, 1, encL rI r6.2.1.Regs⟩), (M3 + 14, some ⟨3, 1, encL rI r6.2.1.Mem⟩)] (M3 + 15) = hp E0 [(N0 + 1, some ⟨28, 3, [[.sl (M3 + 13) 0 r6.2.1.Regs.length, .int .i64 r6.2.1.Pc, .sl (M3 + 14) 0 r6.2.1.Mem.length]]⟩), (M3 + 13, some ⟨3, 1, encL rI r6.2.1.Regs⟩), (M3 + 14, some ⟨3, 1, encL rI r6.2.1.Mem⟩), (o3, some ⟨64, 2, encL rBox_o r6.2.2.1⟩), (M3 + 4, some ⟨3, 1, encL rI r6.2.2.2⟩)] (M3 + 15) from hp_perm (by simp [z39, z40, z41, z42, z43, z44, z45, z46, z47, z48]) (by simp)]
   refine AWP_ret ?_
   refine ⟨[.agg [.sl (M3 + 13) 0 r6.2.1.Regs.length, .int .i64 r6.2.1.Pc, .sl (M3 + 14) 0 r6.2.1.Mem.length], .sl o3 0 r6.2.2.1.length, .sl (M3 + 4) 0 r6.2.2.2.length, .int .i64 r6.1], by simp [z29, z30, z31, z32, z33, z34, z35, z36, z37, z38], (fun o => [N0 + 1].contains o), M3 + 15, M3 + 13, M3 + 14, o3, M3 + 4, by omega, by omega, by omega, by omega, by omega, by omega, by omega, by omega, by omega, by omega, by omega, by omega, by omega, by omega, by omega, ?_, ?_⟩
   ·
    simp [encL_nil, z29, z30, z31, z32, z33, z34, z35, z36, z37, z38]
   ·
    rw [cutD (L' := [(M3 + 13, some ⟨3, 1, encL rI r6.2.1.Regs⟩), (M3 + 14, some ⟨3, 1, encL rI r6.2.1.Mem⟩), (o3, some ⟨64, 2, encL rBox_o r6.2.2.1⟩), (M3 + 4, some ⟨3, 1, encL rI r6.2.2.2⟩)]) (by simp [z29, z30, z31, z32, z33, z34, z35, z36, z37, z38])]
    first | done | rfl | simp [List.set_set]
theorem c13_o5_b {p0 : gMachine} {p1 : (List gBox)} {r : gMachine × (List gBox) × (List Int) × Int} (H : i_HartCall_o5 p0 p1 = some r) {σ : AHeap} {args : List AV} (hy : args.map (thawA (fun _ => true) σ 8) = [.agg [.fsl (encL rI p0.Regs), .int .i64 p0.Pc, .fsl (encL rI p0.Mem)], .fsl (encL rBox p1)]) : ACalls Try.prog G 13 args σ (fun v σ' => ∃ M n0 n1 n2 n3 : Nat, σ.next ≤ M ∧ σ.next ≤ n0 ∧ n0 < M ∧ σ.next ≤ n1 ∧ n1 < M ∧ σ.next ≤ n2 ∧ n2 < M ∧ σ.next ≤ n3 ∧ n3 < M ∧ ¬ n0 = n1 ∧ ¬ n0 = n2 ∧ ¬ n0 = n3 ∧ ¬ n1 = n2 ∧ ¬ n1 = n3 ∧ ¬ n2 = n3 ∧ v = .tup [.agg [.sl n0 0 r.1.Regs.length, .int .i64 r.1.Pc, .sl n1 0 r.1.Mem.length], .sl n2 0 r.2.1.length, .sl n3 0 r.2.2.1.length, .int .i64 r.2.2.2] ∧ σ' = hp σ.objs [(n0, some ⟨3, 1, encL rI r.1.Regs⟩), (n1, some ⟨3, 1, encL rI r.1.Mem⟩), (n2, some ⟨64, 2, encL rBox_o r.2.1⟩), (n3, some ⟨3, 1, encL rI r.2.2.1⟩)] M) := by
 refine borrowQ 8 8 (c13_o5 (σ := ⟨E0, σ.next⟩) H) hy ?_
 rintro _ _ ⟨M, n0, n1, n2, n3, h0, h1, h2, h3, h4, h5, h6, h7, h8, h9, h10, h11, h12, h13, h14, rfl, rfl⟩
 refine ⟨_, M, rfl, by simp [AV.rnf, AV.simp1], fun p hp ob ho => ?_, by simp, M, n0, n1, n2, n3, h0, h1, h2, h3, h4, h5, h6, h7, h8, h9, h10, h11, h12, h13, h14, rfl, rfl⟩
 simp only [List.mem_cons, List.not_mem_nil, or_false] at hp
 rcases hp with rfl | rfl | rfl | rfl <;> (cases ho; first | exact encL_nf (fun x => nf_rI 7 x) _ | exact encL_nf (fun x => nf_rI 7 x) _ | exact encL_nf (fun x => nf_rBox_o 6 x) _ | exact encL_nf (fun x => nf_rI 7 x) _ | simp [AV.nf, AV.simp1])
theorem c11_o2 {p0 : gMachine} {r : gMachine} (H : l_toMachine_o2 p0 = some r) {σ : AHeap} : ACalls Try.prog G 11 [.agg [.fsl (encL rI p0.Regs), .int .i64 p0.Pc, .fsl (encL rI p0.Mem)]] σ (fun v σ' => ∃ M n0 n1 : Nat, σ.next ≤ M ∧ σ.next ≤ n0 ∧ n0 < M ∧ σ.next ≤ n1 ∧ n1 < M ∧ ¬ n0 = n1 ∧ v = .agg [.sl n0 0 r.Regs.length, .int .i64 r.Pc, .sl n1 0 r.Mem.length] ∧ σ' = hp σ.objs [(n0, some ⟨3, 1, encL rI r.Regs⟩), (n1, some ⟨3, 1, encL rI r.Mem⟩)] M) := by
 refine ACalls_fr (L := []) (Q1 := fun v σ' => ∃ M n0 n1 : Nat, σ.next ≤ M ∧ σ.next ≤ n0 ∧ n0 < M ∧ σ.next ≤ n1 ∧ n1 < M ∧ ¬ n0 = n1 ∧ v = .agg [.sl n0 0 r.Regs.length, .int .i64 r.Pc, .sl n1 0 r.Mem.length] ∧ σ' = hp E0 [(n0, some ⟨3, 1, encL rI r.Regs⟩), (n1, some ⟨3, 1, encL rI r.Mem⟩)] M) (by simp []) (fun hlt => ?_) ?_ ⟨_, Try.func11, rfl, rfl⟩
 rotate_left
 ·
  rintro v σ1 ⟨M, n0, n1, h0, h1, h2, h3, h4, h5, rfl, rfl⟩
  exact ⟨_, M, rfl, by simp, by simp; try omega, M, n0, n1, h0, h1, h2, h3, h4, h5, rfl, rfl⟩
 generalize σ.next = N0 at hlt ⊢
 refine ACalls_thaw 4 ?_
 refine ACalls_fn tok Try.func11 (by kernel_rfl) rfl Try.ntmps11 Try.results11 rfl ?_
 simp only [argsA, Nat.reduceAdd, hp_next]
 unfold l_toMachine_o2 at H
 refine AWP_sr tok [0] [1, 2] (fun a σ => a = [(1, .fptr [.fsl (encL rI p0.Regs), .int .i64 p0.Pc, .fsl (encL rI p0.Mem)] 0), (2, .ptr (N0 + 1) 0 0)] ∧ σ = hp E0 [(N0 + 1, some ⟨28, 3, [[.nilsl, .int .i64 0, .nilsl]]⟩)] (N0 + 2)) (fun K hK => ?_) ?_
 ·
  skip
  simp -dsimp -implicitDefEqProofs (maxDischargeDepth := 6)
  exact hK _ _ ⟨rfl, rfl⟩
 rintro a σ ⟨rfl, rfl⟩
 refine AWP_sr tok [] [1, 2, 3] (fun a σ => a = [(1, .fptr [.fsl (encL rI p0.Regs), .int .i64 p0.Pc, .fsl (encL rI p0.Mem)] 0), (2, .ptr (N0 + 1) 0 0), (3, .ptr (N0 + 2) 0 0)] ∧ σ = hp E0 [(N0 + 1, some ⟨28, 3, [[.nilsl, .int .i64 0, .nilsl]]⟩), (N0 + 2, some ⟨28, 3, [[.nilsl, .int .i64 0, .nilsl]]⟩)] (N0 + 3)) (fun K hK => ?_) ?_
 ·
  skip
  simp -dsimp -implicitDefEqProofs (maxDischargeDepth := 6)
  exact hK _ _ ⟨rfl, rfl⟩
 rintro a σ ⟨rfl, rfl⟩
 refine gPk0 AWP_ref (o := (N0 + 1)) (ob := ⟨28, 3, [[.nilsl, .int .i64 0, .nilsl]]⟩) (row := [.nilsl, .int .i64 0, .nilsl]) (r := 0) (i := 0) 3 1 [(N0 + 1, some ⟨28, 3, [[.osl 3 1 (encL rI ([] : List Int)), .int .i64 0, .nilsl]]⟩), (N0 + 2, some ⟨28, 3, [[.nilsl, .int .i64 0, .nilsl]]⟩)] (by simp (disch := omega)) rfl rfl (by simp (disch := omega)) (by simp (disch := omega) [encL_nil, List.set_set, app_set]) ?_
 refine gPk0 AWP_ref (o := (N0 + 1)) (ob := ⟨28, 3, [[.osl 3 1 (encL rI ([] : List Int)), .int .i64 0, .nilsl]]⟩) (row := [.osl 3 1 (encL rI ([] : List Int)), .int .i64 0, .nilsl]) (r := 0) (i := 2) 3 1 [(N0 + 1, some ⟨28, 3, [[.osl 3 1 (encL rI ([] : List Int)), .int .i64 0, .osl 3 1 (encL rI ([] : List Int))]]⟩), (N0 + 2, some ⟨28, 3, [[.nilsl, .int .i64 0, .nilsl]]⟩)] (by simp (disch := omega)) rfl rfl (by simp (disch := omega)) (by simp (disch := omega) [encL_nil, List.set_set, app_set]) ?_
 refine gPk0 AWP_ref (o := (N0 + 2)) (ob := ⟨28, 3, [[.nilsl, .int .i64 0, .nilsl]]⟩) (row := [.nilsl, .int .i64 0, .nilsl]) (r := 0) (i := 0) 3 1 [(N0 + 1, some ⟨28, 3, [[.osl 3 1 (encL rI ([] : List Int)), .int .i64 0, .osl 3 1 (encL rI ([] : List Int))]]⟩), (N0 + 2, some ⟨28, 3, [[.osl 3 1 (encL rI ([] : List Int)), .int .i64 0, .nilsl]]⟩)] (by simp (disch := omega)) rfl rfl (by simp (disch := omega)) (by simp (disch := omega) [encL_nil, List.set_set, app_set]) ?_
 refine gWkC AWP_ref (o := (N0 + 2)) (ob := ⟨28, 3, [[.osl 3 1 (encL rI ([] : List Int)), .int .i64 0, .nilsl]]⟩) (row := [.osl 3 1 (encL rI ([] : List Int)), .int .i64 0, .nilsl]) (r := 0) (i := 2) [(N0 + 1, some ⟨28, 3, [[.osl 3 1 (encL rI ([] : List Int)), .int .i64 0, .osl 3 1 (encL rI ([] : List Int))]]⟩), (N0 + 2, some ⟨28, 3, [[.osl 3 1 (encL rI ([] : List Int)), .int .i64 0, .fsl []]]⟩)] (by simp (disch := omega)) rfl rfl (by simp (disch := omega)) (by simp (disch := omega) [encL_nil, List.set_set, app_set]) ?_
 obtain ⟨r1, hr1, H⟩ := bindE H
 refine AWP_sr tok [] [1, 2, 3] (fun a σ => ∃ M1 o1 : Nat, N0 + 8 ≤ M1 ∧ N0 + 8 ≤ o1 ∧ o1 < M1 ∧ a = [(1, .fptr [.fsl (encL rI p0.Regs), .int .i64 p0.Pc, .fsl (encL rI p0.Mem)] 0), (2, .ptr (N0 + 1) 0 0), (3, .ptr (N0 + 2) 0 0)] ∧ σ = hp E0 [(N0 + 1, some ⟨28, 3, [[.osl 3 1 (encL rI ([] : List Int)), .int .i64 0, .osl 3 1 (encL rI ([] : List Int))]]⟩), (N0 + 2, some ⟨28, 3, [[.sl o1 0 r1.length, .int .i64 0, .fsl []]]⟩), (o1, some ⟨3, 1, encL rI r1⟩)] M1) (fun K hK => ?_) ?_
 ·
  skip
  simp -dsimp -implicitDefEqProofs (maxDischargeDepth := 6)
  refine (c48_o (H := hr1) ).mono ?_; rintro _ _ ⟨M1, o1, fM1_0, fM1_1, fM1_2, rfl, rfl⟩; simp only [hp_next] at fM1_0 fM1_1 fM1_2
  have eM1_0 := nq (a := o1) (b := N0 + 1) (by omega)
  have eM1_1 := nq (a := o1) (b := N0 + 2) (by omega)
  try simp -dsimp -implicitDefEqProofs (maxDischargeDepth := 6) [eM1_0, eM1_1, hp_over_some, hp_over_none]
  exact hK _ _ ⟨M1, o1, (by omega), (by omega), (by omega), rfl, rfl⟩
 rintro a σ ⟨M1, o1, fM1_0, fM1_1, fM1_2, rfl, rfl⟩
 refine AWP_sr tok [] [1, 2, 3] (fun a σ => a = [(1, .fptr [.fsl (encL rI p0.Regs), .int .i64 p0.Pc, .fsl (encL rI p0.Mem)] 0), (2, .ptr (N0 + 1) 0 0), (3, .ptr (N0 + 2) 0 0)] ∧ σ = hp E0 [(N0 + 1, some ⟨28, 3, [[.osl 3 1 (encL rI ([] : List Int)), .int .i64 0, .osl 3 1 (encL rI ([] : List Int))]]⟩), (N0 + 2, some ⟨28, 3, [[.sl o1 0 r1.length, .int .i64 p0.Pc, .fsl []]]⟩), (o1, some ⟨3, 1, encL rI r1⟩)] (M1 + 4)) (fun K hK => ?_) ?_
 ·
  skip
  have e0 := nq (a := N0 + 1) (b := o1) (by omega)
  have e1 := nq (a := N0 + 2) (b := o1) (by omega)
  simp -dsimp -implicitDefEqProofs (maxDischargeDepth := 6) [e0, e1]
  exact hK _ _ ⟨rfl, rfl⟩
 rintro a σ ⟨rfl, rfl⟩
 refine gPk AWP_ref (k := r1.length) (o := (N0 + 2)) (ob := ⟨28, 3, [[.sl o1 0 r1.length, .int .i64 p0.Pc, .fsl []]]⟩) (row := [.sl o1 0 r1.length, .int .i64 p0.Pc, .fsl []]) (d := o1) (obd := ⟨3, 1, encL rI r1⟩) (r := 0) (i := 0) [(N0 + 1, some ⟨28, 3, [[.osl 3 1 (encL rI ([] : List Int)), .int .i64 0, .osl 3 1 (encL rI ([] : List Int))]]⟩), (N0 + 2, some ⟨28, 3, [[.osl 3 1 (encL rI r1), .int .i64 p0.Pc, .fsl []]]⟩)] (by simp (disch := omega)) rfl rfl (by simp (disch := omega)) (by simp (disch := omega)) (by first | omega | simp) (by simp (disch := omega) [List.set_set, app_set] <;> omega) (by simp (disch := omega) [List.set_set, app_set]) ?_
 obtain ⟨r2, hr2, H⟩ := bindE H
 refine AWP_sr tok [] [2, 3] (fun a σ => ∃ M2 o2 : Nat, M1 + 9 ≤ M2 ∧ M1 + 9 ≤ o2 ∧ o2 < M2 ∧ a = [(2, .ptr (N0 + 1) 0 0), (3, .ptr (N0 + 2) 0 0)] ∧ σ = hp E0 [(N0 + 1, some ⟨28, 3, [[.osl 3 1 (encL rI ([] : List Int)), .int .i64 0, .osl 3 1 (encL rI ([] : List Int))]]⟩), (N0 + 2, some ⟨28, 3, [[.osl 3 1 (encL rI r1), .int .i64 p0.Pc, .sl o2 0 r2.length]]⟩), (o2, some ⟨3, 1, encL rI r2⟩)] M2) (fun K hK => ?_) ?_
 ·
  skip
  simp -dsimp -implicitDefEqProofs (maxDischargeDepth := 6)
  refine (c48_o (H := hr2) ).mono ?_; rintro _ _ ⟨M2, o2, fM2_0, fM2_1, fM2_2, rfl, rfl⟩; simp only [hp_next] at fM2_0 fM2_1 fM2_2
  have eM2_0 := nq (a := o2) (b := N0 + 1) (by omega)
  have eM2_1 := nq (a := o2) (b := N0 + 2) (by omega)
  try simp -dsimp -implicitDefEqProofs (maxDischargeDepth := 6) [eM2_0, eM2_1, hp_over_some, hp_over_none]
  exact hK _ _ ⟨M2, o2, (by omega), (by omega), (by omega), rfl, rfl⟩
 rintro a σ ⟨M2, o2, fM2_0, fM2_1, fM2_2, rfl, rfl⟩
 refine gUnp AWP_ref (ty := 3) (sz := 1) (es := encL rI r1) (o := (N0 + 2)) (ob := ⟨28, 3, [[.osl 3 1 (encL rI r1), .int .i64 p0.Pc, .sl o2 0 r2.length]]⟩) (row := [.osl 3 1 (encL rI r1), .int .i64 p0.Pc, .sl o2 0 r2.length]) (r := 0) (i := 0) [(N0 + 1, some ⟨28, 3, [[.osl 3 1 (encL rI ([] : List Int)), .int .i64 0, .osl 3 1 (encL rI ([] : List Int))]]⟩), (N0 + 2, some ⟨28, 3, [[.sl M2 0 r1.length, .int .i64 p0.Pc, .sl o2 0 r2.length]]⟩), (o2, some ⟨3, 1, encL rI r2⟩), (M2, some ⟨3, 1, encL rI r1⟩)] (by simp (disch := omega)) rfl rfl (by simp (disch := omega) [List.set_set]) ?_
 refine AWP_sr tok [] [2] (fun a σ => a = [(2, .ptr (N0 + 1) 0 0)] ∧ σ = hp E0 [(N0 + 1, some ⟨28, 3, [[.sl M2 0 r1.length, .int .i64 p0.Pc, .sl o2 0 r2.length]]⟩), (N0 + 2, some ⟨28, 3, [[.sl M2 0 r1.length, .int .i64 p0.Pc, .sl o2 0 r2.length]]⟩), (o2, some ⟨3, 1, encL rI r2⟩), (M2, some ⟨3, 1, encL rI r1⟩)] (M2 + 3)) (fun K hK => ?_) ?_
 ·
  skip
  have e0 := nq (a := N0 + 1) (b := o2) (by omega)
  have e1 := nq (a := N0 + 1) (b := M2) (by omega)
  have e2 := nq (a := N0 + 2) (b := o2) (by omega)
  have e3 := nq (a := N0 + 2) (b := M2) (by omega)
  have e4 := nq (a := o2) (b := M2) (by omega)
  simp -dsimp -implicitDefEqProofs (maxDischargeDepth := 6) [e0, e1, e2, e3, e4]
  exact hK _ _ ⟨rfl, rfl⟩
 rintro a σ ⟨rfl, rfl⟩
 replace H := Option.some.inj H; subst H
 refine AWP_kp [2] [(2, .ptr (N0 + 1) 0 0)] rfl ?_
 refine gDrop AWP_ref [(N0 + 1, some ⟨28, 3, [[.sl M2 0 r1.length, .int .i64 p0.Pc, .sl o2 0 r2.length]]⟩), (o2, some ⟨3, 1, encL rI r2⟩), (M2, some ⟨3, 1, encL rI r1⟩)] (hp_skip (AHeap.Sub.trans (hp_skip (hp_skip (AHeap.Sub.refl _))) (hp_drop rfl (by simp; try omega)))) ?_
 refine gPk AWP_ref (k := r1.length) (o := (N0 + 1)) (ob := ⟨28, 3, [[.sl M2 0 r1.length, .int .i64 p0.Pc, .sl o2 0 r2.length]]⟩) (row := [.sl M2 0 r1.length, .int .i64 p0.Pc, .sl o2 0 r2.length]) (d := M2) (obd := ⟨3, 1, encL rI r1⟩) (r := 0) (i := 0) [(N0 + 1, some ⟨28, 3, [[.osl 3 1 (encL rI r1), .int .i64 p0.Pc, .sl o2 0 r2.length]]⟩), (o2, some ⟨3, 1, encL rI r2⟩)] (by simp (disch := omega)) rfl rfl (by simp (disch := omega)) (by simp (disch := omega)) (by first | omega | simp) (by simp (disch := omega) [List.set_set, app_set] <;> omega) (by simp (disch := omega) [List.set_set, app_set]) ?_
 refine gPk AWP_ref (k := r2.length) (o := (N0 + 1)) (ob := ⟨28, 3, [[.osl 3 1 (encL rI r1), .int .i64 p0.Pc, .sl o2 0 r2.length]]⟩) (row := [.osl 3 1 (encL rI r1), .int .i64 p0.Pc, .sl o2 0 r2.length]) (d := o2) (obd := ⟨3, 1, encL rI r2⟩) (r := 0) (i := 2) [(N0 + 1, some ⟨28, 3, [[.osl 3 1 (encL rI r1), .int .i64 p0.Pc, .osl 3 1 (encL rI r2)]]⟩)] (by simp (disch := omega)) rfl rfl (by simp (disch := omega)) (by simp (disch := omega)) (by first | omega | simp) (by simp (disch := omega) [List.set_set, app_set] <;> omega) (by simp (disch := omega) [List.set_set, app_set]) ?_
 refine gUnp AWP_ref (ty := 3) (sz := 1) (es := encL rI r1) (o := (N0 + 1)) (ob := ⟨28, 3, [[.osl 3 1 (encL rI r1), .int .i64 p0.Pc, .osl 3 1 (encL rI r2)]]⟩) (row := [.osl 3 1 (encL rI r1), .int .i64 p0.Pc, .osl 3 1 (encL rI r2)]) (r := 0) (i := 0) [(N0 + 1, some ⟨28, 3, [[.sl (M2 + 3) 0 r1.length, .int .i64 p0.Pc, .osl 3 1 (encL rI r2)]]⟩), (M2 + 3, some ⟨3, 1, encL rI r1⟩)] (by simp (disch := omega)) rfl rfl (by simp (disch := omega) [List.set_set]) ?_
 refine gUnp AWP_ref (ty := 3) (sz := 1) (es := encL rI r2) (o := (N0 + 1)) (ob := ⟨28, 3, [[.sl (M2 + 3) 0 r1.length, .int .i64 p0.Pc, .osl 3 1 (encL rI r2)]]⟩) (row := [.sl (M2 + 3) 0 r1.length, .int .i64 p0.Pc, .osl 3 1 (encL rI r2)]) (r := 0) (i := 2) [(N0 + 1, some ⟨28, 3, [[.sl (M2 + 3) 0 r1.length, .int .i64 p0.Pc, .sl (M2 + 4) 0 r2.length]]⟩), (M2 + 3, some ⟨3, 1, encL rI r1⟩), (M2 + 4, some ⟨3, 1, encL rI r2⟩)] (by simp (disch := omega)) rfl rfl (by simp (disch := omega) [List.set_set]) ?_
 have z0 := nq (a := N0 + 1) (b := M2 + 3) (by omega)
 have z1 := nq (a := N0) (b := M2 + 2) (by omega)
 have z2 := nq (a := N0 + 1) (b := M2 + 4) (by omega)
 have z3 := nq (a := N0) (b := M2 + 3) (by omega)
 refine AWP_ret ?_
 refine ⟨[.agg [.sl (M2 + 3) 0 r1.length, .int .i64 p0.Pc, .sl (M2 + 4) 0 r2.length]], by simp [z0, z1, z2, z3], (fun o => [N0 + 1].contains o), M2 + 5, M2 + 3, M2 + 4, by omega, by omega, by omega, by omega, by omega, by omega, ?_, ?_⟩
 ·
  simp [encL_nil, z0, z1, z2, z3]
 ·
  rw [cutD (L' := [(M2 + 3, some ⟨3, 1, encL rI r1⟩), (M2 + 4, some ⟨3, 1, encL rI r2⟩)]) (by simp [z0, z1, z2, z3])]
  first | done | rfl | simp [List.set_set]
theorem c18 {p0 : (List gBox)} {p1 : Int} {r : Int × (List gBox)} (H : l_markBoxS p0 p1 = some r) {σ : AHeap} {w0 : Nat} (q0 : σ.objs w0 = some ⟨64, 2, encL rBox_o p0⟩) : ACalls Try.prog G 18 [.sl w0 0 p0.length, .int .i64 p1] σ (fun v σ' => ∃ M : Nat, σ.next ≤ M ∧ r.2.length = p0.length ∧ v = .int .i64 r.1 ∧ σ' = hp σ.objs [(w0, some ⟨64, 2, encL rBox_o r.2⟩)] M) := by
 refine ACalls_fr (L := [(w0, some ⟨64, 2, encL rBox_o p0⟩)]) (Q1 := fun v σ' => ∃ M : Nat, σ.next ≤ M ∧ r.2.length = p0.length ∧ v = .int .i64 r.1 ∧ σ' = hp E0 [(w0, some ⟨64, 2, encL rBox_o r.2⟩)] M) (by simp [q0]) (fun hlt => ?_) ?_ ⟨_, Try.func18, rfl, rfl⟩
 rotate_left
 ·
  rintro v σ1 ⟨M, h0, h1, rfl, rfl⟩
  exact ⟨_, M, rfl, by simp, by simp; try omega, M, h0, h1, rfl, rfl⟩
 generalize σ.next = N0 at hlt ⊢
 have lw0 : w0 < N0 := hlt _ (.head _) rfl
 refine ACalls_fn tok Try.func18 (by kernel_rfl) rfl Try.ntmps18 Try.results18 rfl ?_
 simp only [argsA, Nat.reduceAdd, hp_next]
 unfold l_markBoxS at H
 refine AWP_sr tok [] [0, 1] (fun a σ => a = [(0, .sl w0 0 p0.length), (1, .int .i64 p1)] ∧ σ = hp E0 [(w0, some ⟨64, 2, encL rBox_o p0⟩)] (N0 + 1)) (fun K hK => ?_) ?_
 ·
  skip
  simp -dsimp -implicitDefEqProofs (maxDischargeDepth := 6)
  exact hK _ _ ⟨rfl, rfl⟩
 rintro a σ ⟨rfl, rfl⟩
 refine AWP_sq [1] fun K1 hK1 => ?_
 refine AWP_sr tok [] [0, 1, 5] (fun a σ => a = [(0, .sl w0 0 p0.length), (1, .int .i64 p1), (5, .int .i64 0)] ∧ σ = hp E0 [(w0, some ⟨64, 2, encL rBox_o p0⟩)] (N0 + 2)) (fun K hK => ?_) ?_
 ·
  skip
  simp -dsimp -implicitDefEqProofs (maxDischargeDepth := 6)
  exact hK _ _ ⟨rfl, rfl⟩
 rintro a σ ⟨rfl, rfl⟩
 refine AWP_block (AWP_thenB ?_)
 obtain ⟨e1, hse1, H⟩ := bindE H
 refine AWP_lp [0, 1, 5] (fun s a σ => ∃ M1 : Nat, N0 ≤ M1 ∧ s.2.2.length = p0.length ∧ a = [(0, .sl w0 0 s.2.2.length), (1, .int .i64 s.1), (5, .int .i64 s.2.1)] ∧ σ = hp E0 [(w0, some ⟨64, 2, encL rBox_o s.2.2⟩)] M1) (fun s x a σ => x = .exit 0 ∧ Rc G 27 N0 (fun a σ => ∃ M2 : Nat, N0 ≤ M2 ∧ s.2.length = p0.length ∧ a = [(1, .int .i64 s.1)] ∧ σ = hp E0 [(w0, some ⟨64, 2, encL rBox_o s.2⟩)] M2) (AAct.keep a [1]) σ) hse1 ?_ ?_ ?_
 ·
  refine Rc.kp [0, 1, 5] [(0, .sl w0 0 p0.length), (1, .int .i64 p1), (5, .int .i64 0)] rfl ?_
  exact Rc.fin (AHeap.Sub.refl _) ⟨N0 + 2, (by omega), (by first | rfl | exact rfl | omega), rfl, rfl⟩
 ·
  clear H hse1
  rintro ⟨s1, s2, s3⟩ fl a σ H ⟨M1, fM1_0, fM1_1, rfl, rfl⟩ K2 O2 hK2 hO2
  unfold l_markBoxS_L1 at H; dsimp only at H
  refine AWP_sq [0, 1, 5] fun K3 hK3 => ?_
  refine AWP_sr tok [] [0, 1, 5, 9] (fun a σ => a = [(0, .sl w0 0 s3.length), (1, .int .i64 s1), (5, .int .i64 s2), (9, .bool (ilt s2 (ilen s3)))] ∧ σ = hp E0 [(w0, some ⟨64, 2, encL rBox_o s3⟩)] (M1 + 4)) (fun K hK => ?_) ?_
  ·
   skip
   simp -dsimp -implicitDefEqProofs (maxDischargeDepth := 6)
   exact hK _ _ ⟨rfl, rfl⟩
  rintro a σ ⟨rfl, rfl⟩
  refine AWP_cond (ilt s2 (ilen s3)) rfl (fun C1 => ?_) (fun C1 => ?_)
  ·
   replace H := ifT C1 H
   refine AWP_skip ?_
   show K3 _ _
   refine keepE (l := [0, 1, 5]) (x := [(0, .sl w0 0 s3.length), (1, .int .i64 s1), (5, .int .i64 s2)]) rfl fun a' ha => ?_
   refine hK3 _ _ ?_; rw [ha]
   refine Rc.mk ?_
   refine AWP_sq [0, 1, 5] fun K4 hK4 => ?_
   refine AWP_block (AWP_thenB ?_)
   obtain ⟨v6, hv6, H⟩ := bindE H
   obtain ⟨l7, hl7, H⟩ := bindE H
   refine AWP_sr tok [] [0, 1, 5] (fun a σ => a = [(0, .sl w0 0 s3.length), (1, .int .i64 s1), (5, .int .i64 s2)] ∧ σ = hp E0 [(w0, some ⟨64, 2, encL rBox_o l7⟩)] (M1 + 10)) (fun K hK => ?_) ?_
   ·
    skip
    simp -dsimp -implicitDefEqProofs (maxDischargeDepth := 6) [ixo29 hv6, (idx_lt3 hv6).2.2, (setx_iff.1 hl7).2.symm, set_rBox_o]
    exact hK _ _ ⟨rfl, rfl⟩
   rintro a σ ⟨rfl, rfl⟩
   try rw [← setx_len hl7]
   refine AWP_sr tok [] [0, 1, 5] (fun a σ => a = [(0, .sl w0 0 l7.length), (1, .int .i64 (iadd .i64 s1 1)), (5, .int .i64 s2)] ∧ σ = hp E0 [(w0, some ⟨64, 2, encL rBox_o l7⟩)] (M1 + 13)) (fun K hK => ?_) ?_
   ·
    skip
    simp -dsimp -implicitDefEqProofs (maxDischargeDepth := 6)
    exact hK _ _ ⟨rfl, rfl⟩
   rintro a σ ⟨rfl, rfl⟩
   obtain ⟨v8, hv8, H⟩ := bindE H
   refine gUnp AWP_ref (ty := 3) (sz := 1) (es := encL rI v8.Items) (o := w0) (ob := ⟨64, 2, encL rBox_o l7⟩) (row := [.int .i64 v8.Room, .osl 3 1 (encL rI v8.Items)]) (r := s2.toNat) (i := 1) [(w0, some ⟨64, 2, (encL rBox_o l7).set s2.toNat [.int .i64 v8.Room, .sl (M1 + 13) 0 v8.Items.length]⟩), (M1 + 13, some ⟨3, 1, encL rI v8.Items⟩)] (by simp (disch := omega)) (encL_at rBox_o hv8) rfl (by simp (disch := omega) [List.set_set]) ?_
   obtain ⟨r9, hr9, H⟩ := bindE H
   refine AWP_rt tok [] [0, 1, 5] (fun a σ => ∃ M3 : Nat, M1 + 22 ≤ M3 ∧ r9.2.length = v8.Items.length ∧ a = [(0, .sl w0 0 l7.length), (1, .int .i64 r9.1), (5, .int .i64 s2)] ∧ σ = hp E0 [(w0, some ⟨64, 2, (encL rBox_o l7).set s2.toNat [.int .i64 v8.Room, .sl (M1 + 13) 0 v8.Items.length]⟩), (M1 + 13, some ⟨3, 1, encL rI r9.2⟩)] M3) (fun K hK => ?_) ?_
   ·
    skip
    have e0 := nq (a := w0) (b := M1 + 13) (by omega)
    simp -dsimp -implicitDefEqProofs (maxDischargeDepth := 6) [e0, (gset hv8 _), List.set_set, ixo29 hv8, (idx_lt3 hv8).2.2]
    refine (c19 (H := hr9) (by simp [e0, (gset hv8 _), List.set_set, ixo29 hv8, (idx_lt3 hv8).2.2])).mono ?_; rintro _ _ ⟨M3, fM3_0, fM3_1, rfl, rfl⟩; simp only [hp_next] at fM3_0
    try simp -dsimp -implicitDefEqProofs (maxDischargeDepth := 6) [e0, (gset hv8 _), List.set_set, ixo29 hv8, (idx_lt3 hv8).2.2, hp_over_some, hp_over_none]
    exact hK _ _ ⟨M3, (by omega), fM3_1, rfl, rfl⟩
   rintro a σ ⟨M3, fM3_0, fM3_1, ha, rfl⟩
   (try rw [← fM3_1] at ha); (try rw [← fM3_1])
   refine hK4 _ _ ?_; rw [ha]
   refine Rc.mk ?_
   refine AWP_rt tok [] [0, 1, 5] (fun a σ => a = [(0, .sl w0 0 l7.length), (1, .int .i64 r9.1), (5, .int .i64 (iadd .i64 s2 1))] ∧ σ = hp E0 [(w0, some ⟨64, 2, (encL rBox_o l7).set s2.toNat [.int .i64 v8.Room, .sl (M1 + 13) 0 r9.2.length]⟩), (M1 + 13, some ⟨3, 1, encL rI r9.2⟩)] (M3 + 3)) (fun K hK => ?_) ?_
   ·
    skip
    have e0 := nq (a := w0) (b := M1 + 13) (by omega)
    simp -dsimp -implicitDefEqProofs (maxDischargeDepth := 6) [e0, (gset hv8 _), List.set_set]
    exact hK _ _ ⟨rfl, rfl⟩
   rintro a σ ⟨ha, rfl⟩
   obtain ⟨l10, hl10, H⟩ := bindE H
   replace H := Option.some.inj H; subst H
   refine hK2 _ _ _ rfl ?_; rw [ha]
   refine gPk Rc_ref (k := r9.2.length) (o := w0) (ob := ⟨64, 2, (encL rBox_o l7).set s2.toNat [.int .i64 v8.Room, .sl (M1 + 13) 0 r9.2.length]⟩) (row := [.int .i64 v8.Room, .sl (M1 + 13) 0 r9.2.length]) (d := (M1 + 13)) (obd := ⟨3, 1, encL rI r9.2⟩) (r := s2.toNat) (i := 1) [(w0, some ⟨64, 2, (encL rBox_o l7).set s2.toNat [.int .i64 v8.Room, .osl 3 1 (encL rI r9.2)]⟩)] (by simp (disch := omega)) (gset hv8 _) rfl (by simp (disch := omega)) (by simp (disch := omega)) (by first | omega | simp) (by simp (disch := omega) [List.set_set, app_set] <;> omega) (by simp (disch := omega) [List.set_set, app_set]) ?_
   rw [show hp E0 [(w0, some ⟨64, 2, (encL rBox_o l7).set s2.toNat [.int .i64 v8.Room, .osl 3 1 (encL rI r9.2)]⟩)] (M3 + 3) = hp E0 [(w0, some ⟨64, 2, encL rBox_o l10⟩)] (M3 + 3) from by rw [(setx_iff.1 hl10).2, ← encL_set]; rfl]; (try rw [← setx_len hl10])
   exact Rc.fin (AHeap.Sub.refl _) ⟨M3 + 3, (by omega), (by first | rfl | exact ((setx_len hl10).trans ((setx_len hl7).trans fM1_1)) | omega), rfl, rfl⟩
  ·
   replace H := ifF C1 H
   replace H := Option.some.inj H; subst H
   refine AWP_exit (hO2 _ _ _ _ rfl ⟨rfl, ?_⟩)
   refine Rc.rw (l := [1]) (X := [(1, .int .i64 s1)]) rfl ?_
   exact Rc.fin (AHeap.Sub.refl _) ⟨M1 + 4, (by omega), (by first | rfl | exact fM1_1 | omega), rfl, rfl⟩
 ·
  intro x a σ hx
  obtain ⟨y4, y5⟩ := e1
  obtain ⟨rfl, b, τ, hr, M2, fM2_0, fM2_1, rfl, rfl⟩ := hx
  dsimp only at H
  show K1 _ _
  refine hK1 _ _ (Rc_ref hr ?_)
  refine Rc.mk ?_
  refine AWP_sr tok [] [4] (fun a σ => a = [(4, .int .i64 y4)] ∧ σ = hp E0 [(w0, some ⟨64, 2, encL rBox_o y5⟩)] (M2 + 2)) (fun K hK => ?_) ?_
  ·
   skip
   simp -dsimp -implicitDefEqProofs (maxDischargeDepth := 6)
   exact hK _ _ ⟨rfl, rfl⟩
  rintro a σ ⟨rfl, rfl⟩
  replace H := Option.some.inj H; subst H
  refine AWP_kp [4] [(4, .int .i64 y4)] rfl ?_
  refine AWP_ret ?_
  refine ⟨[.int .i64 y4], by simp, M2 + 2, by omega, by first | rfl | exact fM2_1 | omega, ?_, ?_⟩
  ·
   simp [encL_nil]
  ·
   first | rfl | simp [List.set_set]
theorem c49_o {p0 : gBox} {r : gBox} (H : l_toBox_o p0 = some r) {σ : AHeap} : ACalls Try.prog G 49 [.agg [.int .i64 p0.Room, .fsl (encL rI p0.Items)]] σ (fun v σ' => ∃ M n0 : Nat, σ.next ≤ M ∧ σ.next ≤ n0 ∧ n0 < M ∧ v = .agg [.int .i64 r.Room, .sl n0 0 r.Items.length] ∧ σ' = hp σ.objs [(n0, some ⟨3, 1, encL rI r.Items⟩)] M) := by
 refine ACalls_fr (L := []) (Q1 := fun v σ' => ∃ M n0 : Nat, σ.next ≤ M ∧ σ.next ≤ n0 ∧ n0 < M ∧ v = .agg [.int .i64 r.Room, .sl n0 0 r.Items.length] ∧ σ' = hp E0 [(n0, some ⟨3, 1, encL rI r.Items⟩)] M) (by simp []) (fun hlt => ?_) ?_ ⟨_, Try.func49, rfl, rfl⟩
 rotate_left
 ·
  rintro v σ1 ⟨M, n0, h0, h1, h2, rfl, rfl⟩
  exact ⟨_, M, rfl, by simp, by simp; try omega, M, n0, h0, h1, h2, rfl, rfl⟩
 generalize σ.next = N0 at hlt ⊢
 refine ACalls_thaw 4 ?_
 refine ACalls_fn tok Try.func49 (by kernel_rfl) rfl Try.ntmps49 Try.results49 rfl ?_
 simp only [argsA, Nat.reduceAdd, hp_next]
 unfold l_toBox_o at H
 refine AWP_sr tok [0] [1, 2] (fun a σ => a = [(1, .fptr [.int .i64 p0.Room, .fsl (encL rI p0.Items)] 0), (2, .ptr (N0 + 1) 0 0)] ∧ σ = hp E0 [(N0 + 1, some ⟨64, 2, [[.int .i64 0, .nilsl]]⟩)] (N0 + 2)) (fun K hK => ?_) ?_
 ·
  skip
  simp -dsimp -implicitDefEqProofs (maxDischargeDepth := 6)
  exact hK _ _ ⟨rfl, rfl⟩
 rintro a σ ⟨rfl, rfl⟩
 refine AWP_sr tok [] [1, 2, 3] (fun a σ => a = [(1, .fptr [.int .i64 p0.Room, .fsl (encL rI p0.Items)] 0), (2, .ptr (N0 + 1) 0 0), (3, .ptr (N0 + 2) 0 0)] ∧ σ = hp E0 [(N0 + 1, some ⟨64, 2, [[.int .i64 0, .nilsl]]⟩), (N0 + 2, some ⟨64, 2, [[.int .i64 0, .nilsl]]⟩)] (N0 + 3)) (fun K hK => ?_) ?_
 ·
  skip
  simp -dsimp -implicitDefEqProofs (maxDischargeDepth := 6)
  exact hK _ _ ⟨rfl, rfl⟩
 rintro a σ ⟨rfl, rfl⟩
 refine AWP_sr tok [] [1, 2, 3] (fun a σ => a = [(1, .fptr [.int .i64 p0.Room, .fsl (encL rI p0.Items)] 0), (2, .ptr (N0 + 1) 0 0), (3, .ptr (N0 + 2) 0 0)] ∧ σ = hp E0 [(N0 + 1, some ⟨64, 2, [[.int .i64 0, .nilsl]]⟩), (N0 + 2, some ⟨64, 2, [[.int .i64 p0.Room, .nilsl]]⟩)] (N0 + 7)) (fun K hK => ?_) ?_
 ·
  skip
  simp -dsimp -implicitDefEqProofs (maxDischargeDepth := 6)
  exact hK _ _ ⟨rfl, rfl⟩
 rintro a σ ⟨rfl, rfl⟩
 refine gPk0 AWP_ref (o := (N0 + 1)) (ob := ⟨64, 2, [[.int .i64 0, .nilsl]]⟩) (row := [.int .i64 0, .nilsl]) (r := 0) (i := 1) 3 1 [(N0 + 1, some ⟨64, 2, [[.int .i64 0, .osl 3 1 (encL rI ([] : List Int))]]⟩), (N0 + 2, some ⟨64, 2, [[.int .i64 p0.Room, .nilsl]]⟩)] (by simp (disch := omega)) rfl rfl (by simp (disch := omega)) (by simp (disch := omega) [encL_nil, List.set_set, app_set]) ?_
 refine gWkC AWP_ref (o := (N0 + 2)) (ob := ⟨64, 2, [[.int .i64 p0.Room, .nilsl]]⟩) (row := [.int .i64 p0.Room, .nilsl]) (r := 0) (i := 1) [(N0 + 1, some ⟨64, 2, [[.int .i64 0, .osl 3 1 (encL rI ([] : List Int))]]⟩), (N0 + 2, some ⟨64, 2, [[.int .i64 p0.Room, .fsl []]]⟩)] (by simp (disch := omega)) rfl rfl (by simp (disch := omega)) (by simp (disch := omega) [encL_nil, List.set_set, app_set]) ?_
 obtain ⟨r1, hr1, H⟩ := bindE H
 refine AWP_sr tok [] [2, 3] (fun a σ => ∃ M1 o1 : Nat, N0 + 12 ≤ M1 ∧ N0 + 12 ≤ o1 ∧ o1 < M1 ∧ a = [(2, .ptr (N0 + 1) 0 0), (3, .ptr (N0 + 2) 0 0)] ∧ σ = hp E0 [(N0 + 1, some ⟨64, 2, [[.int .i64 0, .osl 3 1 (encL rI ([] : List Int))]]⟩), (N0 + 2, some ⟨64, 2, [[.int .i64 p0.Room, .sl o1 0 r1.length]]⟩), (o1, some ⟨3, 1, encL rI r1⟩)] M1) (fun K hK => ?_) ?_
 ·
  skip
  simp -dsimp -implicitDefEqProofs (maxDischargeDepth := 6)
  refine (c48_o (H := hr1) ).mono ?_; rintro _ _ ⟨M1, o1, fM1_0, fM1_1, fM1_2, rfl, rfl⟩; simp only [hp_next] at fM1_0 fM1_1 fM1_2
  have eM1_0 := nq (a := o1) (b := N0 + 1) (by omega)
  have eM1_1 := nq (a := o1) (b := N0 + 2) (by omega)
  try simp -dsimp -implicitDefEqProofs (maxDischargeDepth := 6) [eM1_0, eM1_1, hp_over_some, hp_over_none]
  exact hK _ _ ⟨M1, o1, (by omega), (by omega), (by omega), rfl, rfl⟩
 rintro a σ ⟨M1, o1, fM1_0, fM1_1, fM1_2, rfl, rfl⟩
 refine AWP_sr tok [] [2] (fun a σ => a = [(2, .ptr (N0 + 1) 0 0)] ∧ σ = hp E0 [(N0 + 1, some ⟨64, 2, [[.int .i64 p0.Room, .sl o1 0 r1.length]]⟩), (N0 + 2, some ⟨64, 2, [[.int .i64 p0.Room, .sl o1 0 r1.length]]⟩), (o1, some ⟨3, 1, encL rI r1⟩)] (M1 + 2)) (fun K hK => ?_) ?_
 ·
  skip
  have e0 := nq (a := N0 + 1) (b := o1) (by omega)
  have e1 := nq (a := N0 + 2) (b := o1) (by omega)
  simp -dsimp -implicitDefEqProofs (maxDischargeDepth := 6) [e0, e1]
  exact hK _ _ ⟨rfl, rfl⟩
 rintro a σ ⟨rfl, rfl⟩
 replace H := Option.some.inj H; subst H
 refine AWP_kp [2] [(2, .ptr (N0 + 1) 0 0)] rfl ?_
 refine gDrop AWP_ref [(N0 + 1, some ⟨64, 2, [[.int .i64 p0.Room, .sl o1 0 r1.length]]⟩), (o1, some ⟨3, 1, encL rI r1⟩)] (hp_skip (AHeap.Sub.trans (hp_skip (AHeap.Sub.refl _)) (hp_drop rfl (by simp; try omega)))) ?_
 refine gPk AWP_ref (k := r1.length) (o := (N0 + 1)) (ob := ⟨64, 2, [[.int .i64 p0.Room, .sl o1 0 r1.length]]⟩) (row := [.int .i64 p0.Room, .sl o1 0 r1.length]) (d := o1) (obd := ⟨3, 1, encL rI r1⟩) (r := 0) (i := 1) [(N0 + 1, some ⟨64, 2, [[.int .i64 p0.Room, .osl 3 1 (encL rI r1)]]⟩)] (by simp (disch := omega)) rfl rfl (by simp (disch := omega)) (by simp (disch := omega)) (by first | omega | simp) (by simp (disch := omega) [List.set_set, app_set] <;> omega) (by simp (disch := omega) [List.set_set, app_set]) ?_
 refine gUnp AWP_ref (ty := 3) (sz := 1) (es := encL rI r1) (o := (N0 + 1)) (ob := ⟨64, 2, [[.int .i64 p0.Room, .osl 3 1 (encL rI r1)]]⟩) (row := [.int .i64 p0.Room, .osl 3 1 (encL rI r1)]) (r := 0) (i := 1) [(N0 + 1, some ⟨64, 2, [[.int .i64 p0.Room, .sl (M1 + 2) 0 r1.length]]⟩), (M1 + 2, some ⟨3, 1, encL rI r1⟩)] (by simp (disch := omega)) rfl rfl (by simp (disch := omega) [List.set_set]) ?_
 have z0 := nq (a := N0 + 1) (b := M1 + 2) (by omega)
 have z1 := nq (a := N0) (b := M1 + 1) (by omega)
 refine AWP_ret ?_
 refine ⟨[.agg [.int .i64 p0.Room, .sl (M1 + 2) 0 r1.length]], by simp [z0, z1], (fun o => [N0 + 1].contains o), M1 + 3, M1 + 2, by omega, by omega, by omega, ?_, ?_⟩
 ·
  simp [encL_nil, z0, z1]
 ·
  rw [cutD (L' := [(M1 + 2, some ⟨3, 1, encL rI r1⟩)]) (by simp [z0, z1])]
  first | done | rfl | simp [List.set_set]
theorem c12_o2 {p0 : (List gBox)} {r : (List gBox)} (H : l_toBoxS_o2 p0 = some r) {σ : AHeap} : ACalls Try.prog G 12 [.fsl (encL rBox p0)] σ (fun v σ' => ∃ M n0 : Nat, σ.next ≤ M ∧ σ.next ≤ n0 ∧ n0 < M ∧ v = .sl n0 0 r.length ∧ σ' = hp σ.objs [(n0, some ⟨64, 2, encL rBox_o r⟩)] M) := by
 refine ACalls_fr (L := []) (Q1 := fun v σ' => ∃ M n0 : Nat, σ.next ≤ M ∧ σ.next ≤ n0 ∧ n0 < M ∧ v = .sl n0 0 r.length ∧ σ' = hp E0 [(n0, some ⟨64, 2, encL rBox_o r⟩)] M) (by simp []) (fun hlt => ?_) ?_ ⟨_, Try.func12, rfl, rfl⟩
 rotate_left
 ·
  rintro v σ1 ⟨M, n0, h0, h1, h2, rfl, rfl⟩
  exact ⟨_, M, rfl, by simp, by simp; try omega, M, n0, h0, h1, h2, rfl, rfl⟩
 generalize σ.next = N0 at hlt ⊢
 refine ACalls_fn tok Try.func12 (by kernel_rfl) rfl Try.ntmps12 Try.results12 rfl ?_
 simp only [argsA, Nat.reduceAdd, hp_next]
 unfold l_toBoxS_o2 at H
 refine AWP_sr tok [] [0] (fun a σ => a = [(0, .fsl (encL rBox p0))] ∧ σ = hp E0 [] (N0 + 1)) (fun K hK => ?_) ?_
 ·
  skip
  simp -dsimp -implicitDefEqProofs (maxDischargeDepth := 6)
  exact hK _ _ ⟨rfl, rfl⟩
 rintro a σ ⟨rfl, rfl⟩
 obtain ⟨l1, hl1, H⟩ := bindE H
 refine AWP_sr tok [] [0, 3] (fun a σ => a = [(0, .fsl (encL rBox p0)), (3, .sl (N0 + 3) 0 l1.length)] ∧ σ = hp E0 [(N0 + 3, some ⟨64, 2, List.replicate (Int.toNat (ilen p0)) [.int .i64 0, .nilsl]⟩)] (N0 + 5)) (fun K hK => ?_) ?_
 ·
  skip
  simp -dsimp -implicitDefEqProofs (maxDischargeDepth := 6) [makr29 hl1]
  exact hK _ _ ⟨rfl, rfl⟩
 rintro a σ ⟨rfl, rfl⟩
 refine AWP_sq [3] fun K1 hK1 => ?_
 refine gRep AWP_ref (o := (N0 + 3)) (ty := 64) (sz := 2) (m := Int.toNat (ilen p0)) (c := [.int .i64 0, .nilsl]) (c' := [.int .i64 0, .osl 3 1 []]) (.same (.own .nil)) [(N0 + 3, some ⟨64, 2, encL rBox_o l1⟩)] (by simp (disch := omega)) (by rw [mak_rep (f := rBox_o) (c := [.int .i64 0, .osl 3 1 []]) hl1 rfl]; simp) ?_
 refine AWP_sr tok [] [0, 3, 4] (fun a σ => a = [(0, .fsl (encL rBox p0)), (3, .sl (N0 + 3) 0 l1.length), (4, .int .i64 0)] ∧ σ = hp E0 [(N0 + 3, some ⟨64, 2, encL rBox_o l1⟩)] (N0 + 6)) (fun K hK => ?_) ?_
 ·
  skip
  simp -dsimp -implicitDefEqProofs (maxDischargeDepth := 6)
  exact hK _ _ ⟨rfl, rfl⟩
 rintro a σ ⟨rfl, rfl⟩
 refine AWP_block (AWP_thenB ?_)
 obtain ⟨e1, hse1, H⟩ := bindE H
 refine AWP_lp [0, 3, 4] (fun s a σ => ∃ M1 o1 : Nat, N0 ≤ M1 ∧ N0 ≤ o1 ∧ o1 < M1 ∧ a = [(0, .fsl (encL rBox p0)), (3, .sl o1 0 s.2.length), (4, .int .i64 s.1)] ∧ σ = hp E0 [(o1, some ⟨64, 2, encL rBox_o s.2⟩)] M1) (fun s x a σ => x = .exit 0 ∧ Rc G 23 N0 (fun a σ => ∃ M2 o2 : Nat, N0 ≤ M2 ∧ N0 ≤ o2 ∧ o2 < M2 ∧ a = [(3, .sl o2 0 s.length)] ∧ σ = hp E0 [(o2, some ⟨64, 2, encL rBox_o s⟩)] M2) (AAct.keep a [3]) σ) hse1 ?_ ?_ ?_
 ·
  refine Rc.kp [0, 3, 4] [(0, .fsl (encL rBox p0)), (3, .sl (N0 + 3) 0 l1.length), (4, .int .i64 0)] rfl ?_
  exact Rc.fin (AHeap.Sub.refl _) ⟨N0 + 6, (N0 + 3), (by omega), (by omega), (by omega), rfl, rfl⟩
 ·
  clear H hse1
  rintro ⟨s2, s3⟩ fl a σ H ⟨M1, o1, fM1_0, fM1_1, fM1_2, rfl, rfl⟩ K2 O2 hK2 hO2
  unfold l_toBoxS_o2_L1 at H; dsimp only at H
  refine AWP_sq [0, 3, 4] fun K3 hK3 => ?_
  refine AWP_sr tok [] [0, 3, 4, 11] (fun a σ => a = [(0, .fsl (encL rBox p0)), (3, .sl o1 0 s3.length), (4, .int .i64 s2), (11, .bool (ilt s2 (ilen p0)))] ∧ σ = hp E0 [(o1, some ⟨64, 2, encL rBox_o s3⟩)] (M1 + 4)) (fun K hK => ?_) ?_
  ·
   skip
   simp -dsimp -implicitDefEqProofs (maxDischargeDepth := 6)
   exact hK _ _ ⟨rfl, rfl⟩
  rintro a σ ⟨rfl, rfl⟩
  refine AWP_cond (ilt s2 (ilen p0)) rfl (fun C1 => ?_) (fun C1 => ?_)
  ·
   replace H := ifT C1 H
   refine AWP_skip ?_
   show K3 _ _
   refine keepE (l := [0, 3, 4]) (x := [(0, .fsl (encL rBox p0)), (3, .sl o1 0 s3.length), (4, .int .i64 s2)]) rfl fun a' ha => ?_
   refine hK3 _ _ ?_; rw [ha]
   refine Rc.mk ?_
   refine AWP_sq [0, 3, 4] fun K4 hK4 => ?_
   refine AWP_block (AWP_thenB ?_)
   obtain ⟨v5, hv5, H⟩ := bindE H
   obtain ⟨r6, hr6, H⟩ := bindE H
   obtain ⟨v7, hv7, H⟩ := bindE H
   refine AWP_rt tok [] [0, 3, 4] (fun a σ => ∃ M3 o3 : Nat, M1 + 13 ≤ M3 ∧ M1 + 13 ≤ o3 ∧ o3 < M3 ∧ a = [(0, .fsl (encL rBox p0)), (3, .sl o1 0 s3.length), (4, .int .i64 s2)] ∧ σ = hp E0 [(o1, some ⟨64, 2, (encL rBox_o s3).set s2.toNat [.int .i64 r6.Room, .sl o3 0 r6.Items.length]⟩), (o3, some ⟨3, 1, encL rI r6.Items⟩)] M3) (fun K hK => ?_) ?_
   ·
    skip
    simp -dsimp -implicitDefEqProofs (maxDischargeDepth := 6) [ix25 hv5, ixo29 hv7, (idx_lt3 hv7).2.2]
    refine (c49_o (H := hr6) ).mono ?_; rintro _ _ ⟨M3, o3, fM3_0, fM3_1, fM3_2, rfl, rfl⟩; simp only [hp_next] at fM3_0 fM3_1 fM3_2
    have eM3_0 := nq (a := o3) (b := o1) (by omega)
    try simp -dsimp -implicitDefEqProofs (maxDischargeDepth := 6) [ix25 hv5, ixo29 hv7, (idx_lt3 hv7).2.2, eM3_0, hp_over_some, hp_over_none]
    exact hK _ _ ⟨M3, o3, (by omega), (by omega), (by omega), rfl, rfl⟩
   rintro a σ ⟨M3, o3, fM3_0, fM3_1, fM3_2, ha, rfl⟩
   refine hK4 _ _ ?_; rw [ha]
   refine Rc.mk ?_
   refine AWP_rt tok [] [0, 3, 4] (fun a σ => a = [(0, .fsl (encL rBox p0)), (3, .sl o1 0 s3.length), (4, .int .i64 (iadd .i64 s2 1))] ∧ σ = hp E0 [(o1, some ⟨64, 2, (encL rBox_o s3).set s2.toNat [.int .i64 r6.Room, .sl o3 0 r6.Items.length]⟩), (o3, some ⟨3, 1, encL rI r6.Items⟩)] (M3 + 3)) (fun K hK => ?_) ?_
   ·
    skip
    have e0 := nq (a := o1) (b := o3) (by omega)
    simp -dsimp -implicitDefEqProofs (maxDischargeDepth := 6) [e0, (gset hv7 _), List.set_set]
    exact hK _ _ ⟨rfl, rfl⟩
   rintro a σ ⟨ha, rfl⟩
   obtain ⟨l8, hl8, H⟩ := bindE H
   replace H := Option.some.inj H; subst H
   refine hK2 _ _ _ rfl ?_; rw [ha]
   refine gPk Rc_ref (k := r6.Items.length) (o := o1) (ob := ⟨64, 2, (encL rBox_o s3).set s2.toNat [.int .i64 r6.Room, .sl o3 0 r6.Items.length]⟩) (row := [.int .i64 r6.Room, .sl o3 0 r6.Items.length]) (d := o3) (obd := ⟨3, 1, encL rI r6.Items⟩) (r := s2.toNat) (i := 1) [(o1, some ⟨64, 2, (encL rBox_o s3).set s2.toNat [.int .i64 r6.Room, .osl 3 1 (encL rI r6.Items)]⟩)] (by simp (disch := omega)) (gset hv7 _) rfl (by simp (disch := omega)) (by simp (disch := omega)) (by first | omega | simp) (by simp (disch := omega) [List.set_set, app_set] <;> omega) (by simp (disch := omega) [List.set_set, app_set]) ?_
   rw [show hp E0 [(o1, some ⟨64, 2, (encL rBox_o s3).set s2.toNat [.int .i64 r6.Room, .osl 3 1 (encL rI r6.Items)]⟩)] (M3 + 3) = hp E0 [(o1, some ⟨64, 2, encL rBox_o l8⟩)] (M3 + 3) from by rw [(setx_iff.1 hl8).2, ← encL_set]; rfl]; (try rw [← setx_len hl8])
   exact Rc.fin (AHeap.Sub.refl _) ⟨M3 + 3, o1, (by omega), (by omega), (by omega), rfl, rfl⟩
  ·
   replace H := ifF C1 H
   replace H := Option.some.inj H; subst H
   refine AWP_exit (hO2 _ _ _ _ rfl ⟨rfl, ?_⟩)
   refine Rc.rw (l := [3]) (X := [(3, .sl o1 0 s3.length)]) rfl ?_
   exact Rc.fin (AHeap.Sub.refl _) ⟨M1 + 4, o1, (by omega), (by omega), (by omega), rfl, rfl⟩
 ·
  intro x a σ hx
  obtain ⟨y4, rfl⟩ : ∃ x, x = e1 := ⟨_, rfl⟩
  obtain ⟨rfl, b, τ, hr, M2, o2, fM2_0, fM2_1, fM2_2, rfl, rfl⟩ := hx
  dsimp only at H
  show K1 _ _
  refine hK1 _ _ (Rc_ref hr ?_)
  refine Rc.mk ?_
  refine AWP_sr tok [] [2] (fun a σ => a = [(2, .sl o2 0 y4.length)] ∧ σ = hp E0 [(o2, some ⟨64, 2, encL rBox_o y4⟩)] (M2 + 2)) (fun K hK => ?_) ?_
  ·
   skip
   simp -dsimp -implicitDefEqProofs (maxDischargeDepth := 6)
   exact hK _ _ ⟨rfl, rfl⟩
  rintro a σ ⟨rfl, rfl⟩
  replace H := Option.some.inj H; subst H
  refine AWP_kp [2] [(2, .sl o2 0 y4.length)] rfl ?_
  refine AWP_ret ?_
  refine ⟨[.sl o2 0 y4.length], by simp, M2 + 2, o2, by omega, by omega, by omega, ?_, ?_⟩
  ·
   simp [encL_nil]
  ·
   first | rfl | simp [List.set_set]
theorem c22 {p0 : (List Int)} {p1 : Int} {r : Int} (H : l_heldIntS p0 p1 = some r) : APure Try.prog G 22 [.fsl (encL rI p0), .int .i64 p1] (.int .i64 r) := by
 refine APure_fn (fun N0 => ?_) (by simp)
 refine ACalls_fn tok Try.func22 (by kernel_rfl) rfl Try.ntmps22 Try.results22 rfl ?_
 simp only [argsA, Nat.reduceAdd, hp_next]
 unfold l_heldIntS at H
 refine AWP_sr tok [] [0, 1] (fun a σ => a = [(0, .fsl (encL rI p0)), (1, .int .i64 p1)] ∧ σ = hp E0 [] (N0 + 1)) (fun K hK => ?_) ?_
 ·
  skip
  simp -dsimp -implicitDefEqProofs (maxDischargeDepth := 6)
  exact hK _ _ ⟨rfl, rfl⟩
 rintro a σ ⟨rfl, rfl⟩
 refine AWP_sq [1] fun K1 hK1 => ?_
 refine AWP_sr tok [] [0, 1, 5] (fun a σ => a = [(0, .fsl (encL rI p0)), (1, .int .i64 p1), (5, .int .i64 0)] ∧ σ = hp E0 [] (N0 + 2)) (fun K hK => ?_) ?_
 ·
  skip
  simp -dsimp -implicitDefEqProofs (maxDischargeDepth := 6)
  exact hK _ _ ⟨rfl, rfl⟩
 rintro a σ ⟨rfl, rfl⟩
 refine AWP_block (AWP_thenB ?_)
 obtain ⟨e1, hse1, H⟩ := bindE H
 refine AWP_lp [0, 1, 5] (fun s a σ => ∃ M1 : Nat, N0 ≤ M1 ∧ a = [(0, .fsl (encL rI p0)), (1, .int .i64 s.1), (5, .int .i64 s.2)] ∧ σ = hp E0 [] M1) (fun e x a σ => match e with | .inl s => x = .exit 0 ∧ Rc G 21 N0 (fun a σ => ∃ M2 : Nat, N0 ≤ M2 ∧ a = [(1, .int .i64 s)] ∧ σ = hp E0 [] M2) (AAct.keep a [1]) σ | .inr s => x = .ret ∧ ∃ vs, resA T σ a [.tmp 4] = some vs ∧ ∃ d, thawA (fun _ => true) σ d (tupA vs) = .int .i64 s) hse1 ?_ ?_ ?_
 ·
  refine Rc.kp [0, 1, 5] [(0, .fsl (encL rI p0)), (1, .int .i64 p1), (5, .int .i64 0)] rfl ?_
  exact Rc.fin (AHeap.Sub.refl _) ⟨N0 + 2, (by omega), rfl, rfl⟩
 ·
  clear H hse1
  rintro ⟨s1, s2⟩ fl a σ H ⟨M1, fM1_0, rfl, rfl⟩ K2 O2 hK2 hO2
  unfold l_heldIntS_L1 at H; dsimp only at H
  refine AWP_sq [0, 1, 5] fun K3 hK3 => ?_
  refine AWP_sr tok [] [0, 1, 5, 9] (fun a σ => a = [(0, .fsl (encL rI p0)), (1, .int .i64 s1), (5, .int .i64 s2), (9, .bool (ilt s2 (ilen p0)))] ∧ σ = hp E0 [] (M1 + 4)) (fun K hK => ?_) ?_
  ·
   skip
   simp -dsimp -implicitDefEqProofs (maxDischargeDepth := 6)
   exact hK _ _ ⟨rfl, rfl⟩
  rintro a σ ⟨rfl, rfl⟩
  refine AWP_cond (ilt s2 (ilen p0)) rfl (fun C1 => ?_) (fun C1 => ?_)
  ·
   replace H := ifT C1 H
   refine AWP_skip ?_
   show K3 _ _
   refine keepE (l := [0, 1, 5]) (x := [(0, .fsl (encL rI p0)), (1, .int .i64 s1), (5, .int .i64 s2)]) rfl fun a' ha => ?_
   refine hK3 _ _ ?_; rw [ha]
   refine Rc.mk ?_
   refine AWP_sq [0, 1, 5] fun K4 hK4 => ?_
   refine AWP_block (AWP_thenB ?_)
   refine AWP_sq [0, 1, 5] fun K5 hK5 => ?_
   obtain ⟨v4, hv4, H⟩ := bindE H
   refine AWP_sr tok [] [0, 1, 5, 17] (fun a σ => a = [(0, .fsl (encL rI p0)), (1, .int .i64 s1), (5, .int .i64 s2), (17, .bool (ine v4 s1))] ∧ σ = hp E0 [] (M1 + 10)) (fun K hK => ?_) ?_
   ·
    skip
    simp -dsimp -implicitDefEqProofs (maxDischargeDepth := 6) [ix22 hv4]
    exact hK _ _ ⟨rfl, rfl⟩
   rintro a σ ⟨rfl, rfl⟩
   refine AWP_cond (ine v4 s1) rfl (fun C2 => ?_) (fun C2 => ?_)
   ·
    replace H := ifT C2 H
    refine AWP_sr tok [] [4] (fun a σ => a = [(4, .int .i64 (-1))] ∧ σ = hp E0 [] (M1 + 11)) (fun K hK => ?_) ?_
    ·
     skip
     simp -dsimp -implicitDefEqProofs (maxDischargeDepth := 6)
     exact hK _ _ ⟨rfl, rfl⟩
    rintro a σ ⟨rfl, rfl⟩
    replace H := Option.some.inj H; subst H
    refine AWP_kp [4] [(4, .int .i64 (-1))] rfl ?_
    refine AWP_ret (hO2 _ _ _ _ rfl ⟨rfl, ?_⟩)
    exact ⟨[.int .i64 (-1)], by simp, 4, by simp [encL_nil]⟩
   ·
    replace H := ifF C2 H
    refine AWP_skip ?_
    show K5 _ _
    refine keepE (l := [0, 1, 5]) (x := [(0, .fsl (encL rI p0)), (1, .int .i64 s1), (5, .int .i64 s2)]) rfl fun a' ha => ?_
    refine hK5 _ _ ?_; rw [ha]
    refine Rc.mk ?_
    refine AWP_rt tok [] [0, 1, 5] (fun a σ => a = [(0, .fsl (encL rI p0)), (1, .int .i64 (iadd .i64 s1 1)), (5, .int .i64 s2)] ∧ σ = hp E0 [] (M1 + 13)) (fun K hK => ?_) ?_
    ·
     skip
     simp -dsimp -implicitDefEqProofs (maxDischargeDepth := 6)
     exact hK _ _ ⟨rfl, rfl⟩
    rintro a σ ⟨ha, rfl⟩
    refine hK4 _ _ ?_; rw [ha]
    refine Rc.mk ?_
    refine AWP_rt tok [] [0, 1, 5] (fun a σ => a = [(0, .fsl (encL rI p0)), (1, .int .i64 (iadd .i64 s1 1)), (5, .int .i64 (iadd .i64 s2 1))] ∧ σ = hp E0 [] (M1 + 16)) (fun K hK => ?_) ?_
    ·
     skip
     simp -dsimp -implicitDefEqProofs (maxDischargeDepth := 6)
     exact hK _ _ ⟨rfl, rfl⟩
    rintro a σ ⟨ha, rfl⟩
    replace H := Option.some.inj H; subst H
    refine hK2 _ _ _ rfl ?_; rw [ha]
    exact Rc.fin (AHeap.Sub.refl _) ⟨M1 + 16, (by omega), rfl, rfl⟩
  ·
   replace H := ifF C1 H
   replace H := Option.some.inj H; subst H
   refine AWP_exit (hO2 _ _ _ _ rfl ⟨rfl, ?_⟩)
   refine Rc.rw (l := [1]) (X := [(1, .int .i64 s1)]) rfl ?_
   exact Rc.fin (AHeap.Sub.refl _) ⟨M1 + 4, (by omega), rfl, rfl⟩
 ·
  intro x a σ hx
  rcases e1 with y3 | r0
  ·
   obtain ⟨rfl, b, τ, hr, M2, fM2_0, rfl, rfl⟩ := hx
   dsimp only at H
   show K1 _ _
   refine hK1 _ _ (Rc_ref hr ?_)
   refine Rc.mk ?_
   refine AWP_sr tok [] [4] (fun a σ => a = [(4, .int .i64 y3)] ∧ σ = hp E0 [] (M2 + 2)) (fun K hK => ?_) ?_
   ·
    skip
    simp -dsimp -implicitDefEqProofs (maxDischargeDepth := 6)
    exact hK _ _ ⟨rfl, rfl⟩
   rintro a σ ⟨rfl, rfl⟩
   replace H := Option.some.inj H; subst H
   refine AWP_kp [4] [(4, .int .i64 y3)] rfl ?_
   refine AWP_ret ?_
   exact ⟨[.int .i64 y3], by simp, 4, by simp [encL_nil]⟩
  ·
   obtain ⟨rfl, hx2⟩ := hx
   dsimp only at H
   replace H := Option.some.inj H; subst H; exact hx2
theorem c20 {p0 : gMachine} {p1 : Int} {r : Int} (H : l_heldMachine p0 p1 = some r) : APure Try.prog G 20 [.agg [.fsl (encL rI p0.Regs), .int .i64 p0.Pc, .fsl (encL rI p0.Mem)], .int .i64 p1] (.int .i64 r) := by
 refine APure_fn (fun N0 => ?_) (by simp)
 refine ACalls_fn tok Try.func20 (by kernel_rfl) rfl Try.ntmps20 Try.results20 rfl ?_
 simp only [argsA, Nat.reduceAdd, hp_next]
 unfold l_heldMachine at H
 refine AWP_sr tok [0] [1, 2] (fun a σ => a = [(1, .int .i64 p1), (2, .fptr [.fsl (encL rI p0.Regs), .int .i64 p0.Pc, .fsl (encL rI p0.Mem)] 0)] ∧ σ = hp E0 [] (N0 + 2)) (fun K hK => ?_) ?_
 ·
  skip
  simp -dsimp -implicitDefEqProofs (maxDischargeDepth := 6)
  exact hK _ _ ⟨rfl, rfl⟩
 rintro a σ ⟨rfl, rfl⟩
 obtain ⟨r1, hr1, H⟩ := bindE H
 refine AWP_sr tok [] [1, 2] (fun a σ => a = [(1, .int .i64 r1), (2, .fptr [.fsl (encL rI p0.Regs), .int .i64 p0.Pc, .fsl (encL rI p0.Mem)] 0)] ∧ σ = hp E0 [] (N0 + 7)) (fun K hK => ?_) ?_
 ·
  skip
  simp -dsimp -implicitDefEqProofs (maxDischargeDepth := 6)
  refine (c22 hr1).app ?_; try simp -dsimp -implicitDefEqProofs (maxDischargeDepth := 6)
  exact hK _ _ ⟨rfl, rfl⟩
 rintro a σ ⟨rfl, rfl⟩
 refine AWP_sq [1, 2] fun K1 hK1 => ?_
 refine AWP_sr tok [] [1, 2, 10] (fun a σ => a = [(1, .int .i64 r1), (2, .fptr [.fsl (encL rI p0.Regs), .int .i64 p0.Pc, .fsl (encL rI p0.Mem)] 0), (10, .bool (ilt r1 0))] ∧ σ = hp E0 [] (N0 + 9)) (fun K hK => ?_) ?_
 ·
  skip
  simp -dsimp -implicitDefEqProofs (maxDischargeDepth := 6)
  exact hK _ _ ⟨rfl, rfl⟩
 rintro a σ ⟨rfl, rfl⟩
 refine AWP_cond (ilt r1 0) rfl (fun C1 => ?_) (fun C1 => ?_)
 ·
  replace H := ifT C1 H
  refine AWP_sr tok [] [4] (fun a σ => a = [(4, .int .i64 (-1))] ∧ σ = hp E0 [] (N0 + 10)) (fun K hK => ?_) ?_
  ·
   skip
   simp -dsimp -implicitDefEqProofs (maxDischargeDepth := 6)
   exact hK _ _ ⟨rfl, rfl⟩
  rintro a σ ⟨rfl, rfl⟩
  replace H := Option.some.inj H; subst H
  refine AWP_kp [4] [(4, .int .i64 (-1))] rfl ?_
  refine AWP_ret ?_
  exact ⟨[.int .i64 (-1)], by simp, 4, by simp [encL_nil]⟩
 ·
  replace H := ifF C1 H
  refine AWP_skip ?_
  show K1 _ _
  refine keepE (l := [1, 2]) (x := [(1, .int .i64 r1), (2, .fptr [.fsl (encL rI p0.Regs), .int .i64 p0.Pc, .fsl (encL rI p0.Mem)] 0)]) rfl fun a' ha => ?_
  refine hK1 _ _ ?_; rw [ha]
  refine Rc.mk ?_
  obtain ⟨r2, hr2, H⟩ := bindE H
  refine AWP_sr tok [] [1] (fun a σ => a = [(1, .int .i64 r2)] ∧ σ = hp E0 [] (N0 + 14)) (fun K hK => ?_) ?_
  ·
   skip
   simp -dsimp -implicitDefEqProofs (maxDischargeDepth := 6)
   refine (c22 hr2).app ?_; try simp -dsimp -implicitDefEqProofs (maxDischargeDepth := 6)
   exact hK _ _ ⟨rfl, rfl⟩
  rintro a σ ⟨rfl, rfl⟩
  refine AWP_sq [1] fun K2 hK2 => ?_
  refine AWP_sr tok [] [1, 16] (fun a σ => a = [(1, .int .i64 r2), (16, .bool (ilt r2 0))] ∧ σ = hp E0 [] (N0 + 16)) (fun K hK => ?_) ?_
  ·
   skip
   simp -dsimp -implicitDefEqProofs (maxDischargeDepth := 6)
   exact hK _ _ ⟨rfl, rfl⟩
  rintro a σ ⟨rfl, rfl⟩
  refine AWP_cond (ilt r2 0) rfl (fun C2 => ?_) (fun C2 => ?_)
  ·
   replace H := ifT C2 H
   refine AWP_sr tok [] [4] (fun a σ => a = [(4, .int .i64 (-1))] ∧ σ = hp E0 [] (N0 + 17)) (fun K hK => ?_) ?_
   ·
    skip
    simp -dsimp -implicitDefEqProofs (maxDischargeDepth := 6)
    exact hK _ _ ⟨rfl, rfl⟩
   rintro a σ ⟨rfl, rfl⟩
   replace H := Option.some.inj H; subst H
   refine AWP_kp [4] [(4, .int .i64 (-1))] rfl ?_
   refine AWP_ret ?_
   exact ⟨[.int .i64 (-1)], by simp, 4, by simp [encL_nil]⟩
  ·
   replace H := ifF C2 H
   refine AWP_skip ?_
   show K2 _ _
   refine keepE (l := [1]) (x := [(1, .int .i64 r2)]) rfl fun a' ha => ?_
   refine hK2 _ _ ?_; rw [ha]
   refine Rc.mk ?_
   refine AWP_sr tok [] [4] (fun a σ => a = [(4, .int .i64 r2)] ∧ σ = hp E0 [] (N0 + 18)) (fun K hK => ?_) ?_
   ·
    skip
    simp -dsimp -implicitDefEqProofs (maxDischargeDepth := 6)
    exact hK _ _ ⟨rfl, rfl⟩
   rintro a σ ⟨rfl, rfl⟩
   replace H := Option.some.inj H; subst H
   refine AWP_kp [4] [(4, .int .i64 r2)] rfl ?_
   refine AWP_ret ?_
   exact ⟨[.int .i64 r2], by simp, 4, by simp [encL_nil]⟩
theorem c21 {p0 : (List gBox)} {p1 : Int} {r : Int} (H : l_heldBoxS p0 p1 = some r) : APure Try.prog G 21 [.fsl (encL rBox p0), .int .i64 p1] (.int .i64 r) := by
 refine APure_fn (fun N0 => ?_) (by simp)
 refine ACalls_fn tok Try.func21 (by kernel_rfl) rfl Try.ntmps21 Try.results21 rfl ?_
 simp only [argsA, Nat.reduceAdd, hp_next]
 unfold l_heldBoxS at H
 refine AWP_sr tok [] [0, 1] (fun a σ => a = [(0, .fsl (encL rBox p0)), (1, .int .i64 p1)] ∧ σ = hp E0 [] (N0 + 1)) (fun K hK => ?_) ?_
 ·
  skip
  simp -dsimp -implicitDefEqProofs (maxDischargeDepth := 6)
  exact hK _ _ ⟨rfl, rfl⟩
 rintro a σ ⟨rfl, rfl⟩
 refine AWP_sq [1] fun K1 hK1 => ?_
 refine AWP_sr tok [] [0, 1, 5] (fun a σ => a = [(0, .fsl (encL rBox p0)), (1, .int .i64 p1), (5, .int .i64 0)] ∧ σ = hp E0 [] (N0 + 2)) (fun K hK => ?_) ?_
 ·
  skip
  simp -dsimp -implicitDefEqProofs (maxDischargeDepth := 6)
  exact hK _ _ ⟨rfl, rfl⟩
 rintro a σ ⟨rfl, rfl⟩
 refine AWP_block (AWP_thenB ?_)
 obtain ⟨e1, hse1, H⟩ := bindE H
 refine AWP_lp [0, 1, 5] (fun s a σ => ∃ M1 : Nat, N0 ≤ M1 ∧ a = [(0, .fsl (encL rBox p0)), (1, .int .i64 s.1), (5, .int .i64 s.2)] ∧ σ = hp E0 [] M1) (fun e x a σ => match e with | .inl s => x = .exit 0 ∧ Rc G 31 N0 (fun a σ => ∃ M2 : Nat, N0 ≤ M2 ∧ a = [(1, .int .i64 s)] ∧ σ = hp E0 [] M2) (AAct.keep a [1]) σ | .inr s => x = .ret ∧ ∃ vs, resA T σ a [.tmp 4] = some vs ∧ ∃ d, thawA (fun _ => true) σ d (tupA vs) = .int .i64 s) hse1 ?_ ?_ ?_
 ·
  refine Rc.kp [0, 1, 5] [(0, .fsl (encL rBox p0)), (1, .int .i64 p1), (5, .int .i64 0)] rfl ?_
  exact Rc.fin (AHeap.Sub.refl _) ⟨N0 + 2, (by omega), rfl, rfl⟩
 ·
  clear H hse1
  rintro ⟨s1, s2⟩ fl a σ H ⟨M1, fM1_0, rfl, rfl⟩ K2 O2 hK2 hO2
  unfold l_heldBoxS_L1 at H; dsimp only at H
  refine AWP_sq [0, 1, 5] fun K3 hK3 => ?_
  refine AWP_sr tok [] [0, 1, 5, 9] (fun a σ => a = [(0, .fsl (encL rBox p0)), (1, .int .i64 s1), (5, .int .i64 s2), (9, .bool (ilt s2 (ilen p0)))] ∧ σ = hp E0 [] (M1 + 4)) (fun K hK => ?_) ?_
  ·
   skip
   simp -dsimp -implicitDefEqProofs (maxDischargeDepth := 6)
   exact hK _ _ ⟨rfl, rfl⟩
  rintro a σ ⟨rfl, rfl⟩
  refine AWP_cond (ilt s2 (ilen p0)) rfl (fun C1 => ?_) (fun C1 => ?_)
  ·
   replace H := ifT C1 H
   refine AWP_skip ?_
   show K3 _ _
   refine keepE (l := [0, 1, 5]) (x := [(0, .fsl (encL rBox p0)), (1, .int .i64 s1), (5, .int .i64 s2)]) rfl fun a' ha => ?_
   refine hK3 _ _ ?_; rw [ha]
   refine Rc.mk ?_
   refine AWP_sq [0, 1, 5] fun K4 hK4 => ?_
   refine AWP_block (AWP_thenB ?_)
   refine AWP_sq [0, 1, 5] fun K5 hK5 => ?_
   obtain ⟨v4, hv4, H⟩ := bindE H
   refine AWP_sr tok [] [0, 1, 5, 18] (fun a σ => a = [(0, .fsl (encL rBox p0)), (1, .int .i64 s1), (5, .int .i64 s2), (18, .bool (ine v4.Room s1))] ∧ σ = hp E0 [] (M1 + 11)) (fun K hK => ?_) ?_
   ·
    skip
    simp -dsimp -implicitDefEqProofs (maxDischargeDepth := 6) [ix29 hv4]
    exact hK _ _ ⟨rfl, rfl⟩
   rintro a σ ⟨rfl, rfl⟩
   refine AWP_cond (ine v4.Room s1) rfl (fun C2 => ?_) (fun C2 => ?_)
   ·
    replace H := ifT C2 H
    refine AWP_sr tok [] [4] (fun a σ => a = [(4, .int .i64 (-1))] ∧ σ = hp E0 [] (M1 + 12)) (fun K hK => ?_) ?_
    ·
     skip
     simp -dsimp -implicitDefEqProofs (maxDischargeDepth := 6)
     exact hK _ _ ⟨rfl, rfl⟩
    rintro a σ ⟨rfl, rfl⟩
    replace H := Option.some.inj H; subst H
    refine AWP_kp [4] [(4, .int .i64 (-1))] rfl ?_
    refine AWP_ret (hO2 _ _ _ _ rfl ⟨rfl, ?_⟩)
    exact ⟨[.int .i64 (-1)], by simp, 4, by simp [encL_nil]⟩
   ·
    replace H := ifF C2 H
    refine AWP_skip ?_
    show K5 _ _
    refine keepE (l := [0, 1, 5]) (x := [(0, .fsl (encL rBox p0)), (1, .int .i64 s1), (5, .int .i64 s2)]) rfl fun a' ha => ?_
    refine hK5 _ _ ?_; rw [ha]
    refine Rc.mk ?_
    refine AWP_sr tok [] [0, 1, 5] (fun a σ => a = [(0, .fsl (encL rBox p0)), (1, .int .i64 (iadd .i64 s1 1)), (5, .int .i64 s2)] ∧ σ = hp E0 [] (M1 + 14)) (fun K hK => ?_) ?_
    ·
     skip
     simp -dsimp -implicitDefEqProofs (maxDischargeDepth := 6)
     exact hK _ _ ⟨rfl, rfl⟩
    rintro a σ ⟨rfl, rfl⟩
    obtain ⟨r5, hr5, H⟩ := bindE H
    refine AWP_sr tok [] [0, 1, 5] (fun a σ => a = [(0, .fsl (encL rBox p0)), (1, .int .i64 r5), (5, .int .i64 s2)] ∧ σ = hp E0 [] (M1 + 22)) (fun K hK => ?_) ?_
    ·
     skip
     simp -dsimp -implicitDefEqProofs (maxDischargeDepth := 6) [ix29 hv4]
     refine (c22 hr5).app ?_; try simp -dsimp -implicitDefEqProofs (maxDischargeDepth := 6) [ix29 hv4]
     exact hK _ _ ⟨rfl, rfl⟩
    rintro a σ ⟨rfl, rfl⟩
    refine AWP_sr tok [] [0, 1, 5, 29] (fun a σ => a = [(0, .fsl (encL rBox p0)), (1, .int .i64 r5), (5, .int .i64 s2), (29, .bool (ilt r5 0))] ∧ σ = hp E0 [] (M1 + 24)) (fun K hK => ?_) ?_
    ·
     skip
     simp -dsimp -implicitDefEqProofs (maxDischargeDepth := 6)
     exact hK _ _ ⟨rfl, rfl⟩
    rintro a σ ⟨rfl, rfl⟩
    refine AWP_cond (ilt r5 0) rfl (fun C3 => ?_) (fun C3 => ?_)
    ·
     replace H := ifT C3 H
     refine AWP_sr tok [] [4] (fun a σ => a = [(4, .int .i64 (-1))] ∧ σ = hp E0 [] (M1 + 25)) (fun K hK => ?_) ?_
     ·
      skip
      simp -dsimp -implicitDefEqProofs (maxDischargeDepth := 6)
      exact hK _ _ ⟨rfl, rfl⟩
     rintro a σ ⟨rfl, rfl⟩
     replace H := Option.some.inj H; subst H
     refine AWP_kp [4] [(4, .int .i64 (-1))] rfl ?_
     refine AWP_ret (hO2 _ _ _ _ rfl ⟨rfl, ?_⟩)
     exact ⟨[.int .i64 (-1)], by simp, 4, by simp [encL_nil]⟩
    ·
     replace H := ifF C3 H
     refine AWP_skip ?_
     show K4 _ _
     refine keepE (l := [0, 1, 5]) (x := [(0, .fsl (encL rBox p0)), (1, .int .i64 r5), (5, .int .i64 s2)]) rfl fun a' ha => ?_
     refine hK4 _ _ ?_; rw [ha]
     refine Rc.mk ?_
     refine AWP_rt tok [] [0, 1, 5] (fun a σ => a = [(0, .fsl (encL rBox p0)), (1, .int .i64 r5), (5, .int .i64 (iadd .i64 s2 1))] ∧ σ = hp E0 [] (M1 + 27)) (fun K hK => ?_) ?_
     ·
      skip
      simp -dsimp -implicitDefEqProofs (maxDischargeDepth := 6)
      exact hK _ _ ⟨rfl, rfl⟩
     rintro a σ ⟨ha, rfl⟩
     replace H := Option.some.inj H; subst H
     refine hK2 _ _ _ rfl ?_; rw [ha]
     exact Rc.fin (AHeap.Sub.refl _) ⟨M1 + 27, (by omega), rfl, rfl⟩
  ·
   replace H := ifF C1 H
   replace H := Option.some.inj H; subst H
   refine AWP_exit (hO2 _ _ _ _ rfl ⟨rfl, ?_⟩)
   refine Rc.rw (l := [1]) (X := [(1, .int .i64 s1)]) rfl ?_
   exact Rc.fin (AHeap.Sub.refl _) ⟨M1 + 4, (by omega), rfl, rfl⟩
 ·
  intro x a σ hx
  rcases e1 with y3 | r0
  ·
   obtain ⟨rfl, b, τ, hr, M2, fM2_0, rfl, rfl⟩ := hx
   dsimp only at H
   show K1 _ _
   refine hK1 _ _ (Rc_ref hr ?_)
   refine Rc.mk ?_
   refine AWP_sr tok [] [4] (fun a σ => a = [(4, .int .i64 y3)] ∧ σ = hp E0 [] (M2 + 2)) (fun K hK => ?_) ?_
   ·
    skip
    simp -dsimp -implicitDefEqProofs (maxDischargeDepth := 6)
    exact hK _ _ ⟨rfl, rfl⟩
   rintro a σ ⟨rfl, rfl⟩
   replace H := Option.some.inj H; subst H
   refine AWP_kp [4] [(4, .int .i64 y3)] rfl ?_
   refine AWP_ret ?_
   exact ⟨[.int .i64 y3], by simp, 4, by simp [encL_nil]⟩
  ·
   obtain ⟨rfl, hx2⟩ := hx
   dsimp only at H
   replace H := Option.some.inj H; subst H; exact hx2
theorem c3 {p0 : gMachine} {p1 : (List gBox)} {r : Bool} (H : l_FnExactHartCall p0 p1 = some r) : APure Try.prog G 3 [.agg [.fsl (encL rI p0.Regs), .int .i64 p0.Pc, .fsl (encL rI p0.Mem)], .fsl (encL rBox p1)] (.bool r) := by
 refine APure_fn (fun N0 => ?_) (by simp)
 refine ACalls_fn tok Try.func3 (by kernel_rfl) rfl Try.ntmps3 Try.results3 rfl ?_
 simp only [argsA, Nat.reduceAdd, hp_next]
 unfold l_FnExactHartCall at H
 refine AWP_sr tok [0] [1, 2] (fun a σ => a = [(1, .fsl (encL rBox p1)), (2, .fptr [.fsl (encL rI p0.Regs), .int .i64 p0.Pc, .fsl (encL rI p0.Mem)] 0)] ∧ σ = hp E0 [] (N0 + 2)) (fun K hK => ?_) ?_
 ·
  skip
  simp -dsimp -implicitDefEqProofs (maxDischargeDepth := 6)
  exact hK _ _ ⟨rfl, rfl⟩
 rintro a σ ⟨rfl, rfl⟩
 refine AWP_sr tok [] [1, 2, 5] (fun a σ => a = [(1, .fsl (encL rBox p1)), (2, .fptr [.fsl (encL rI p0.Regs), .int .i64 p0.Pc, .fsl (encL rI p0.Mem)] 0), (5, .int .i64 1048576)] ∧ σ = hp E0 [] (N0 + 3)) (fun K hK => ?_) ?_
 ·
  skip
  simp -dsimp -implicitDefEqProofs (maxDischargeDepth := 6)
  exact hK _ _ ⟨rfl, rfl⟩
 rintro a σ ⟨rfl, rfl⟩
 obtain ⟨r1, hr1, H⟩ := bindE H
 refine AWP_sr tok [] [1, 2, 5] (fun a σ => a = [(1, .fsl (encL rBox p1)), (2, .fptr [.fsl (encL rI p0.Regs), .int .i64 p0.Pc, .fsl (encL rI p0.Mem)] 0), (5, .int .i64 r1)] ∧ σ = hp E0 [] (N0 + 7)) (fun K hK => ?_) ?_
 ·
  skip
  simp -dsimp -implicitDefEqProofs (maxDischargeDepth := 6)
  refine (c8 hr1).app ?_; try simp -dsimp -implicitDefEqProofs (maxDischargeDepth := 6)
  exact hK _ _ ⟨rfl, rfl⟩
 rintro a σ ⟨rfl, rfl⟩
 refine AWP_sq [1, 2, 5] fun K1 hK1 => ?_
 refine AWP_sr tok [] [1, 2, 5, 27] (fun a σ => a = [(1, .fsl (encL rBox p1)), (2, .fptr [.fsl (encL rI p0.Regs), .int .i64 p0.Pc, .fsl (encL rI p0.Mem)] 0), (5, .int .i64 r1), (27, .bool (ilt r1 0))] ∧ σ = hp E0 [] (N0 + 9)) (fun K hK => ?_) ?_
 ·
  skip
  simp -dsimp -implicitDefEqProofs (maxDischargeDepth := 6)
  exact hK _ _ ⟨rfl, rfl⟩
 rintro a σ ⟨rfl, rfl⟩
 refine AWP_cond (ilt r1 0) rfl (fun C1 => ?_) (fun C1 => ?_)
 ·
  replace H := ifT C1 H
  refine AWP_sr tok [] [4] (fun a σ => a = [(4, .bool true)] ∧ σ = hp E0 [] (N0 + 10)) (fun K hK => ?_) ?_
  ·
   skip
   simp -dsimp -implicitDefEqProofs (maxDischargeDepth := 6)
   exact hK _ _ ⟨rfl, rfl⟩
  rintro a σ ⟨rfl, rfl⟩
  replace H := Option.some.inj H; subst H
  refine AWP_kp [4] [(4, .bool true)] rfl ?_
  refine AWP_ret ?_
  exact ⟨[.bool true], by simp, 4, by simp [encL_nil]⟩
 ·
  replace H := ifF C1 H
  refine AWP_skip ?_
  show K1 _ _
  refine keepE (l := [1, 2, 5]) (x := [(1, .fsl (encL rBox p1)), (2, .fptr [.fsl (encL rI p0.Regs), .int .i64 p0.Pc, .fsl (encL rI p0.Mem)] 0), (5, .int .i64 r1)]) rfl fun a' ha => ?_
  refine hK1 _ _ ?_; rw [ha]
  refine Rc.mk ?_
  obtain ⟨r2, hr2, H⟩ := bindE H
  refine AWP_sr tok [] [1, 2, 5] (fun a σ => a = [(1, .fsl (encL rBox p1)), (2, .fptr [.fsl (encL rI p0.Regs), .int .i64 p0.Pc, .fsl (encL rI p0.Mem)] 0), (5, .int .i64 r2)] ∧ σ = hp E0 [] (N0 + 13)) (fun K hK => ?_) ?_
  ·
   skip
   simp -dsimp -implicitDefEqProofs (maxDischargeDepth := 6)
   refine (c9 hr2).app ?_; try simp -dsimp -implicitDefEqProofs (maxDischargeDepth := 6)
   exact hK _ _ ⟨rfl, rfl⟩
  rintro a σ ⟨rfl, rfl⟩
  refine AWP_sq [1, 2] fun K2 hK2 => ?_
  refine AWP_sr tok [] [1, 2, 32] (fun a σ => a = [(1, .fsl (encL rBox p1)), (2, .fptr [.fsl (encL rI p0.Regs), .int .i64 p0.Pc, .fsl (encL rI p0.Mem)] 0), (32, .bool (ilt r2 0))] ∧ σ = hp E0 [] (N0 + 15)) (fun K hK => ?_) ?_
  ·
   skip
   simp -dsimp -implicitDefEqProofs (maxDischargeDepth := 6)
   exact hK _ _ ⟨rfl, rfl⟩
  rintro a σ ⟨rfl, rfl⟩
  refine AWP_cond (ilt r2 0) rfl (fun C2 => ?_) (fun C2 => ?_)
  ·
   replace H := ifT C2 H
   refine AWP_sr tok [] [4] (fun a σ => a = [(4, .bool true)] ∧ σ = hp E0 [] (N0 + 16)) (fun K hK => ?_) ?_
   ·
    skip
    simp -dsimp -implicitDefEqProofs (maxDischargeDepth := 6)
    exact hK _ _ ⟨rfl, rfl⟩
   rintro a σ ⟨rfl, rfl⟩
   replace H := Option.some.inj H; subst H
   refine AWP_kp [4] [(4, .bool true)] rfl ?_
   refine AWP_ret ?_
   exact ⟨[.bool true], by simp, 4, by simp [encL_nil]⟩
  ·
   replace H := ifF C2 H
   refine AWP_skip ?_
   show K2 _ _
   refine keepE (l := [1, 2]) (x := [(1, .fsl (encL rBox p1)), (2, .fptr [.fsl (encL rI p0.Regs), .int .i64 p0.Pc, .fsl (encL rI p0.Mem)] 0)]) rfl fun a' ha => ?_
   refine hK2 _ _ ?_; rw [ha]
   refine Rc.mk ?_
   obtain ⟨r3, hr3, H⟩ := bindE H
   obtain ⟨r4, hr4, H⟩ := bindE H
   obtain ⟨r5, hr5, H⟩ := bindE H
   refine AWP_sr tok [] [1, 2, 6, 7, 8, 9] (fun a σ => a = [(1, .fsl (encL rBox p1)), (2, .fptr [.fsl (encL rI p0.Regs), .int .i64 p0.Pc, .fsl (encL rI p0.Mem)] 0), (6, .ptr (N0 + 25) 0 0), (7, .fsl (encL rBox r5.2.1)), (8, .fsl (encL rI r5.2.2.1)), (9, .int .i64 r5.2.2.2)] ∧ σ = hp E0 [(N0 + 25, some ⟨28, 3, [[.fsl (encL rI r5.1.Regs), .int .i64 r5.1.Pc, .fsl (encL rI r5.1.Mem)]]⟩)] (N0 + 30)) (fun K hK => ?_) ?_
   ·
    skip
    simp -dsimp -implicitDefEqProofs (maxDischargeDepth := 6)
    refine (c11 hr3).app ?_; try simp -dsimp -implicitDefEqProofs (maxDischargeDepth := 6)
    refine (c12 hr4).app ?_; try simp -dsimp -implicitDefEqProofs (maxDischargeDepth := 6)
    refine (c10 hr5).app ?_; try simp -dsimp -implicitDefEqProofs (maxDischargeDepth := 6)
    exact hK _ _ ⟨rfl, rfl⟩
   rintro a σ ⟨rfl, rfl⟩
   obtain ⟨r6, hr6, H⟩ := bindE H
   refine AWP_sr tok [] [1, 2, 6, 7, 8, 9, 10] (fun a σ => ∃ M1 o1 o2 : Nat, N0 + 34 ≤ M1 ∧ N0 + 34 ≤ o1 ∧ o1 < M1 ∧ N0 + 34 ≤ o2 ∧ o2 < M1 ∧ ¬ o1 = o2 ∧ a = [(1, .fsl (encL rBox p1)), (2, .fptr [.fsl (encL rI p0.Regs), .int .i64 p0.Pc, .fsl (encL rI p0.Mem)] 0), (6, .ptr (N0 + 25) 0 0), (7, .fsl (encL rBox r5.2.1)), (8, .fsl (encL rI r5.2.2.1)), (9, .int .i64 r5.2.2.2), (10, .ptr (N0 + 32) 0 0)] ∧ σ = hp E0 [(N0 + 25, some ⟨28, 3, [[.fsl (encL rI r5.1.Regs), .int .i64 r5.1.Pc, .fsl (encL rI r5.1.Mem)]]⟩), (o1, some ⟨3, 1, encL rI r6.Regs⟩), (o2, some ⟨3, 1, encL rI r6.Mem⟩), (N0 + 32, some ⟨28, 3, [[.sl o1 0 r6.Regs.length, .int .i64 r6.Pc, .sl o2 0 r6.Mem.length]]⟩)] M1) (fun K hK => ?_) ?_
   ·
    skip
    simp -dsimp -implicitDefEqProofs (maxDischargeDepth := 6)
    refine (c11_o2 (H := hr6) ).mono ?_; rintro _ _ ⟨M1, o1, o2, fM1_0, fM1_1, fM1_2, fM1_3, fM1_4, fM1_5, rfl, rfl⟩; simp only [hp_next] at fM1_0 fM1_1 fM1_2 fM1_3 fM1_4 fM1_5
    have eM1_0 := nq (a := o1) (b := N0 + 25) (by omega)
    have eM1_1 := nq (a := o1) (b := N0 + 32) (by omega)
    have eM1_2 := nq (a := o1) (b := o2) (by omega)
    have eM1_3 := nq (a := o2) (b := N0 + 25) (by omega)
    have eM1_4 := nq (a := o2) (b := N0 + 32) (by omega)
    try simp -dsimp -implicitDefEqProofs (maxDischargeDepth := 6) [eM1_0, eM1_1, eM1_2, eM1_3, eM1_4, hp_over_some, hp_over_none]
    exact hK _ _ ⟨M1, o1, o2, (by omega), (by omega), (by omega), (by omega), (by omega), (by omega), rfl, rfl⟩
   rintro a σ ⟨M1, o1, o2, fM1_0, fM1_1, fM1_2, fM1_3, fM1_4, fM1_5, rfl, rfl⟩
   refine gPk AWP_ref (k := r6.Regs.length) (o := (N0 + 32)) (ob := ⟨28, 3, [[.sl o1 0 r6.Regs.length, .int .i64 r6.Pc, .sl o2 0 r6.Mem.length]]⟩) (row := [.sl o1 0 r6.Regs.length, .int .i64 r6.Pc, .sl o2 0 r6.Mem.length]) (d := o1) (obd := ⟨3, 1, encL rI r6.Regs⟩) (r := 0) (i := 0) [(N0 + 25, some ⟨28, 3, [[.fsl (encL rI r5.1.Regs), .int .i64 r5.1.Pc, .fsl (encL rI r5.1.Mem)]]⟩), (o2, some ⟨3, 1, encL rI r6.Mem⟩), (N0 + 32, some ⟨28, 3, [[.osl 3 1 (encL rI r6.Regs), .int .i64 r6.Pc, .sl o2 0 r6.Mem.length]]⟩)] (by simp (disch := omega)) rfl rfl (by simp (disch := omega)) (by simp (disch := omega)) (by first | omega | simp) (by simp (disch := omega) [List.set_set, app_set] <;> omega) (by simp (disch := omega) [List.set_set, app_set]) ?_
   refine gPk AWP_ref (k := r6.Mem.length) (o := (N0 + 32)) (ob := ⟨28, 3, [[.osl 3 1 (encL rI r6.Regs), .int .i64 r6.Pc, .sl o2 0 r6.Mem.length]]⟩) (row := [.osl 3 1 (encL rI r6.Regs), .int .i64 r6.Pc, .sl o2 0 r6.Mem.length]) (d := o2) (obd := ⟨3, 1, encL rI r6.Mem⟩) (r := 0) (i := 2) [(N0 + 25, some ⟨28, 3, [[.fsl (encL rI r5.1.Regs), .int .i64 r5.1.Pc, .fsl (encL rI r5.1.Mem)]]⟩), (N0 + 32, some ⟨28, 3, [[.osl 3 1 (encL rI r6.Regs), .int .i64 r6.Pc, .osl 3 1 (encL rI r6.Mem)]]⟩)] (by simp (disch := omega)) rfl rfl (by simp (disch := omega)) (by simp (disch := omega)) (by first | omega | simp) (by simp (disch := omega) [List.set_set, app_set] <;> omega) (by simp (disch := omega) [List.set_set, app_set]) ?_
   obtain ⟨r7, hr7, H⟩ := bindE H
   refine AWP_sr tok [] [1, 2, 6, 7, 8, 9, 10, 11] (fun a σ => ∃ M2 o3 : Nat, M1 + 3 ≤ M2 ∧ M1 + 3 ≤ o3 ∧ o3 < M2 ∧ a = [(1, .fsl (encL rBox p1)), (2, .fptr [.fsl (encL rI p0.Regs), .int .i64 p0.Pc, .fsl (encL rI p0.Mem)] 0), (6, .ptr (N0 + 25) 0 0), (7, .fsl (encL rBox r5.2.1)), (8, .fsl (encL rI r5.2.2.1)), (9, .int .i64 r5.2.2.2), (10, .ptr (N0 + 32) 0 0), (11, .sl o3 0 r7.length)] ∧ σ = hp E0 [(N0 + 25, some ⟨28, 3, [[.fsl (encL rI r5.1.Regs), .int .i64 r5.1.Pc, .fsl (encL rI r5.1.Mem)]]⟩), (N0 + 32, some ⟨28, 3, [[.osl 3 1 (encL rI r6.Regs), .int .i64 r6.Pc, .osl 3 1 (encL rI r6.Mem)]]⟩), (o3, some ⟨64, 2, encL rBox_o r7⟩)] M2) (fun K hK => ?_) ?_
   ·
    skip
    simp -dsimp -implicitDefEqProofs (maxDischargeDepth := 6)
    refine (c12_o2 (H := hr7) ).mono ?_; rintro _ _ ⟨M2, o3, fM2_0, fM2_1, fM2_2, rfl, rfl⟩; simp only [hp_next] at fM2_0 fM2_1 fM2_2
    have eM2_0 := nq (a := o3) (b := N0 + 25) (by omega)
    have eM2_1 := nq (a := o3) (b := N0 + 32) (by omega)
    try simp -dsimp -implicitDefEqProofs (maxDischargeDepth := 6) [eM2_0, eM2_1, hp_over_some, hp_over_none]
    exact hK _ _ ⟨M2, o3, (by omega), (by omega), (by omega), rfl, rfl⟩
   rintro a σ ⟨M2, o3, fM2_0, fM2_1, fM2_2, rfl, rfl⟩
   refine gUnp AWP_ref (ty := 3) (sz := 1) (es := encL rI r6.Regs) (o := (N0 + 32)) (ob := ⟨28, 3, [[.osl 3 1 (encL rI r6.Regs), .int .i64 r6.Pc, .osl 3 1 (encL rI r6.Mem)]]⟩) (row := [.osl 3 1 (encL rI r6.Regs), .int .i64 r6.Pc, .osl 3 1 (encL rI r6.Mem)]) (r := 0) (i := 0) [(N0 + 25, some ⟨28, 3, [[.fsl (encL rI r5.1.Regs), .int .i64 r5.1.Pc, .fsl (encL rI r5.1.Mem)]]⟩), (N0 + 32, some ⟨28, 3, [[.sl M2 0 r6.Regs.length, .int .i64 r6.Pc, .osl 3 1 (encL rI r6.Mem)]]⟩), (o3, some ⟨64, 2, encL rBox_o r7⟩), (M2, some ⟨3, 1, encL rI r6.Regs⟩)] (by simp (disch := omega)) rfl rfl (by simp (disch := omega) [List.set_set]) ?_
   refine gUnp AWP_ref (ty := 3) (sz := 1) (es := encL rI r6.Mem) (o := (N0 + 32)) (ob := ⟨28, 3, [[.sl M2 0 r6.Regs.length, .int .i64 r6.Pc, .osl 3 1 (encL rI r6.Mem)]]⟩) (row := [.sl M2 0 r6.Regs.length, .int .i64 r6.Pc, .osl 3 1 (encL rI r6.Mem)]) (r := 0) (i := 2) [(N0 + 25, some ⟨28, 3, [[.fsl (encL rI r5.1.Regs), .int .i64 r5.1.Pc, .fsl (encL rI r5.1.Mem)]]⟩), (N0 + 32, some ⟨28, 3, [[.sl M2 0 r6.Regs.length, .int .i64 r6.Pc, .sl (M2 + 1) 0 r6.Mem.length]]⟩), (o3, some ⟨64, 2, encL rBox_o r7⟩), (M2, some ⟨3, 1, encL rI r6.Regs⟩), (M2 + 1, some ⟨3, 1, encL rI r6.Mem⟩)] (by simp (disch := omega)) rfl rfl (by simp (disch := omega) [List.set_set]) ?_
   obtain ⟨r8, hr8, H⟩ := bindE H
   refine AWP_sr tok [] [1, 2, 6, 7, 8, 9, 10, 11, 12, 13, 14, 15] (fun a σ => ∃ M3 o4 o5 o6 o7 : Nat, M2 + 15 ≤ M3 ∧ M2 + 15 ≤ o4 ∧ o4 < M3 ∧ M2 + 15 ≤ o5 ∧ o5 < M3 ∧ M2 + 15 ≤ o6 ∧ o6 < M3 ∧ M2 + 15 ≤ o7 ∧ o7 < M3 ∧ ¬ o4 = o5 ∧ ¬ o4 = o6 ∧ ¬ o4 = o7 ∧ ¬ o5 = o6 ∧ ¬ o5 = o7 ∧ ¬ o6 = o7 ∧ a = [(1, .fsl (encL rBox p1)), (2, .fptr [.fsl (encL rI p0.Regs), .int .i64 p0.Pc, .fsl (encL rI p0.Mem)] 0), (6, .ptr (N0 + 25) 0 0), (7, .fsl (encL rBox r5.2.1)), (8, .fsl (encL rI r5.2.2.1)), (9, .int .i64 r5.2.2.2), (10, .ptr (N0 + 32) 0 0), (11, .sl o3 0 r7.length), (12, .ptr (M2 + 10) 0 0), (13, .sl o6 0 r8.2.1.length), (14, .sl o7 0 r8.2.2.1.length), (15, .int .i64 r8.2.2.2)] ∧ σ = hp E0 [(N0 + 25, some ⟨28, 3, [[.fsl (encL rI r5.1.Regs), .int .i64 r5.1.Pc, .fsl (encL rI r5.1.Mem)]]⟩), (N0 + 32, some ⟨28, 3, [[.sl M2 0 r6.Regs.length, .int .i64 r6.Pc, .sl (M2 + 1) 0 r6.Mem.length]]⟩), (o3, some ⟨64, 2, encL rBox_o r7⟩), (M2, some ⟨3, 1, encL rI r6.Regs⟩), (M2 + 1, some ⟨3, 1, encL rI r6.Mem⟩), (o4, some ⟨3, 1, encL rI r8.1.Regs⟩), (o5, some ⟨3, 1, encL rI r8.1.Mem⟩), (o6, some ⟨64, 2, encL rBox_o r8.2.1⟩), (o7, some ⟨3, 1, encL rI r8.2.2.1⟩), (M2 + 10, some ⟨28, 3, [[.sl o4 0 r8.1.Regs.length, .int .i64 r8.1.Pc, .sl o5 0 r8.1.Mem.length]]⟩)] M3) (fun K hK => ?_) ?_
   ·
    skip
    have e0 := nq (a := N0 + 25) (b := o3) (by omega)
    have e1 := nq (a := N0 + 25) (b := M2) (by omega)
    have e2 := nq (a := N0 + 25) (b := M2 + 1) (by omega)
    have e3 := nq (a := N0 + 24) (b := M2) (by omega)
    have e4 := nq (a := N0 + 25) (b := M2 + 10) (by omega)
    have e5 := nq (a := N0 + 15) (b := M2) (by omega)
    have e6 := nq (a := N0 + 32) (b := o3) (by omega)
    have e7 := nq (a := N0 + 32) (b := M2) (by omega)
    have e8 := nq (a := N0 + 32) (b := M2 + 1) (by omega)
    have e9 := nq (a := N0 + 31) (b := M2) (by omega)
    have e10 := nq (a := N0 + 32) (b := M2 + 10) (by omega)
    have e11 := nq (a := N0 + 22) (b := M2) (by omega)
    have e12 := nq (a := o3) (b := M2) (by omega)
    have e13 := nq (a := o3) (b := M2 + 1) (by omega)
    have e14 := nq (a := o3) (b := M2 + 10) (by omega)
    simp -dsimp -implicitDefEqProofs (maxDischargeDepth := 6) [e0, e1, e2, e3, e4, e5, e6, e7, e8, e9, e10, e11, e12, e13, e14]
    refine (c13_o5_b (H := hr8) (by simp [e0, e1, e2, e3, e4, e5, e6, e7, e8, e9, e10, e11, e12, e13, e14])).mono ?_; rintro _ _ ⟨M3, o4, o5, o6, o7, fM3_0, fM3_1, fM3_2, fM3_3, fM3_4, fM3_5, fM3_6, fM3_7, fM3_8, fM3_9, fM3_10, fM3_11, fM3_12, fM3_13, fM3_14, rfl, rfl⟩; simp only [hp_next] at fM3_0 fM3_1 fM3_2 fM3_3 fM3_4 fM3_5 fM3_6 fM3_7 fM3_8 fM3_9 fM3_10 fM3_11 fM3_12 fM3_13 fM3_14
    have eM3_0 := nq (a := o4) (b := N0 + 25) (by omega)
    have eM3_1 := nq (a := o4) (b := N0 + 32) (by omega)
    have eM3_2 := nq (a := o4) (b := o3) (by omega)
    have eM3_3 := nq (a := o4) (b := M2) (by omega)
    have eM3_4 := nq (a := o4) (b := M2 + 1) (by omega)
    have eM3_5 := nq (a := o4) (b := M2 + 10) (by omega)
    have eM3_6 := nq (a := o4) (b := o5) (by omega)
    have eM3_7 := nq (a := o4) (b := o6) (by omega)
    have eM3_8 := nq (a := o4) (b := o7) (by omega)
    have eM3_9 := nq (a := o5) (b := N0 + 25) (by omega)
    have eM3_10 := nq (a := o5) (b := N0 + 32) (by omega)
    have eM3_11 := nq (a := o5) (b := o3) (by omega)
    have eM3_12 := nq (a := o5) (b := M2) (by omega)
    have eM3_13 := nq (a := o5) (b := M2 + 1) (by omega)
    have eM3_14 := nq (a := o5) (b := M2 + 10) (by omega)
    have eM3_15 := nq (a := o5) (b := o6) (by omega)
    have eM3_16 := nq (a := o5) (b := o7) (by omega)
    have eM3_17 := nq (a := o6) (b := N0 + 25) (by omega)
    have eM3_18 := nq (a := o6) (b := N0 + 32) (by omega)
    have eM3_19 := nq (a := o6) (b := o3) (by omega)
    have eM3_20 := nq (a := o6) (b := M2) (by omega)
    have eM3_21 := nq (a := o6) (b := M2 + 1) (by omega)
    have eM3_22 := nq (a := o6) (b := M2 + 10) (by omega)
    have eM3_23 := nq (a := o6) (b := o7) (by omega)
    have eM3_24 := nq (a := o7) (b := N0 + 25) (by omega)
    have eM3_25 := nq (a := o7) (b := N0 + 32) (by omega)
    have eM3_26 := nq (a := o7) (b := o3) (by omega)
    have eM3_27 := nq (a := o7) (b := M2) (by omega)
    have eM3_28 := nq (a := o7) (b := M2 + 1) (by omega)
    have eM3_29 := nq (a := o7) (b := M2 + 10) (by omega)
    try simp -dsimp -implicitDefEqProofs (maxDischargeDepth := 6) [e0, e1, e2, e3, e4, e5, e6, e7, e8, e9, e10, e11, e12, e13, e14, eM3_0, eM3_1, eM3_2, eM3_3, eM3_4, eM3_5, eM3_6, eM3_7, eM3_8, eM3_9, eM3_10, eM3_11, eM3_12, eM3_13, eM3_14, eM3_15, eM3_16, eM3_17, eM3_18, eM3_19, eM3_20, eM3_21, eM3_22, eM3_23, eM3_24, eM3_25, eM3_26, eM3_27, eM3_28, eM3_29, hp_over_some, hp_over_none]
    exact hK _ _ ⟨M3, o4, o5, o6, o7, (by omega), (by omega), (by omega), (by omega), (by omega), (by omega), (by omega), (by omega), (by omega), (by omega), (by omega), (by omega), (by omega), (by omega), (by omega), rfl, rfl⟩
   rintro a σ ⟨M3, o4, o5, o6, o7, fM3_0, fM3_1, fM3_2, fM3_3, fM3_4, fM3_5, fM3_6, fM3_7, fM3_8, fM3_9, fM3_10, fM3_11, fM3_12, fM3_13, fM3_14, rfl, rfl⟩
   refine AWP_sq [1, 2, 6, 7, 8, 9, 10, 11, 12, 13, 14, 15] fun K3 hK3 => ?_
   refine gPk AWP_ref (k := r6.Regs.length) (o := (N0 + 32)) (ob := ⟨28, 3, [[.sl M2 0 r6.Regs.length, .int .i64 r6.Pc, .sl (M2 + 1) 0 r6.Mem.length]]⟩) (row := [.sl M2 0 r6.Regs.length, .int .i64 r6.Pc, .sl (M2 + 1) 0 r6.Mem.length]) (d := M2) (obd := ⟨3, 1, encL rI r6.Regs⟩) (r := 0) (i := 0) [(N0 + 25, some ⟨28, 3, [[.fsl (encL rI r5.1.Regs), .int .i64 r5.1.Pc, .fsl (encL rI r5.1.Mem)]]⟩), (N0 + 32, some ⟨28, 3, [[.osl 3 1 (encL rI r6.Regs), .int .i64 r6.Pc, .sl (M2 + 1) 0 r6.Mem.length]]⟩), (o3, some ⟨64, 2, encL rBox_o r7⟩), (M2 + 1, some ⟨3, 1, encL rI r6.Mem⟩), (o4, some ⟨3, 1, encL rI r8.1.Regs⟩), (o5, some ⟨3, 1, encL rI r8.1.Mem⟩), (o6, some ⟨64, 2, encL rBox_o r8.2.1⟩), (o7, some ⟨3, 1, encL rI r8.2.2.1⟩), (M2 + 10, some ⟨28, 3, [[.sl o4 0 r8.1.Regs.length, .int .i64 r8.1.Pc, .sl o5 0 r8.1.Mem.length]]⟩)] (by simp (disch := omega)) rfl rfl (by simp (disch := omega)) (by simp (disch := omega)) (by first | omega | simp) (by simp (disch := omega) [List.set_set, app_set] <;> omega) (by simp (disch := omega) [List.set_set, app_set]) ?_
   refine gPk AWP_ref (k := r6.Mem.length) (o := (N0 + 32)) (ob := ⟨28, 3, [[.osl 3 1 (encL rI r6.Regs), .int .i64 r6.Pc, .sl (M2 + 1) 0 r6.Mem.length]]⟩) (row := [.osl 3 1 (encL rI r6.Regs), .int .i64 r6.Pc, .sl (M2 + 1) 0 r6.Mem.length]) (d := (M2 + 1)) (obd := ⟨3, 1, encL rI r6.Mem⟩) (r := 0) (i := 2) [(N0 + 25, some ⟨28, 3, [[.fsl (encL rI r5.1.Regs), .int .i64 r5.1.Pc, .fsl (encL rI r5.1.Mem)]]⟩), (N0 + 32, some ⟨28, 3, [[.osl 3 1 (encL rI r6.Regs), .int .i64 r6.Pc, .osl 3 1 (encL rI r6.Mem)]]⟩), (o3, some ⟨64, 2, encL rBox_o r7⟩), (o4, some ⟨3, 1, encL rI r8.1.Regs⟩), (o5, some ⟨3, 1, encL rI r8.1.Mem⟩), (o6, some ⟨64, 2, encL rBox_o r8.2.1⟩), (o7, some ⟨3, 1, encL rI r8.2.2.1⟩), (M2 + 10, some ⟨28, 3, [[.sl o4 0 r8.1.Regs.length, .int .i64 r8.1.Pc, .sl o5 0 r8.1.Mem.length]]⟩)] (by simp (disch := omega)) rfl rfl (by simp (disch := omega)) (by simp (disch := omega)) (by first | omega | simp) (by simp (disch := omega) [List.set_set, app_set] <;> omega) (by simp (disch := omega) [List.set_set, app_set]) ?_
   refine gPk AWP_ref (k := r8.1.Regs.length) (o := (M2 + 10)) (ob := ⟨28, 3, [[.sl o4 0 r8.1.Regs.length, .int .i64 r8.1.Pc, .sl o5 0 r8.1.Mem.length]]⟩) (row := [.sl o4 0 r8.1.Regs.length, .int .i64 r8.1.Pc, .sl o5 0 r8.1.Mem.length]) (d := o4) (obd := ⟨3, 1, encL rI r8.1.Regs⟩) (r := 0) (i := 0) [(N0 + 25, some ⟨28, 3, [[.fsl (encL rI r5.1.Regs), .int .i64 r5.1.Pc, .fsl (encL rI r5.1.Mem)]]⟩), (N0 + 32, some ⟨28, 3, [[.osl 3 1 (encL rI r6.Regs), .int .i64 r6.Pc, .osl 3 1 (encL rI r6.Mem)]]⟩), (o3, some ⟨64, 2, encL rBox_o r7⟩), (o5, some ⟨3, 1, encL rI r8.1.Mem⟩), (o6, some ⟨64, 2, encL rBox_o r8.2.1⟩), (o7, some ⟨3, 1, encL rI r8.2.2.1⟩), (M2 + 10, some ⟨28, 3, [[.osl 3 1 (encL rI r8.1.Regs), .int .i64 r8.1.Pc, .sl o5 0 r8.1.Mem.length]]⟩)] (by simp (disch := omega)) rfl rfl (by simp (disch := omega)) (by simp (disch := omega)) (by first | omega | simp) (by simp (disch := omega) [List.set_set, app_set] <;> omega) (by simp (disch := omega) [List.set_set, app_set]) ?_
   refine gPk AWP_ref (k := r8.1.Mem.length) (o := (M2 + 10)) (ob := ⟨28, 3, [[.osl 3 1 (encL rI r8.1.Regs), .int .i64 r8.1.Pc, .sl o5 0 r8.1.Mem.length]]⟩) (row := [.osl 3 1 (encL rI r8.1.Regs), .int .i64 r8.1.Pc, .sl o5 0 r8.1.Mem.length]) (d := o5) (obd := ⟨3, 1, encL rI r8.1.Mem⟩) (r := 0) (i := 2) [(N0 + 25, some ⟨28, 3, [[.fsl (encL rI r5.1.Regs), .int .i64 r5.1.Pc, .fsl (encL rI r5.1.Mem)]]⟩), (N0 + 32, some ⟨28, 3, [[.osl 3 1 (encL rI r6.Regs), .int .i64 r6.Pc, .osl 3 1 (encL rI r6.Mem)]]⟩), (o3, some ⟨64, 2, encL rBox_o r7⟩), (o6, some ⟨64, 2, encL rBox_o r8.2.1⟩), (o7, some ⟨3, 1, encL rI r8.2.2.1⟩), (M2 + 10, some ⟨28, 3, [[.osl 3 1 (encL rI r8.1.Regs), .int .i64 r8.1.Pc, .osl 3 1 (encL rI r8.1.Mem)]]⟩)] (by simp (disch := omega)) rfl rfl (by simp (disch := omega)) (by simp (disch := omega)) (by first | omega | simp) (by simp (disch := omega) [List.set_set, app_set] <;> omega) (by simp (disch := omega) [List.set_set, app_set]) ?_
   refine gUnp AWP_ref (ty := 3) (sz := 1) (es := encL rI r8.1.Regs) (o := (M2 + 10)) (ob := ⟨28, 3, [[.osl 3 1 (encL rI r8.1.Regs), .int .i64 r8.1.Pc, .osl 3 1 (encL rI r8.1.Mem)]]⟩) (row := [.osl 3 1 (encL rI r8.1.Regs), .int .i64 r8.1.Pc, .osl 3 1 (encL rI r8.1.Mem)]) (r := 0) (i := 0) [(N0 + 25, some ⟨28, 3, [[.fsl (encL rI r5.1.Regs), .int .i64 r5.1.Pc, .fsl (encL rI r5.1.Mem)]]⟩), (N0 + 32, some ⟨28, 3, [[.osl 3 1 (encL rI r6.Regs), .int .i64 r6.Pc, .osl 3 1 (encL rI r6.Mem)]]⟩), (o3, some ⟨64, 2, encL rBox_o r7⟩), (o6, some ⟨64, 2, encL rBox_o r8.2.1⟩), (o7, some ⟨3, 1, encL rI r8.2.2.1⟩), (M2 + 10, some ⟨28, 3, [[.sl M3 0 r8.1.Regs.length, .int .i64 r8.1.Pc, .osl 3 1 (encL rI r8.1.Mem)]]⟩), (M3, some ⟨3, 1, encL rI r8.1.Regs⟩)] (by simp (disch := omega)) rfl rfl (by simp (disch := omega) [List.set_set]) ?_
   refine gUnp AWP_ref (ty := 3) (sz := 1) (es := encL rI r8.1.Mem) (o := (M2 + 10)) (ob := ⟨28, 3, [[.sl M3 0 r8.1.Regs.length, .int .i64 r8.1.Pc, .osl 3 1 (encL rI r8.1.Mem)]]⟩) (row := [.sl M3 0 r8.1.Regs.length, .int .i64 r8.1.Pc, .osl 3 1 (encL rI r8.1.Mem)]) (r := 0) (i := 2) [(N0 + 25, some ⟨28, 3, [[.fsl (encL rI r5.1.Regs), .int .i64 r5.1.Pc, .fsl (encL rI r5.1.Mem)]]⟩), (N0 + 32, some ⟨28, 3, [[.osl 3 1 (encL rI r6.Regs), .int .i64 r6.Pc, .osl 3 1 (encL rI r6.Mem)]]⟩), (o3, some ⟨64, 2, encL rBox_o r7⟩), (o6, some ⟨64, 2, encL rBox_o r8.2.1⟩), (o7, some ⟨3, 1, encL rI r8.2.2.1⟩), (M2 + 10, some ⟨28, 3, [[.sl M3 0 r8.1.Regs.length, .int .i64 r8.1.Pc, .sl (M3 + 1) 0 r8.1.Mem.length]]⟩), (M3, some ⟨3, 1, encL rI r8.1.Regs⟩), (M3 + 1, some ⟨3, 1, encL rI r8.1.Mem⟩)] (by simp (disch := omega)) rfl rfl (by simp (disch := omega) [List.set_set]) ?_
   obtain ⟨r9, hr9, H⟩ := bindE H
   obtain ⟨g11, hg11, H⟩ := bindE H
   obtain ⟨g13, hg13, H⟩ := bindE H
   obtain ⟨g14, hg14, H⟩ := bindE H
   refine AWP_sr tok [] [1, 2, 6, 7, 8, 9, 10, 11, 12, 13, 14, 15, 75] (fun a σ => a = [(1, .fsl (encL rBox p1)), (2, .fptr [.fsl (encL rI p0.Regs), .int .i64 p0.Pc, .fsl (encL rI p0.Mem)] 0), (6, .ptr (N0 + 25) 0 0), (7, .fsl (encL rBox r5.2.1)), (8, .fsl (encL rI r5.2.2.1)), (9, .int .i64 r5.2.2.2), (10, .ptr (N0 + 32) 0 0), (11, .sl o3 0 r7.length), (12, .ptr (M2 + 10) 0 0), (13, .sl o6 0 r8.2.1.length), (14, .sl o7 0 r8.2.2.1.length), (15, .int .i64 r8.2.2.2), (75, .bool g14)] ∧ σ = hp E0 [(N0 + 25, some ⟨28, 3, [[.fsl (encL rI r5.1.Regs), .int .i64 r5.1.Pc, .fsl (encL rI r5.1.Mem)]]⟩), (N0 + 32, some ⟨28, 3, [[.osl 3 1 (encL rI r6.Regs), .int .i64 r6.Pc, .osl 3 1 (encL rI r6.Mem)]]⟩), (o3, some ⟨64, 2, encL rBox_o r7⟩), (o6, some ⟨64, 2, encL rBox_o r8.2.1⟩), (o7, some ⟨3, 1, encL rI r8.2.2.1⟩), (M2 + 10, some ⟨28, 3, [[.sl M3 0 r8.1.Regs.length, .int .i64 r8.1.Pc, .sl (M3 + 1) 0 r8.1.Mem.length]]⟩), (M3, some ⟨3, 1, encL rI r8.1.Regs⟩), (M3 + 1, some ⟨3, 1, encL rI r8.1.Mem⟩)] (M3 + 23)) (fun K hK => ?_) ?_
   ·
    skip
    have e0 := nq (a := N0 + 25) (b := o3) (by omega)
    have e1 := nq (a := N0 + 25) (b := o6) (by omega)
    have e2 := nq (a := N0 + 25) (b := o7) (by omega)
    have e3 := nq (a := N0 + 25) (b := M2 + 10) (by omega)
    have e4 := nq (a := N0 + 15) (b := M2) (by omega)
    have e5 := nq (a := N0 + 25) (b := M3) (by omega)
    have e6 := nq (a := N0 + 25) (b := M3 + 1) (by omega)
    have e7 := nq (a := N0 + 24) (b := M3) (by omega)
    have e8 := nq (a := N0 + 32) (b := o3) (by omega)
    have e9 := nq (a := N0 + 32) (b := o6) (by omega)
    have e10 := nq (a := N0 + 32) (b := o7) (by omega)
    have e11 := nq (a := N0 + 32) (b := M2 + 10) (by omega)
    have e12 := nq (a := N0 + 22) (b := M2) (by omega)
    have e13 := nq (a := N0 + 32) (b := M3) (by omega)
    have e14 := nq (a := N0 + 32) (b := M3 + 1) (by omega)
    have e15 := nq (a := N0 + 31) (b := M3) (by omega)
    have e16 := nq (a := o3) (b := o6) (by omega)
    have e17 := nq (a := o3) (b := o7) (by omega)
    have e18 := nq (a := o3) (b := M2 + 10) (by omega)
    have e19 := nq (a := o3) (b := M3) (by omega)
    have e20 := nq (a := o3) (b := M3 + 1) (by omega)
    have e21 := nq (a := o6) (b := o7) (by omega)
    have e22 := nq (a := o6) (b := M2 + 10) (by omega)
    have e23 := nq (a := o6) (b := M3) (by omega)
    have e24 := nq (a := o6) (b := M3 + 1) (by omega)
    have e25 := nq (a := o7) (b := M2 + 10) (by omega)
    have e26 := nq (a := o7) (b := M3) (by omega)
    have e27 := nq (a := o7) (b := M3 + 1) (by omega)
    have e28 := nq (a := M2 + 10) (b := M3) (by omega)
    have e29 := nq (a := M2 + 10) (b := M3 + 1) (by omega)
    have e30 := nq (a := M2 + 9) (b := M3) (by omega)
    simp -dsimp -implicitDefEqProofs (maxDischargeDepth := 6) [e0, e1, e2, e3, e4, e5, e6, e7, e8, e9, e10, e11, e12, e13, e14, e15, e16, e17, e18, e19, e20, e21, e22, e23, e24, e25, e26, e27, e28, e29, e30]
    refine (borrow 8 (c14 hr9) (by simp [e0, e1, e2, e3, e4, e5, e6, e7, e8, e9, e10, e11, e12, e13, e14, e15, e16, e17, e18, e19, e20, e21, e22, e23, e24, e25, e26, e27, e28, e29, e30]) rfl).mono ?_; rintro _ _ ⟨rfl, rfl⟩; try simp -dsimp -implicitDefEqProofs (maxDischargeDepth := 6) [e0, e1, e2, e3, e4, e5, e6, e7, e8, e9, e10, e11, e12, e13, e14, e15, e16, e17, e18, e19, e20, e21, e22, e23, e24, e25, e26, e27, e28, e29, e30]
    cases hbg11 : bnot r9
    ·
     replace hg11 := ifF hbg11 hg11
     obtain ⟨r10, hr10, hg11⟩ := bindE hg11
     replace hg11 := Option.some.inj hg11; subst hg11
     try simp -dsimp -implicitDefEqProofs (maxDischargeDepth := 6) [e0, e1, e2, e3, e4, e5, e6, e7, e8, e9, e10, e11, e12, e13, e14, e15, e16, e17, e18, e19, e20, e21, e22, e23, e24, e25, e26, e27, e28, e29, e30, hbg11]
     refine (borrow 8 (c15 hr10) (by simp [e0, e1, e2, e3, e4, e5, e6, e7, e8, e9, e10, e11, e12, e13, e14, e15, e16, e17, e18, e19, e20, e21, e22, e23, e24, e25, e26, e27, e28, e29, e30, hbg11]) rfl).mono ?_; rintro _ _ ⟨rfl, rfl⟩; try simp -dsimp -implicitDefEqProofs (maxDischargeDepth := 6) [e0, e1, e2, e3, e4, e5, e6, e7, e8, e9, e10, e11, e12, e13, e14, e15, e16, e17, e18, e19, e20, e21, e22, e23, e24, e25, e26, e27, e28, e29, e30, hbg11]
     cases hbg13 : (bnot r10)
     ·
      replace hg13 := ifF hbg13 hg13
      obtain ⟨r12, hr12, hg13⟩ := bindE hg13
      replace hg13 := Option.some.inj hg13; subst hg13
      try simp -dsimp -implicitDefEqProofs (maxDischargeDepth := 6) [e0, e1, e2, e3, e4, e5, e6, e7, e8, e9, e10, e11, e12, e13, e14, e15, e16, e17, e18, e19, e20, e21, e22, e23, e24, e25, e26, e27, e28, e29, e30, hbg11, hbg13]
      refine (borrow 8 (c16 hr12) (by simp [e0, e1, e2, e3, e4, e5, e6, e7, e8, e9, e10, e11, e12, e13, e14, e15, e16, e17, e18, e19, e20, e21, e22, e23, e24, e25, e26, e27, e28, e29, e30, hbg11, hbg13]) rfl).mono ?_; rintro _ _ ⟨rfl, rfl⟩; try simp -dsimp -implicitDefEqProofs (maxDischargeDepth := 6) [e0, e1, e2, e3, e4, e5, e6, e7, e8, e9, e10, e11, e12, e13, e14, e15, e16, e17, e18, e19, e20, e21, e22, e23, e24, e25, e26, e27, e28, e29, e30, hbg11, hbg13]
      cases hbg14 : (bnot r12)
      ·
       replace hg14 := ifF hbg14 hg14
       replace hg14 := Option.some.inj hg14; subst hg14
       try simp -dsimp -implicitDefEqProofs (maxDischargeDepth := 6) [e0, e1, e2, e3, e4, e5, e6, e7, e8, e9, e10, e11, e12, e13, e14, e15, e16, e17, e18, e19, e20, e21, e22, e23, e24, e25, e26, e27, e28, e29, e30, hbg11, hbg13, hbg14]
       exact hK _ _ ⟨rfl, rfl⟩
      ·
       replace hg14 := ifT hbg14 hg14
       replace hg14 := Option.some.inj hg14; subst hg14
       try simp -dsimp -implicitDefEqProofs (maxDischargeDepth := 6) [e0, e1, e2, e3, e4, e5, e6, e7, e8, e9, e10, e11, e12, e13, e14, e15, e16, e17, e18, e19, e20, e21, e22, e23, e24, e25, e26, e27, e28, e29, e30, hbg11, hbg13, hbg14]
       exact hK _ _ ⟨rfl, rfl⟩
     ·
      replace hg13 := ifT hbg13 hg13
      replace hg13 := Option.some.inj hg13; subst hg13
      try simp -dsimp -implicitDefEqProofs (maxDischargeDepth := 6) [e0, e1, e2, e3, e4, e5, e6, e7, e8, e9, e10, e11, e12, e13, e14, e15, e16, e17, e18, e19, e20, e21, e22, e23, e24, e25, e26, e27, e28, e29, e30, hbg11, hbg13]
      replace hg14 := ifT rfl hg14
      replace hg14 := Option.some.inj hg14; subst hg14
      try simp -dsimp -implicitDefEqProofs (maxDischargeDepth := 6) [e0, e1, e2, e3, e4, e5, e6, e7, e8, e9, e10, e11, e12, e13, e14, e15, e16, e17, e18, e19, e20, e21, e22, e23, e24, e25, e26, e27, e28, e29, e30, hbg11, hbg13]
      exact hK _ _ ⟨rfl, rfl⟩
    ·
     replace hg11 := ifT hbg11 hg11
     replace hg11 := Option.some.inj hg11; subst hg11
     try simp -dsimp -implicitDefEqProofs (maxDischargeDepth := 6) [e0, e1, e2, e3, e4, e5, e6, e7, e8, e9, e10, e11, e12, e13, e14, e15, e16, e17, e18, e19, e20, e21, e22, e23, e24, e25, e26, e27, e28, e29, e30, hbg11]
     replace hg13 := ifT rfl hg13
     replace hg13 := Option.some.inj hg13; subst hg13
     try simp -dsimp -implicitDefEqProofs (maxDischargeDepth := 6) [e0, e1, e2, e3, e4, e5, e6, e7, e8, e9, e10, e11, e12, e13, e14, e15, e16, e17, e18, e19, e20, e21, e22, e23, e24, e25, e26, e27, e28, e29, e30, hbg11]
     replace hg14 := ifT rfl hg14
     replace hg14 := Option.some.inj hg14; subst hg14
     try simp -dsimp -implicitDefEqProofs (maxDischargeDepth := 6) [e0, e1, e2, e3, e4, e5, e6, e7, e8, e9, e10, e11, e12, e13, e14, e15, e16, e17, e18, e19, e20, e21, e22, e23, e24, e25, e26, e27, e28, e29, e30, hbg11]
     exact hK _ _ ⟨rfl, rfl⟩
   rintro a σ ⟨rfl, rfl⟩
   refine AWP_cond g14 rfl (fun C3 => ?_) (fun C3 => ?_)
   ·
    replace H := ifT C3 H
    refine AWP_sr tok [] [4] (fun a σ => a = [(4, .bool false)] ∧ σ = hp E0 [(N0 + 25, some ⟨28, 3, [[.fsl (encL rI r5.1.Regs), .int .i64 r5.1.Pc, .fsl (encL rI r5.1.Mem)]]⟩), (N0 + 32, some ⟨28, 3, [[.osl 3 1 (encL rI r6.Regs), .int .i64 r6.Pc, .osl 3 1 (encL rI r6.Mem)]]⟩), (o3, some ⟨64, 2, encL rBox_o r7⟩), (o6, some ⟨64, 2, encL rBox_o r8.2.1⟩), (o7, some ⟨3, 1, encL rI r8.2.2.1⟩), (M2 + 10, some ⟨28, 3, [[.sl M3 0 r8.1.Regs.length, .int .i64 r8.1.Pc, .sl (M3 + 1) 0 r8.1.Mem.length]]⟩), (M3, some ⟨3, 1, encL rI r8.1.Regs⟩), (M3 + 1, some ⟨3, 1, encL rI r8.1.Mem⟩)] (M3 + 24)) (fun K hK => ?_) ?_
    ·
     skip
     have e0 := nq (a := N0 + 25) (b := o3) (by omega)
     have e1 := nq (a := N0 + 25) (b := o6) (by omega)
     have e2 := nq (a := N0 + 25) (b := o7) (by omega)
     have e3 := nq (a := N0 + 25) (b := M2 + 10) (by omega)
     have e4 := nq (a := N0 + 15) (b := M2) (by omega)
     have e5 := nq (a := N0 + 25) (b := M3) (by omega)
     have e6 := nq (a := N0 + 25) (b := M3 + 1) (by omega)
     have e7 := nq (a := N0 + 24) (b := M3) (by omega)
     have e8 := nq (a := N0 + 32) (b := o3) (by omega)
     have e9 := nq (a := N0 + 32) (b := o6) (by omega)
     have e10 := nq (a := N0 + 32) (b := o7) (by omega)
     have e11 := nq (a := N0 + 32) (b := M2 + 10) (by omega)
     have e12 := nq (a := N0 + 22) (b := M2) (by omega)
     have e13 := nq (a := N0 + 32) (b := M3) (by omega)
     have e14 := nq (a := N0 + 32) (b := M3 + 1) (by omega)
     have e15 := nq (a := N0 + 31) (b := M3) (by omega)
     have e16 := nq (a := o3) (b := o6) (by omega)
     have e17 := nq (a := o3) (b := o7) (by omega)
     have e18 := nq (a := o3) (b := M2 + 10) (by omega)
     have e19 := nq (a := o3) (b := M3) (by omega)
     have e20 := nq (a := o3) (b := M3 + 1) (by omega)
     have e21 := nq (a := o6) (b := o7) (by omega)
     have e22 := nq (a := o6) (b := M2 + 10) (by omega)
     have e23 := nq (a := o6) (b := M3) (by omega)
     have e24 := nq (a := o6) (b := M3 + 1) (by omega)
     have e25 := nq (a := o7) (b := M2 + 10) (by omega)
     have e26 := nq (a := o7) (b := M3) (by omega)
     have e27 := nq (a := o7) (b := M3 + 1) (by omega)
     have e28 := nq (a := M2 + 10) (b := M3) (by omega)
     have e29 := nq (a := M2 + 10) (b := M3 + 1) (by omega)
     have e30 := nq (a := M2 + 9) (b := M3) (by omega)
     simp -dsimp -implicitDefEqProofs (maxDischargeDepth := 6) [e0, e1, e2, e3, e4, e5, e6, e7, e8, e9, e10, e11, e12, e13, e14, e15, e16, e17, e18, e19, e20, e21, e22, e23, e24, e25, e26, e27, e28, e29, e30]
     exact hK _ _ ⟨rfl, rfl⟩
    rintro a σ ⟨rfl, rfl⟩
    replace H := Option.some.inj H; subst H
    refine AWP_kp [4] [(4, .bool false)] rfl ?_
    have z0 := nq (a := N0 + 25) (b := o3) (by omega)
    have z1 := nq (a := N0 + 25) (b := o6) (by omega)
    have z2 := nq (a := N0 + 25) (b := o7) (by omega)
    have z3 := nq (a := N0 + 25) (b := M2 + 10) (by omega)
    have z4 := nq (a := N0 + 15) (b := M2) (by omega)
    have z5 := nq (a := N0 + 25) (b := M3) (by omega)
    have z6 := nq (a := N0 + 25) (b := M3 + 1) (by omega)
    have z7 := nq (a := N0 + 24) (b := M3) (by omega)
    have z8 := nq (a := N0 + 32) (b := o3) (by omega)
    have z9 := nq (a := N0 + 32) (b := o6) (by omega)
    have z10 := nq (a := N0 + 32) (b := o7) (by omega)
    have z11 := nq (a := N0 + 32) (b := M2 + 10) (by omega)
    have z12 := nq (a := N0 + 22) (b := M2) (by omega)
    have z13 := nq (a := N0 + 32) (b := M3) (by omega)
    have z14 := nq (a := N0 + 32) (b := M3 + 1) (by omega)
    have z15 := nq (a := N0 + 31) (b := M3) (by omega)
    have z16 := nq (a := o3) (b := o6) (by omega)
    have z17 := nq (a := o3) (b := o7) (by omega)
    have z18 := nq (a := o3) (b := M2 + 10) (by omega)
    have z19 := nq (a := o3) (b := M3) (by omega)
    have z20 := nq (a := o3) (b := M3 + 1) (by omega)
    have z21 := nq (a := o6) (b := o7) (by omega)
    have z22 := nq (a := o6) (b := M2 + 10) (by omega)
    have z23 := nq (a := o6) (b := M3) (by omega)
    have z24 := nq (a := o6) (b := M3 + 1) (by omega)
    have z25 := nq (a := o7) (b := M2 + 10) (by omega)
    have z26 := nq (a := o7) (b := M3) (by omega)
    have z27 := nq (a := o7) (b := M3 + 1) (by omega)
    have z28 := nq (a := M2 + 10) (b := M3) (by omega)
    have z29 := nq (a := M2 + 10) (b := M3 + 1) (by omega)
    have z30 := nq (a := M2 + 9) (b := M3) (by omega)
    refine AWP_ret ?_
    exact ⟨[.bool false], by simp [z0, z1, z2, z3, z4, z5, z6, z7, z8, z9, z10, z11, z12, z13, z14, z15, z16, z17, z18, z19, z20, z21, z22, z23, z24, z25, z26, z27, z28, z29, z30], 4, by simp [encL_nil, z0, z1, z2, z3, z4, z5, z6, z7, z8, z9, z10, z11, z12, z13, z14, z15, z16, z17, z18, z19, z20, z21, z22, z23, z24, z25, z26, z27, z28, z29, z30]⟩
   ·
    replace H := ifF C3 H
    refine AWP_skip ?_
    show K3 _ _
    refine keepE (l := [1, 2, 6, 7, 8, 9, 10, 11, 12, 13, 14, 15]) (x := [(1, .fsl (encL rBox p1)), (2, .fptr [.fsl (encL rI p0.Regs), .int .i64 p0.Pc, .fsl (encL rI p0.Mem)] 0), (6, .ptr (N0 + 25) 0 0), (7, .fsl (encL rBox r5.2.1)), (8, .fsl (encL rI r5.2.2.1)), (9, .int .i64 r5.2.2.2), (10, .ptr (N0 + 32) 0 0), (11, .sl o3 0 r7.length), (12, .ptr (M2 + 10) 0 0), (13, .sl o6 0 r8.2.1.length), (14, .sl o7 0 r8.2.2.1.length), (15, .int .i64 r8.2.2.2)]) rfl fun a' ha => ?_
    refine hK3 _ _ ?_; rw [ha]
    refine Rc.mk ?_
    refine AWP_sq [1, 2, 6, 7, 8, 9, 10, 11, 12, 13, 14, 15] fun K4 hK4 => ?_
    refine gPk AWP_ref (k := r8.1.Regs.length) (o := (M2 + 10)) (ob := ⟨28, 3, [[.sl M3 0 r8.1.Regs.length, .int .i64 r8.1.Pc, .sl (M3 + 1) 0 r8.1.Mem.length]]⟩) (row := [.sl M3 0 r8.1.Regs.length, .int .i64 r8.1.Pc, .sl (M3 + 1) 0 r8.1.Mem.length]) (d := M3) (obd := ⟨3, 1, encL rI r8.1.Regs⟩) (r := 0) (i := 0) [(N0 + 25, some ⟨28, 3, [[.fsl (encL rI r5.1.Regs), .int .i64 r5.1.Pc, .fsl (encL rI r5.1.Mem)]]⟩), (N0 + 32, some ⟨28, 3, [[.osl 3 1 (encL rI r6.Regs), .int .i64 r6.Pc, .osl 3 1 (encL rI r6.Mem)]]⟩), (o3, some ⟨64, 2, encL rBox_o r7⟩), (o6, some ⟨64, 2, encL rBox_o r8.2.1⟩), (o7, some ⟨3, 1, encL rI r8.2.2.1⟩), (M2 + 10, some ⟨28, 3, [[.osl 3 1 (encL rI r8.1.Regs), .int .i64 r8.1.Pc, .sl (M3 + 1) 0 r8.1.Mem.length]]⟩), (M3 + 1, some ⟨3, 1, encL rI r8.1.Mem⟩)] (by simp (disch := omega)) rfl rfl (by simp (disch := omega)) (by simp (disch := omega)) (by first | omega | simp) (by simp (disch := omega) [List.set_set, app_set] <;> omega) (by simp (disch := omega) [List.set_set, app_set]) ?_
    refine gPk AWP_ref (k := r8.1.Mem.length) (o := (M2 + 10)) (ob := ⟨28, 3, [[.osl 3 1 (encL rI r8.1.Regs), .int .i64 r8.1.Pc, .sl (M3 + 1) 0 r8.1.Mem.length]]⟩) (row := [.osl 3 1 (encL rI r8.1.Regs), .int .i64 r8.1.Pc, .sl (M3 + 1) 0 r8.1.Mem.length]) (d := (M3 + 1)) (obd := ⟨3, 1, encL rI r8.1.Mem⟩) (r := 0) (i := 2) [(N0 + 25, some ⟨28, 3, [[.fsl (encL rI r5.1.Regs), .int .i64 r5.1.Pc, .fsl (encL rI r5.1.Mem)]]⟩), (N0 + 32, some ⟨28, 3, [[.osl 3 1 (encL rI r6.Regs), .int .i64 r6.Pc, .osl 3 1 (encL rI r6.Mem)]]⟩), (o3, some ⟨64, 2, encL rBox_o r7⟩), (o6, some ⟨64, 2, encL rBox_o r8.2.1⟩), (o7, some ⟨3, 1, encL rI r8.2.2.1⟩), (M2 + 10, some ⟨28, 3, [[.osl 3 1 (encL rI r8.1.Regs), .int .i64 r8.1.Pc, .osl 3 1 (encL rI r8.1.Mem)]]⟩)] (by simp (disch := omega)) rfl rfl (by simp (disch := omega)) (by simp (disch := omega)) (by first | omega | simp) (by simp (disch := omega) [List.set_set, app_set] <;> omega) (by simp (disch := omega) [List.set_set, app_set]) ?_
    refine gUnp AWP_ref (ty := 3) (sz := 1) (es := encL rI r6.Regs) (o := (N0 + 32)) (ob := ⟨28, 3, [[.osl 3 1 (encL rI r6.Regs), .int .i64 r6.Pc, .osl 3 1 (encL rI r6.Mem)]]⟩) (row := [.osl 3 1 (encL rI r6.Regs), .int .i64 r6.Pc, .osl 3 1 (encL rI r6.Mem)]) (r := 0) (i := 0) [(N0 + 25, some ⟨28, 3, [[.fsl (encL rI r5.1.Regs), .int .i64 r5.1.Pc, .fsl (encL rI r5.1.Mem)]]⟩), (N0 + 32, some ⟨28, 3, [[.sl (M3 + 23) 0 r6.Regs.length, .int .i64 r6.Pc, .osl 3 1 (encL rI r6.Mem)]]⟩), (o3, some ⟨64, 2, encL rBox_o r7⟩), (o6, some ⟨64, 2, encL rBox_o r8.2.1⟩), (o7, some ⟨3, 1, encL rI r8.2.2.1⟩), (M2 + 10, some ⟨28, 3, [[.osl 3 1 (encL rI r8.1.Regs), .int .i64 r8.1.Pc, .osl 3 1 (encL rI r8.1.Mem)]]⟩), (M3 + 23, some ⟨3, 1, encL rI r6.Regs⟩)] (by simp (disch := omega)) rfl rfl (by simp (disch := omega) [List.set_set]) ?_
    refine gUnp AWP_ref (ty := 3) (sz := 1) (es := encL rI r6.Mem) (o := (N0 + 32)) (ob := ⟨28, 3, [[.sl (M3 + 23) 0 r6.Regs.length, .int .i64 r6.Pc, .osl 3 1 (encL rI r6.Mem)]]⟩) (row := [.sl (M3 + 23) 0 r6.Regs.length, .int .i64 r6.Pc, .osl 3 1 (encL rI r6.Mem)]) (r := 0) (i := 2) [(N0 + 25, some ⟨28, 3, [[.fsl (encL rI r5.1.Regs), .int .i64 r5.1.Pc, .fsl (encL rI r5.1.Mem)]]⟩), (N0 + 32, some ⟨28, 3, [[.sl (M3 + 23) 0 r6.Regs.length, .int .i64 r6.Pc, .sl (M3 + 24) 0 r6.Mem.length]]⟩), (o3, some ⟨64, 2, encL rBox_o r7⟩), (o6, some ⟨64, 2, encL rBox_o r8.2.1⟩), (o7, some ⟨3, 1, encL rI r8.2.2.1⟩), (M2 + 10, some ⟨28, 3, [[.osl 3 1 (encL rI r8.1.Regs), .int .i64 r8.1.Pc, .osl 3 1 (encL rI r8.1.Mem)]]⟩), (M3 + 23, some ⟨3, 1, encL rI r6.Regs⟩), (M3 + 24, some ⟨3, 1, encL rI r6.Mem⟩)] (by simp (disch := omega)) rfl rfl (by simp (disch := omega) [List.set_set]) ?_
    obtain ⟨r15, hr15, H⟩ := bindE H
    refine AWP_sd tok tokM [] [0, 3] [1, 2, 0, 3, 4] [1, 2, 6, 7, 8, 9, 10, 11, 12, 13, 14, 15, 80] (fun a σ => a = [(1, .fsl (encL rBox p1)), (2, .fptr [.fsl (encL rI p0.Regs), .int .i64 p0.Pc, .fsl (encL rI p0.Mem)] 0), (6, .ptr (N0 + 25) 0 0), (7, .fsl (encL rBox r5.2.1)), (8, .fsl (encL rI r5.2.2.1)), (9, .int .i64 r5.2.2.2), (10, .ptr (N0 + 32) 0 0), (11, .sl o3 0 r7.length), (12, .ptr (M2 + 10) 0 0), (13, .sl o6 0 r8.2.1.length), (14, .sl o7 0 r8.2.2.1.length), (15, .int .i64 r8.2.2.2), (80, .bool (bnot r15))] ∧ σ = hp E0 [(N0 + 25, some ⟨28, 3, [[.fsl (encL rI r5.1.Regs), .int .i64 r5.1.Pc, .fsl (encL rI r5.1.Mem)]]⟩), (N0 + 32, some ⟨28, 3, [[.sl (M3 + 23) 0 r6.Regs.length, .int .i64 r6.Pc, .sl (M3 + 24) 0 r6.Mem.length]]⟩), (o3, some ⟨64, 2, encL rBox_o r7⟩), (o6, some ⟨64, 2, encL rBox_o r8.2.1⟩), (o7, some ⟨3, 1, encL rI r8.2.2.1⟩), (M2 + 10, some ⟨28, 3, [[.osl 3 1 (encL rI r8.1.Regs), .int .i64 r8.1.Pc, .osl 3 1 (encL rI r8.1.Mem)]]⟩), (M3 + 23, some ⟨3, 1, encL rI r6.Regs⟩), (M3 + 24, some ⟨3, 1, encL rI r6.Mem⟩)] (M3 + 30)) (by decide) (fun K hK => ?_) ?_
    ·
     simp only [pickL, nthO_succ, nthO_zero]
     have e0 := nq (a := N0 + 25) (b := o3) (by omega)
     have e1 := nq (a := N0 + 25) (b := o6) (by omega)
     have e2 := nq (a := N0 + 25) (b := o7) (by omega)
     have e3 := nq (a := N0 + 25) (b := M2 + 10) (by omega)
     have e4 := nq (a := N0 + 15) (b := M2) (by omega)
     have e5 := nq (a := N0 + 25) (b := M3 + 23) (by omega)
     have e6 := nq (a := N0 + 2) (b := M3) (by omega)
     have e7 := nq (a := N0 + 25) (b := M3 + 24) (by omega)
     have e8 := nq (a := N0 + 1) (b := M3) (by omega)
     have e9 := nq (a := N0 + 32) (b := o3) (by omega)
     have e10 := nq (a := N0 + 32) (b := o6) (by omega)
     have e11 := nq (a := N0 + 32) (b := o7) (by omega)
     have e12 := nq (a := N0 + 32) (b := M2 + 10) (by omega)
     have e13 := nq (a := N0 + 22) (b := M2) (by omega)
     have e14 := nq (a := N0 + 32) (b := M3 + 23) (by omega)
     have e15 := nq (a := N0 + 9) (b := M3) (by omega)
     have e16 := nq (a := N0 + 32) (b := M3 + 24) (by omega)
     have e17 := nq (a := N0 + 8) (b := M3) (by omega)
     have e18 := nq (a := o3) (b := o6) (by omega)
     have e19 := nq (a := o3) (b := o7) (by omega)
     have e20 := nq (a := o3) (b := M2 + 10) (by omega)
     have e21 := nq (a := o3) (b := M3 + 23) (by omega)
     have e22 := nq (a := o3) (b := M3 + 24) (by omega)
     have e23 := nq (a := o6) (b := o7) (by omega)
     have e24 := nq (a := o6) (b := M2 + 10) (by omega)
     have e25 := nq (a := o6) (b := M3 + 23) (by omega)
     have e26 := nq (a := o6) (b := M3 + 24) (by omega)
     have e27 := nq (a := o7) (b := M2 + 10) (by omega)
     have e28 := nq (a := o7) (b := M3 + 23) (by omega)
     have e29 := nq (a := o7) (b := M3 + 24) (by omega)
     have e30 := nq (a := M2 + 10) (b := M3 + 23) (by omega)
     have e31 := nq (a := M2) (b := M3 + 13) (by omega)
     have e32 := nq (a := M2 + 10) (b := M3 + 24) (by omega)
     have e33 := nq (a := M2) (b := M3 + 14) (by omega)
     simp -dsimp -implicitDefEqProofs (maxDischargeDepth := 6) [e0, e1, e2, e3, e4, e5, e6, e7, e8, e9, e10, e11, e12, e13, e14, e15, e16, e17, e18, e19, e20, e21, e22, e23, e24, e25, e26, e27, e28, e29, e30, e31, e32, e33]
     refine Pc.mk (c11 hr3) ?_; try simp -dsimp -implicitDefEqProofs (maxDischargeDepth := 6) [e0, e1, e2, e3, e4, e5, e6, e7, e8, e9, e10, e11, e12, e13, e14, e15, e16, e17, e18, e19, e20, e21, e22, e23, e24, e25, e26, e27, e28, e29, e30, e31, e32, e33]
     refine (borrow 8 (c14 hr15) (by simp [e0, e1, e2, e3, e4, e5, e6, e7, e8, e9, e10, e11, e12, e13, e14, e15, e16, e17, e18, e19, e20, e21, e22, e23, e24, e25, e26, e27, e28, e29, e30, e31, e32, e33]) rfl).mono ?_; rintro _ _ ⟨rfl, rfl⟩; try simp -dsimp -implicitDefEqProofs (maxDischargeDepth := 6) [e0, e1, e2, e3, e4, e5, e6, e7, e8, e9, e10, e11, e12, e13, e14, e15, e16, e17, e18, e19, e20, e21, e22, e23, e24, e25, e26, e27, e28, e29, e30, e31, e32, e33]
     exact hK _ _ ⟨rfl, rfl⟩
    rintro a σ ⟨rfl, rfl⟩
    refine AWP_cond (bnot r15) rfl (fun C4 => ?_) (fun C4 => ?_)
    ·
     replace H := ifT C4 H
     refine AWP_sr tok [] [4] (fun a σ => a = [(4, .bool false)] ∧ σ = hp E0 [(N0 + 25, some ⟨28, 3, [[.fsl (encL rI r5.1.Regs), .int .i64 r5.1.Pc, .fsl (encL rI r5.1.Mem)]]⟩), (N0 + 32, some ⟨28, 3, [[.sl (M3 + 23) 0 r6.Regs.length, .int .i64 r6.Pc, .sl (M3 + 24) 0 r6.Mem.length]]⟩), (o3, some ⟨64, 2, encL rBox_o r7⟩), (o6, some ⟨64, 2, encL rBox_o r8.2.1⟩), (o7, some ⟨3, 1, encL rI r8.2.2.1⟩), (M2 + 10, some ⟨28, 3, [[.osl 3 1 (encL rI r8.1.Regs), .int .i64 r8.1.Pc, .osl 3 1 (encL rI r8.1.Mem)]]⟩), (M3 + 23, some ⟨3, 1, encL rI r6.Regs⟩), (M3 + 24, some ⟨3, 1, encL rI r6.Mem⟩)] (M3 + 31)) (fun K hK => ?_) ?_
     ·
      skip
      have e0 := nq (a := N0 + 25) (b := o3) (by omega)
      have e1 := nq (a := N0 + 25) (b := o6) (by omega)
      have e2 := nq (a := N0 + 25) (b := o7) (by omega)
      have e3 := nq (a := N0 + 25) (b := M2 + 10) (by omega)
      have e4 := nq (a := N0 + 15) (b := M2) (by omega)
      have e5 := nq (a := N0 + 25) (b := M3 + 23) (by omega)
      have e6 := nq (a := N0 + 2) (b := M3) (by omega)
      have e7 := nq (a := N0 + 25) (b := M3 + 24) (by omega)
      have e8 := nq (a := N0 + 1) (b := M3) (by omega)
      have e9 := nq (a := N0 + 32) (b := o3) (by omega)
      have e10 := nq (a := N0 + 32) (b := o6) (by omega)
      have e11 := nq (a := N0 + 32) (b := o7) (by omega)
      have e12 := nq (a := N0 + 32) (b := M2 + 10) (by omega)
      have e13 := nq (a := N0 + 22) (b := M2) (by omega)
      have e14 := nq (a := N0 + 32) (b := M3 + 23) (by omega)
      have e15 := nq (a := N0 + 9) (b := M3) (by omega)
      have e16 := nq (a := N0 + 32) (b := M3 + 24) (by omega)
      have e17 := nq (a := N0 + 8) (b := M3) (by omega)
      have e18 := nq (a := o3) (b := o6) (by omega)
      have e19 := nq (a := o3) (b := o7) (by omega)
      have e20 := nq (a := o3) (b := M2 + 10) (by omega)
      have e21 := nq (a := o3) (b := M3 + 23) (by omega)
      have e22 := nq (a := o3) (b := M3 + 24) (by omega)
      have e23 := nq (a := o6) (b := o7) (by omega)
      have e24 := nq (a := o6) (b := M2 + 10) (by omega)
      have e25 := nq (a := o6) (b := M3 + 23) (by omega)
      have e26 := nq (a := o6) (b := M3 + 24) (by omega)
      have e27 := nq (a := o7) (b := M2 + 10) (by omega)
      have e28 := nq (a := o7) (b := M3 + 23) (by omega)
      have e29 := nq (a := o7) (b := M3 + 24) (by omega)
      have e30 := nq (a := M2 + 10) (b := M3 + 23) (by omega)
      have e31 := nq (a := M2) (b := M3 + 13) (by omega)
      have e32 := nq (a := M2 + 10) (b := M3 + 24) (by omega)
      have e33 := nq (a := M2) (b := M3 + 14) (by omega)
      simp -dsimp -implicitDefEqProofs (maxDischargeDepth := 6) [e0, e1, e2, e3, e4, e5, e6, e7, e8, e9, e10, e11, e12, e13, e14, e15, e16, e17, e18, e19, e20, e21, e22, e23, e24, e25, e26, e27, e28, e29, e30, e31, e32, e33]
      exact hK _ _ ⟨rfl, rfl⟩
     rintro a σ ⟨rfl, rfl⟩
     replace H := Option.some.inj H; subst H
     refine AWP_kp [4] [(4, .bool false)] rfl ?_
     have z31 := nq (a := N0 + 25) (b := o3) (by omega)
     have z32 := nq (a := N0 + 25) (b := o6) (by omega)
     have z33 := nq (a := N0 + 25) (b := o7) (by omega)
     have z34 := nq (a := N0 + 25) (b := M2 + 10) (by omega)
     have z35 := nq (a := N0 + 15) (b := M2) (by omega)
     have z36 := nq (a := N0 + 25) (b := M3 + 23) (by omega)
     have z37 := nq (a := N0 + 2) (b := M3) (by omega)
     have z38 := nq (a := N0 + 25) (b := M3 + 24) (by omega)
     have z39 := nq (a := N0 + 1) (b := M3) (by omega)
     have z40 := nq (a := N0 + 32) (b := o3) (by omega)
     have z41 := nq (a := N0 + 32) (b := o6) (by omega)
     have z42 := nq (a := N0 + 32) (b := o7) (by omega)
     have z43 := nq (a := N0 + 32) (b := M2 + 10) (by omega)
     have z44 := nq (a := N0 + 22) (b := M2) (by omega)
     have z45 := nq (a := N0 + 32) (b := M3 + 23) (by omega)
     have z46 := nq (a := N0 + 9) (b := M3) (by omega)
     have z47 := nq (a := N0 + 32) (b := M3 + 24) (by omega)
     have z48 := nq (a := N0 + 8) (b := M3) (by omega)
     have z49 := nq (a := o3) (b := o6) (by omega)
     have z50 := nq (a := o3) (b := o7) (by omega)
     have z51 := nq (a := o3) (b := M2 + 10) (by omega)
     have z52 := nq (a := o3) (b := M3 + 23) (by omega)
     have z53 := nq (a := o3) (b := M3 + 24) (by omega)
     have z54 := nq (a := o6) (b := o7) (by omega)
     have z55 := nq (a := o6) (b := M2 + 10) (by omega)
     have z56 := nq (a := o6) (b := M3 + 23) (by omega)
     have z57 := nq (a := o6) (b := M3 + 24) (by omega)
     have z58 := nq (a := o7) (b := M2 + 10) (by omega)
     have z59 := nq (a := o7) (b := M3 + 23) (by omega)
     have z60 := nq (a := o7) (b := M3 + 24) (by omega)
     have z61 := nq (a := M2 + 10) (b := M3 + 23) (by omega)
     have z62 := nq (a := M2) (b := M3 + 13) (by omega)
     have z63 := nq (a := M2 + 10) (b := M3 + 24) (by omega)
     have z64 := nq (a := M2) (b := M3 + 14) (by omega)
     refine AWP_ret ?_
     exact ⟨[.bool false], by simp [z31, z32, z33, z34, z35, z36, z37, z38, z39, z40, z41, z42, z43, z44, z45, z46, z47, z48, z49, z50, z51, z52, z53, z54, z55, z56, z57, z58, z59, z60, z61, z62, z63, z64], 4, by simp [encL_nil, z31, z32, z33, z34, z35, z36, z37, z38, z39, z40, z41, z42, z43, z44, z45, z46, z47, z48, z49, z50, z51, z52, z53, z54, z55, z56, z57, z58, z59, z60, z61, z62, z63, z64]⟩
    ·
     replace H := ifF C4 H
     refine AWP_skip ?_
     show K4 _ _
     refine keepE (l := [1, 2, 6, 7, 8, 9, 10, 11, 12, 13, 14, 15]) (x := [(1, .fsl (encL rBox p1)), (2, .fptr [.fsl (encL rI p0.Regs), .int .i64 p0.Pc, .fsl (encL rI p0.Mem)] 0), (6, .ptr (N0 + 25) 0 0), (7, .fsl (encL rBox r5.2.1)), (8, .fsl (encL rI r5.2.2.1)), (9, .int .i64 r5.2.2.2), (10, .ptr (N0 + 32) 0 0), (11, .sl o3 0 r7.length), (12, .ptr (M2 + 10) 0 0), (13, .sl o6 0 r8.2.1.length), (14, .sl o7 0 r8.2.2.1.length), (15, .int .i64 r8.2.2.2)]) rfl fun a' ha => ?_
     refine hK4 _ _ ?_; rw [ha]
     refine Rc.mk ?_
     refine AWP_sq [1, 2, 6, 7, 8, 9, 10, 11, 12, 13, 14, 15] fun K5 hK5 => ?_
     refine gPk AWP_ref (k := r6.Regs.length) (o := (N0 + 32)) (ob := ⟨28, 3, [[.sl (M3 + 23) 0 r6.Regs.length, .int .i64 r6.Pc, .sl (M3 + 24) 0 r6.Mem.length]]⟩) (row := [.sl (M3 + 23) 0 r6.Regs.length, .int .i64 r6.Pc, .sl (M3 + 24) 0 r6.Mem.length]) (d := (M3 + 23)) (obd := ⟨3, 1, encL rI r6.Regs⟩) (r := 0) (i := 0) [(N0 + 25, some ⟨28, 3, [[.fsl (encL rI r5.1.Regs), .int .i64 r5.1.Pc, .fsl (encL rI r5.1.Mem)]]⟩), (N0 + 32, some ⟨28, 3, [[.osl 3 1 (encL rI r6.Regs), .int .i64 r6.Pc, .sl (M3 + 24) 0 r6.Mem.length]]⟩), (o3, some ⟨64, 2, encL rBox_o r7⟩), (o6, some ⟨64, 2, encL rBox_o r8.2.1⟩), (o7, some ⟨3, 1, encL rI r8.2.2.1⟩), (M2 + 10, some ⟨28, 3, [[.osl 3 1 (encL rI r8.1.Regs), .int .i64 r8.1.Pc, .osl 3 1 (encL rI r8.1.Mem)]]⟩), (M3 + 24, some ⟨3, 1, encL rI r6.Mem⟩)] (by simp (disch := omega)) rfl rfl (by simp (disch := omega)) (by simp (disch := omega)) (by first | omega | simp) (by simp (disch := omega) [List.set_set, app_set] <;> omega) (by simp (disch := omega) [List.set_set, app_set]) ?_
     refine gPk AWP_ref (k := r6.Mem.length) (o := (N0 + 32)) (ob := ⟨28, 3, [[.osl 3 1 (encL rI r6.Regs), .int .i64 r6.Pc, .sl (M3 + 24) 0 r6.Mem.length]]⟩) (row := [.osl 3 1 (encL rI r6.Regs), .int .i64 r6.Pc, .sl (M3 + 24) 0 r6.Mem.length]) (d := (M3 + 24)) (obd := ⟨3, 1, encL rI r6.Mem⟩) (r := 0) (i := 2) [(N0 + 25, some ⟨28, 3, [[.fsl (encL rI r5.1.Regs), .int .i64 r5.1.Pc, .fsl (encL rI r5.1.Mem)]]⟩), (N0 + 32, some ⟨28, 3, [[.osl 3 1 (encL rI r6.Regs), .int .i64 r6.Pc, .osl 3 1 (encL rI r6.Mem)]]⟩), (o3, some ⟨64, 2, encL rBox_o r7⟩), (o6, some ⟨64, 2, encL rBox_o r8.2.1⟩), (o7, some ⟨3, 1, encL rI r8.2.2.1⟩), (M2 + 10, some ⟨28, 3, [[.osl 3 1 (encL rI r8.1.Regs), .int .i64 r8.1.Pc, .osl 3 1 (encL rI r8.1.Mem)]]⟩)] (by simp (disch := omega)) rfl rfl (by simp (disch := omega)) (by simp (disch := omega)) (by first | omega | simp) (by simp (disch := omega) [List.set_set, app_set] <;> omega) (by simp (disch := omega) [List.set_set, app_set]) ?_
     obtain ⟨r16, hr16, H⟩ := bindE H
     refine AWP_sr tok [] [1, 2, 6, 7, 8, 9, 10, 11, 12, 13, 14, 15, 85] (fun a σ => a = [(1, .fsl (encL rBox p1)), (2, .fptr [.fsl (encL rI p0.Regs), .int .i64 p0.Pc, .fsl (encL rI p0.Mem)] 0), (6, .ptr (N0 + 25) 0 0), (7, .fsl (encL rBox r5.2.1)), (8, .fsl (encL rI r5.2.2.1)), (9, .int .i64 r5.2.2.2), (10, .ptr (N0 + 32) 0 0), (11, .sl o3 0 r7.length), (12, .ptr (M2 + 10) 0 0), (13, .sl o6 0 r8.2.1.length), (14, .sl o7 0 r8.2.2.1.length), (15, .int .i64 r8.2.2.2), (85, .bool (bnot r16))] ∧ σ = hp E0 [(N0 + 25, some ⟨28, 3, [[.fsl (encL rI r5.1.Regs), .int .i64 r5.1.Pc, .fsl (encL rI r5.1.Mem)]]⟩), (N0 + 32, some ⟨28, 3, [[.osl 3 1 (encL rI r6.Regs), .int .i64 r6.Pc, .osl 3 1 (encL rI r6.Mem)]]⟩), (o3, some ⟨64, 2, encL rBox_o r7⟩), (o6, some ⟨64, 2, encL rBox_o r8.2.1⟩), (o7, some ⟨3, 1, encL rI r8.2.2.1⟩), (M2 + 10, some ⟨28, 3, [[.osl 3 1 (encL rI r8.1.Regs), .int .i64 r8.1.Pc, .osl 3 1 (encL rI r8.1.Mem)]]⟩)] (M3 + 35)) (fun K hK => ?_) ?_
     ·
      skip
      have e0 := nq (a := N0 + 25) (b := o3) (by omega)
      have e1 := nq (a := N0 + 25) (b := o6) (by omega)
      have e2 := nq (a := N0 + 25) (b := o7) (by omega)
      have e3 := nq (a := N0 + 25) (b := M2 + 10) (by omega)
      have e4 := nq (a := N0 + 15) (b := M2) (by omega)
      have e5 := nq (a := N0 + 32) (b := o3) (by omega)
      have e6 := nq (a := N0 + 32) (b := o6) (by omega)
      have e7 := nq (a := N0 + 32) (b := o7) (by omega)
      have e8 := nq (a := N0 + 32) (b := M2 + 10) (by omega)
      have e9 := nq (a := N0 + 22) (b := M2) (by omega)
      have e10 := nq (a := o3) (b := o6) (by omega)
      have e11 := nq (a := o3) (b := o7) (by omega)
      have e12 := nq (a := o3) (b := M2 + 10) (by omega)
      have e13 := nq (a := o6) (b := o7) (by omega)
      have e14 := nq (a := o6) (b := M2 + 10) (by omega)
      have e15 := nq (a := o7) (b := M2 + 10) (by omega)
      simp -dsimp -implicitDefEqProofs (maxDischargeDepth := 6) [e0, e1, e2, e3, e4, e5, e6, e7, e8, e9, e10, e11, e12, e13, e14, e15]
      refine (c12 hr4).app ?_; try simp -dsimp -implicitDefEqProofs (maxDischargeDepth := 6) [e0, e1, e2, e3, e4, e5, e6, e7, e8, e9, e10, e11, e12, e13, e14, e15]
      refine (borrow 8 (c15 hr16) (by simp [e0, e1, e2, e3, e4, e5, e6, e7, e8, e9, e10, e11, e12, e13, e14, e15]) rfl).mono ?_; rintro _ _ ⟨rfl, rfl⟩; try simp -dsimp -implicitDefEqProofs (maxDischargeDepth := 6) [e0, e1, e2, e3, e4, e5, e6, e7, e8, e9, e10, e11, e12, e13, e14, e15]
      exact hK _ _ ⟨rfl, rfl⟩
     rintro a σ ⟨rfl, rfl⟩
     refine AWP_cond (bnot r16) rfl (fun C5 => ?_) (fun C5 => ?_)
     ·
      replace H := ifT C5 H
      refine AWP_sr tok [] [4] (fun a σ => a = [(4, .bool false)] ∧ σ = hp E0 [(N0 + 25, some ⟨28, 3, [[.fsl (encL rI r5.1.Regs), .int .i64 r5.1.Pc, .fsl (encL rI r5.1.Mem)]]⟩), (N0 + 32, some ⟨28, 3, [[.osl 3 1 (encL rI r6.Regs), .int .i64 r6.Pc, .osl 3 1 (encL rI r6.Mem)]]⟩), (o3, some ⟨64, 2, encL rBox_o r7⟩), (o6, some ⟨64, 2, encL rBox_o r8.2.1⟩), (o7, some ⟨3, 1, encL rI r8.2.2.1⟩), (M2 + 10, some ⟨28, 3, [[.osl 3 1 (encL rI r8.1.Regs), .int .i64 r8.1.Pc, .osl 3 1 (encL rI r8.1.Mem)]]⟩)] (M3 + 36)) (fun K hK => ?_) ?_
      ·
       skip
       have e0 := nq (a := N0 + 25) (b := o3) (by omega)
       have e1 := nq (a := N0 + 25) (b := o6) (by omega)
       have e2 := nq (a := N0 + 25) (b := o7) (by omega)
       have e3 := nq (a := N0 + 25) (b := M2 + 10) (by omega)
       have e4 := nq (a := N0 + 15) (b := M2) (by omega)
       have e5 := nq (a := N0 + 32) (b := o3) (by omega)
       have e6 := nq (a := N0 + 32) (b := o6) (by omega)
       have e7 := nq (a := N0 + 32) (b := o7) (by omega)
       have e8 := nq (a := N0 + 32) (b := M2 + 10) (by omega)
       have e9 := nq (a := N0 + 22) (b := M2) (by omega)
       have e10 := nq (a := o3) (b := o6) (by omega)
       have e11 := nq (a := o3) (b := o7) (by omega)
       have e12 := nq (a := o3) (b := M2 + 10) (by omega)
       have e13 := nq (a := o6) (b := o7) (by omega)
       have e14 := nq (a := o6) (b := M2 + 10) (by omega)
       have e15 := nq (a := o7) (b := M2 + 10) (by omega)
       simp -dsimp -implicitDefEqProofs (maxDischargeDepth := 6) [e0, e1, e2, e3, e4, e5, e6, e7, e8, e9, e10, e11, e12, e13, e14, e15]
       exact hK _ _ ⟨rfl, rfl⟩
      rintro a σ ⟨rfl, rfl⟩
      replace H := Option.some.inj H; subst H
      refine AWP_kp [4] [(4, .bool false)] rfl ?_
      have z65 := nq (a := N0 + 25) (b := o3) (by omega)
      have z66 := nq (a := N0 + 25) (b := o6) (by omega)
      have z67 := nq (a := N0 + 25) (b := o7) (by omega)
      have z68 := nq (a := N0 + 25) (b := M2 + 10) (by omega)
      have z69 := nq (a := N0 + 15) (b := M2) (by omega)
      have z70 := nq (a := N0 + 32) (b := o3) (by omega)
      have z71 := nq (a := N0 + 32) (b := o6) (by omega)
      have z72 := nq (a := N0 + 32) (b := o7) (by omega)
      have z73 := nq (a := N0 + 32) (b := M2 + 10) (by omega)
      have z74 := nq (a := N0 + 22) (b := M2) (by omega)
      have z75 := nq (a := o3) (b := o6) (by omega)
      have z76 := nq (a := o3) (b := o7) (by omega)
      have z77 := nq (a := o3) (b := M2 + 10) (by omega)
      have z78 := nq (a := o6) (b := o7) (by omega)
      have z79 := nq (a := o6) (b := M2 + 10) (by omega)
      have z80 := nq (a := o7) (b := M2 + 10) (by omega)
      refine AWP_ret ?_
      exact ⟨[.bool false], by simp [z65, z66, z67, z68, z69, z70, z71, z72, z73, z74, z75, z76, z77, z78, z79, z80], 4, by simp [encL_nil, z65, z66, z67, z68, z69, z70, z71, z72, z73, z74, z75, z76, z77, z78, z79, z80]⟩
     ·
      replace H := ifF C5 H
      refine AWP_skip ?_
      show K5 _ _
      refine keepE (l := [1, 2, 6, 7, 8, 9, 10, 11, 12, 13, 14, 15]) (x := [(1, .fsl (encL rBox p1)), (2, .fptr [.fsl (encL rI p0.Regs), .int .i64 p0.Pc, .fsl (encL rI p0.Mem)] 0), (6, .ptr (N0 + 25) 0 0), (7, .fsl (encL rBox r5.2.1)), (8, .fsl (encL rI r5.2.2.1)), (9, .int .i64 r5.2.2.2), (10, .ptr (N0 + 32) 0 0), (11, .sl o3 0 r7.length), (12, .ptr (M2 + 10) 0 0), (13, .sl o6 0 r8.2.1.length), (14, .sl o7 0 r8.2.2.1.length), (15, .int .i64 r8.2.2.2)]) rfl fun a' ha => ?_
      refine hK5 _ _ ?_; rw [ha]
      refine Rc.mk ?_
      refine AWP_sr tok [] [1, 2, 6, 7, 8, 9, 10, 11, 12, 13, 14, 15, 16] (fun a σ => a = [(1, .fsl (encL rBox p1)), (2, .fptr [.fsl (encL rI p0.Regs), .int .i64 p0.Pc, .fsl (encL rI p0.Mem)] 0), (6, .ptr (N0 + 25) 0 0), (7, .fsl (encL rBox r5.2.1)), (8, .fsl (encL rI r5.2.2.1)), (9, .int .i64 r5.2.2.2), (10, .ptr (N0 + 32) 0 0), (11, .sl o3 0 r7.length), (12, .ptr (M2 + 10) 0 0), (13, .sl o6 0 r8.2.1.length), (14, .sl o7 0 r8.2.2.1.length), (15, .int .i64 r8.2.2.2), (16, .int .i64 1)] ∧ σ = hp E0 [(N0 + 25, some ⟨28, 3, [[.fsl (encL rI r5.1.Regs), .int .i64 r5.1.Pc, .fsl (encL rI r5.1.Mem)]]⟩), (N0 + 32, some ⟨28, 3, [[.osl 3 1 (encL rI r6.Regs), .int .i64 r6.Pc, .osl 3 1 (encL rI r6.Mem)]]⟩), (o3, some ⟨64, 2, encL rBox_o r7⟩), (o6, some ⟨64, 2, encL rBox_o r8.2.1⟩), (o7, some ⟨3, 1, encL rI r8.2.2.1⟩), (M2 + 10, some ⟨28, 3, [[.osl 3 1 (encL rI r8.1.Regs), .int .i64 r8.1.Pc, .osl 3 1 (encL rI r8.1.Mem)]]⟩)] (M3 + 36)) (fun K hK => ?_) ?_
      ·
       skip
       have e0 := nq (a := N0 + 25) (b := o3) (by omega)
       have e1 := nq (a := N0 + 25) (b := o6) (by omega)
       have e2 := nq (a := N0 + 25) (b := o7) (by omega)
       have e3 := nq (a := N0 + 25) (b := M2 + 10) (by omega)
       have e4 := nq (a := N0 + 15) (b := M2) (by omega)
       have e5 := nq (a := N0 + 32) (b := o3) (by omega)
       have e6 := nq (a := N0 + 32) (b := o6) (by omega)
       have e7 := nq (a := N0 + 32) (b := o7) (by omega)
       have e8 := nq (a := N0 + 32) (b := M2 + 10) (by omega)
       have e9 := nq (a := N0 + 22) (b := M2) (by omega)
       have e10 := nq (a := o3) (b := o6) (by omega)
       have e11 := nq (a := o3) (b := o7) (by omega)
       have e12 := nq (a := o3) (b := M2 + 10) (by omega)
       have e13 := nq (a := o6) (b := o7) (by omega)
       have e14 := nq (a := o6) (b := M2 + 10) (by omega)
       have e15 := nq (a := o7) (b := M2 + 10) (by omega)
       simp -dsimp -implicitDefEqProofs (maxDischargeDepth := 6) [e0, e1, e2, e3, e4, e5, e6, e7, e8, e9, e10, e11, e12, e13, e14, e15]
       exact hK _ _ ⟨rfl, rfl⟩
      rintro a σ ⟨rfl, rfl⟩
      refine gUnp AWP_ref (ty := 3) (sz := 1) (es := encL rI r6.Regs) (o := (N0 + 32)) (ob := ⟨28, 3, [[.osl 3 1 (encL rI r6.Regs), .int .i64 r6.Pc, .osl 3 1 (encL rI r6.Mem)]]⟩) (row := [.osl 3 1 (encL rI r6.Regs), .int .i64 r6.Pc, .osl 3 1 (encL rI r6.Mem)]) (r := 0) (i := 0) [(N0 + 25, some ⟨28, 3, [[.fsl (encL rI r5.1.Regs), .int .i64 r5.1.Pc, .fsl (encL rI r5.1.Mem)]]⟩), (N0 + 32, some ⟨28, 3, [[.sl (M3 + 36) 0 r6.Regs.length, .int .i64 r6.Pc, .osl 3 1 (encL rI r6.Mem)]]⟩), (o3, some ⟨64, 2, encL rBox_o r7⟩), (o6, some ⟨64, 2, encL rBox_o r8.2.1⟩), (o7, some ⟨3, 1, encL rI r8.2.2.1⟩), (M2 + 10, some ⟨28, 3, [[.osl 3 1 (encL rI r8.1.Regs), .int .i64 r8.1.Pc, .osl 3 1 (encL rI r8.1.Mem)]]⟩), (M3 + 36, some ⟨3, 1, encL rI r6.Regs⟩)] (by simp (disch := omega)) rfl rfl (by simp (disch := omega) [List.set_set]) ?_
      refine gUnp AWP_ref (ty := 3) (sz := 1) (es := encL rI r6.Mem) (o := (N0 + 32)) (ob := ⟨28, 3, [[.sl (M3 + 36) 0 r6.Regs.length, .int .i64 r6.Pc, .osl 3 1 (encL rI r6.Mem)]]⟩) (row := [.sl (M3 + 36) 0 r6.Regs.length, .int .i64 r6.Pc, .osl 3 1 (encL rI r6.Mem)]) (r := 0) (i := 2) [(N0 + 25, some ⟨28, 3, [[.fsl (encL rI r5.1.Regs), .int .i64 r5.1.Pc, .fsl (encL rI r5.1.Mem)]]⟩), (N0 + 32, some ⟨28, 3, [[.sl (M3 + 36) 0 r6.Regs.length, .int .i64 r6.Pc, .sl (M3 + 37) 0 r6.Mem.length]]⟩), (o3, some ⟨64, 2, encL rBox_o r7⟩), (o6, some ⟨64, 2, encL rBox_o r8.2.1⟩), (o7, some ⟨3, 1, encL rI r8.2.2.1⟩), (M2 + 10, some ⟨28, 3, [[.osl 3 1 (encL rI r8.1.Regs), .int .i64 r8.1.Pc, .osl 3 1 (encL rI r8.1.Mem)]]⟩), (M3 + 36, some ⟨3, 1, encL rI r6.Regs⟩), (M3 + 37, some ⟨3, 1, encL rI r6.Mem⟩)] (by simp (disch := omega)) rfl rfl (by simp (disch := omega) [List.set_set]) ?_
      obtain ⟨r17, hr17, H⟩ := bindE H
      refine AWP_sr tok [] [1, 2, 6, 7, 8, 9, 11, 12, 13, 14, 15, 16] (fun a σ => ∃ M4 : Nat, M3 + 42 ≤ M4 ∧ r17.2.Regs.length = r6.Regs.length ∧ r17.2.Mem.length = r6.Mem.length ∧ a = [(1, .fsl (encL rBox p1)), (2, .fptr [.fsl (encL rI p0.Regs), .int .i64 p0.Pc, .fsl (encL rI p0.Mem)] 0), (6, .ptr (N0 + 25) 0 0), (7, .fsl (encL rBox r5.2.1)), (8, .fsl (encL rI r5.2.2.1)), (9, .int .i64 r5.2.2.2), (11, .sl o3 0 r7.length), (12, .ptr (M2 + 10) 0 0), (13, .sl o6 0 r8.2.1.length), (14, .sl o7 0 r8.2.2.1.length), (15, .int .i64 r8.2.2.2), (16, .int .i64 r17.1)] ∧ σ = hp E0 [(N0 + 25, some ⟨28, 3, [[.fsl (encL rI r5.1.Regs), .int .i64 r5.1.Pc, .fsl (encL rI r5.1.Mem)]]⟩), (N0 + 32, some ⟨28, 3, [[.sl (M3 + 36) 0 r6.Regs.length, .int .i64 r6.Pc, .sl (M3 + 37) 0 r6.Mem.length]]⟩), (o3, some ⟨64, 2, encL rBox_o r7⟩), (o6, some ⟨64, 2, encL rBox_o r8.2.1⟩), (o7, some ⟨3, 1, encL rI r8.2.2.1⟩), (M2 + 10, some ⟨28, 3, [[.osl 3 1 (encL rI r8.1.Regs), .int .i64 r8.1.Pc, .osl 3 1 (encL rI r8.1.Mem)]]⟩), (M3 + 36, some ⟨3, 1, encL rI r17.2.Regs⟩), (M3 + 37, some ⟨3, 1, encL rI r17.2.Mem⟩)] M4) (fun K hK => ?_) ?_
      ·
       skip
       have e0 := nq (a := N0 + 25) (b := o3) (by omega)
       have e1 := nq (a := N0 + 25) (b := o6) (by omega)
       have e2 := nq (a := N0 + 25) (b := o7) (by omega)
       have e3 := nq (a := N0 + 25) (b := M2 + 10) (by omega)
       have e4 := nq (a := N0 + 15) (b := M2) (by omega)
       have e5 := nq (a := N0 + 25) (b := M3 + 36) (by omega)
       have e6 := nq (a := N0) (b := M3 + 11) (by omega)
       have e7 := nq (a := N0 + 25) (b := M3 + 37) (by omega)
       have e8 := nq (a := N0) (b := M3 + 12) (by omega)
       have e9 := nq (a := N0 + 32) (b := o3) (by omega)
       have e10 := nq (a := N0 + 32) (b := o6) (by omega)
       have e11 := nq (a := N0 + 32) (b := o7) (by omega)
       have e12 := nq (a := N0 + 32) (b := M2 + 10) (by omega)
       have e13 := nq (a := N0 + 22) (b := M2) (by omega)
       have e14 := nq (a := N0 + 32) (b := M3 + 36) (by omega)
       have e15 := nq (a := N0) (b := M3 + 4) (by omega)
       have e16 := nq (a := N0 + 32) (b := M3 + 37) (by omega)
       have e17 := nq (a := N0) (b := M3 + 5) (by omega)
       have e18 := nq (a := o3) (b := o6) (by omega)
       have e19 := nq (a := o3) (b := o7) (by omega)
       have e20 := nq (a := o3) (b := M2 + 10) (by omega)
       have e21 := nq (a := o3) (b := M3 + 36) (by omega)
       have e22 := nq (a := o3) (b := M3 + 37) (by omega)
       have e23 := nq (a := o6) (b := o7) (by omega)
       have e24 := nq (a := o6) (b := M2 + 10) (by omega)
       have e25 := nq (a := o6) (b := M3 + 36) (by omega)
       have e26 := nq (a := o6) (b := M3 + 37) (by omega)
       have e27 := nq (a := o7) (b := M2 + 10) (by omega)
       have e28 := nq (a := o7) (b := M3 + 36) (by omega)
       have e29 := nq (a := o7) (b := M3 + 37) (by omega)
       have e30 := nq (a := M2 + 10) (b := M3 + 36) (by omega)
       have e31 := nq (a := M2) (b := M3 + 26) (by omega)
       have e32 := nq (a := M2 + 10) (b := M3 + 37) (by omega)
       have e33 := nq (a := M2) (b := M3 + 27) (by omega)
       simp -dsimp -implicitDefEqProofs (maxDischargeDepth := 6) [e0, e1, e2, e3, e4, e5, e6, e7, e8, e9, e10, e11, e12, e13, e14, e15, e16, e17, e18, e19, e20, e21, e22, e23, e24, e25, e26, e27, e28, e29, e30, e31, e32, e33]
       refine (c17 (H := hr17) (by simp [e0, e1, e2, e3, e4, e5, e6, e7, e8, e9, e10, e11, e12, e13, e14, e15, e16, e17, e18, e19, e20, e21, e22, e23, e24, e25, e26, e27, e28, e29, e30, e31, e32, e33]) (by simp [e0, e1, e2, e3, e4, e5, e6, e7, e8, e9, e10, e11, e12, e13, e14, e15, e16, e17, e18, e19, e20, e21, e22, e23, e24, e25, e26, e27, e28, e29, e30, e31, e32, e33]) (by simp [e0, e1, e2, e3, e4, e5, e6, e7, e8, e9, e10, e11, e12, e13, e14, e15, e16, e17, e18, e19, e20, e21, e22, e23, e24, e25, e26, e27, e28, e29, e30, e31, e32, e33])).mono ?_; rintro _ _ ⟨M4, fM4_0, fM4_1, fM4_2, rfl, rfl⟩; simp only [hp_next] at fM4_0
       try simp -dsimp -implicitDefEqProofs (maxDischargeDepth := 6) [e0, e1, e2, e3, e4, e5, e6, e7, e8, e9, e10, e11, e12, e13, e14, e15, e16, e17, e18, e19, e20, e21, e22, e23, e24, e25, e26, e27, e28, e29, e30, e31, e32, e33, hp_over_some, hp_over_none]
       exact hK _ _ ⟨M4, (by omega), fM4_1, fM4_2, rfl, rfl⟩
      rintro a σ ⟨M4, fM4_0, fM4_1, fM4_2, rfl, rfl⟩
      try rw [← fM4_1]
      try rw [← fM4_2]
      refine gDrop AWP_ref [(N0 + 25, some ⟨28, 3, [[.fsl (encL rI r5.1.Regs), .int .i64 r5.1.Pc, .fsl (encL rI r5.1.Mem)]]⟩), (o3, some ⟨64, 2, encL rBox_o r7⟩), (o6, some ⟨64, 2, encL rBox_o r8.2.1⟩), (o7, some ⟨3, 1, encL rI r8.2.2.1⟩), (M2 + 10, some ⟨28, 3, [[.osl 3 1 (encL rI r8.1.Regs), .int .i64 r8.1.Pc, .osl 3 1 (encL rI r8.1.Mem)]]⟩)] (hp_skip (AHeap.Sub.trans (hp_skip (hp_skip (hp_skip (hp_skip (AHeap.Sub.trans (AHeap.Sub.trans (AHeap.Sub.refl _) (hp_drop rfl (by simp; try omega))) (hp_drop rfl (by simp; try omega))))))) (hp_drop rfl (by simp; try omega)))) ?_
      obtain ⟨r18, hr18, H⟩ := bindE H
      refine AWP_sr tok [] [1, 2, 6, 7, 8, 9, 12, 13, 14, 15, 16] (fun a σ => ∃ M5 : Nat, M4 + 4 ≤ M5 ∧ r18.2.length = r7.length ∧ a = [(1, .fsl (encL rBox p1)), (2, .fptr [.fsl (encL rI p0.Regs), .int .i64 p0.Pc, .fsl (encL rI p0.Mem)] 0), (6, .ptr (N0 + 25) 0 0), (7, .fsl (encL rBox r5.2.1)), (8, .fsl (encL rI r5.2.2.1)), (9, .int .i64 r5.2.2.2), (12, .ptr (M2 + 10) 0 0), (13, .sl o6 0 r8.2.1.length), (14, .sl o7 0 r8.2.2.1.length), (15, .int .i64 r8.2.2.2), (16, .int .i64 r18.1)] ∧ σ = hp E0 [(N0 + 25, some ⟨28, 3, [[.fsl (encL rI r5.1.Regs), .int .i64 r5.1.Pc, .fsl (encL rI r5.1.Mem)]]⟩), (o3, some ⟨64, 2, encL rBox_o r18.2⟩), (o6, some ⟨64, 2, encL rBox_o r8.2.1⟩), (o7, some ⟨3, 1, encL rI r8.2.2.1⟩), (M2 + 10, some ⟨28, 3, [[.osl 3 1 (encL rI r8.1.Regs), .int .i64 r8.1.Pc, .osl 3 1 (encL rI r8.1.Mem)]]⟩)] M5) (fun K hK => ?_) ?_
      ·
       skip
       have e0 := nq (a := N0 + 25) (b := o3) (by omega)
       have e1 := nq (a := N0 + 25) (b := o6) (by omega)
       have e2 := nq (a := N0 + 25) (b := o7) (by omega)
       have e3 := nq (a := N0 + 25) (b := M2 + 10) (by omega)
       have e4 := nq (a := N0 + 15) (b := M2) (by omega)
       have e5 := nq (a := o3) (b := o6) (by omega)
       have e6 := nq (a := o3) (b := o7) (by omega)
       have e7 := nq (a := o3) (b := M2 + 10) (by omega)
       have e8 := nq (a := o6) (b := o7) (by omega)
       have e9 := nq (a := o6) (b := M2 + 10) (by omega)
       have e10 := nq (a := o7) (b := M2 + 10) (by omega)
       simp -dsimp -implicitDefEqProofs (maxDischargeDepth := 6) [e0, e1, e2, e3, e4, e5, e6, e7, e8, e9, e10]
       refine (c18 (H := hr18) (by simp [e0, e1, e2, e3, e4, e5, e6, e7, e8, e9, e10])).mono ?_; rintro _ _ ⟨M5, fM5_0, fM5_1, rfl, rfl⟩; simp only [hp_next] at fM5_0
       try simp -dsimp -implicitDefEqProofs (maxDischargeDepth := 6) [e0, e1, e2, e3, e4, e5, e6, e7, e8, e9, e10, hp_over_some, hp_over_none]
       exact hK _ _ ⟨M5, (by omega), fM5_1, rfl, rfl⟩
      rintro a σ ⟨M5, fM5_0, fM5_1, rfl, rfl⟩
      try rw [← fM5_1]
      refine AWP_sq [1, 2, 6, 7, 8, 9, 12, 13, 14] fun K6 hK6 => ?_
      refine gUnp AWP_ref (ty := 3) (sz := 1) (es := encL rI r8.1.Regs) (o := (M2 + 10)) (ob := ⟨28, 3, [[.osl 3 1 (encL rI r8.1.Regs), .int .i64 r8.1.Pc, .osl 3 1 (encL rI r8.1.Mem)]]⟩) (row := [.osl 3 1 (encL rI r8.1.Regs), .int .i64 r8.1.Pc, .osl 3 1 (encL rI r8.1.Mem)]) (r := 0) (i := 0) [(N0 + 25, some ⟨28, 3, [[.fsl (encL rI r5.1.Regs), .int .i64 r5.1.Pc, .fsl (encL rI r5.1.Mem)]]⟩), (o3, some ⟨64, 2, encL rBox_o r18.2⟩), (o6, some ⟨64, 2, encL rBox_o r8.2.1⟩), (o7, some ⟨3, 1, encL rI r8.2.2.1⟩), (M2 + 10, some ⟨28, 3, [[.sl M5 0 r8.1.Regs.length, .int .i64 r8.1.Pc, .osl 3 1 (encL rI r8.1.Mem)]]⟩), (M5, some ⟨3, 1, encL rI r8.1.Regs⟩)] (by simp (disch := omega)) rfl rfl (by simp (disch := omega) [List.set_set]) ?_
      refine gUnp AWP_ref (ty := 3) (sz := 1) (es := encL rI r8.1.Mem) (o := (M2 + 10)) (ob := ⟨28, 3, [[.sl M5 0 r8.1.Regs.length, .int .i64 r8.1.Pc, .osl 3 1 (encL rI r8.1.Mem)]]⟩) (row := [.sl M5 0 r8.1.Regs.length, .int .i64 r8.1.Pc, .osl 3 1 (encL rI r8.1.Mem)]) (r := 0) (i := 2) [(N0 + 25, some ⟨28, 3, [[.fsl (encL rI r5.1.Regs), .int .i64 r5.1.Pc, .fsl (encL rI r5.1.Mem)]]⟩), (o3, some ⟨64, 2, encL rBox_o r18.2⟩), (o6, some ⟨64, 2, encL rBox_o r8.2.1⟩), (o7, some ⟨3, 1, encL rI r8.2.2.1⟩), (M2 + 10, some ⟨28, 3, [[.sl M5 0 r8.1.Regs.length, .int .i64 r8.1.Pc, .sl (M5 + 1) 0 r8.1.Mem.length]]⟩), (M5, some ⟨3, 1, encL rI r8.1.Regs⟩), (M5 + 1, some ⟨3, 1, encL rI r8.1.Mem⟩)] (by simp (disch := omega)) rfl rfl (by simp (disch := omega) [List.set_set]) ?_
      obtain ⟨g19, hg19, H⟩ := bindE H
      obtain ⟨g21, hg21, H⟩ := bindE H
      obtain ⟨g23, hg23, H⟩ := bindE H
      obtain ⟨g24, hg24, H⟩ := bindE H
      refine AWP_sr tok [] [1, 2, 6, 7, 8, 9, 12, 13, 14, 116] (fun a σ => a = [(1, .fsl (encL rBox p1)), (2, .fptr [.fsl (encL rI p0.Regs), .int .i64 p0.Pc, .fsl (encL rI p0.Mem)] 0), (6, .ptr (N0 + 25) 0 0), (7, .fsl (encL rBox r5.2.1)), (8, .fsl (encL rI r5.2.2.1)), (9, .int .i64 r5.2.2.2), (12, .ptr (M2 + 10) 0 0), (13, .sl o6 0 r8.2.1.length), (14, .sl o7 0 r8.2.2.1.length), (116, .bool g24)] ∧ σ = hp E0 [(N0 + 25, some ⟨28, 3, [[.fsl (encL rI r5.1.Regs), .int .i64 r5.1.Pc, .fsl (encL rI r5.1.Mem)]]⟩), (o3, some ⟨64, 2, encL rBox_o r18.2⟩), (o6, some ⟨64, 2, encL rBox_o r8.2.1⟩), (o7, some ⟨3, 1, encL rI r8.2.2.1⟩), (M2 + 10, some ⟨28, 3, [[.sl M5 0 r8.1.Regs.length, .int .i64 r8.1.Pc, .sl (M5 + 1) 0 r8.1.Mem.length]]⟩), (M5, some ⟨3, 1, encL rI r8.1.Regs⟩), (M5 + 1, some ⟨3, 1, encL rI r8.1.Mem⟩)] (M5 + 27)) (fun K hK => ?_) ?_
      ·
       skip
       have e0 := nq (a := N0 + 25) (b := o3) (by omega)
       have e1 := nq (a := N0 + 25) (b := o6) (by omega)
       have e2 := nq (a := N0 + 25) (b := o7) (by omega)
       have e3 := nq (a := N0 + 25) (b := M2 + 10) (by omega)
       have e4 := nq (a := N0 + 15) (b := M2) (by omega)
       have e5 := nq (a := N0 + 25) (b := M5) (by omega)
       have e6 := nq (a := N0 + 25) (b := M5 + 1) (by omega)
       have e7 := nq (a := N0 + 24) (b := M5) (by omega)
       have e8 := nq (a := o3) (b := o6) (by omega)
       have e9 := nq (a := o3) (b := o7) (by omega)
       have e10 := nq (a := o3) (b := M2 + 10) (by omega)
       have e11 := nq (a := o3) (b := M5) (by omega)
       have e12 := nq (a := o3) (b := M5 + 1) (by omega)
       have e13 := nq (a := o6) (b := o7) (by omega)
       have e14 := nq (a := o6) (b := M2 + 10) (by omega)
       have e15 := nq (a := o6) (b := M5) (by omega)
       have e16 := nq (a := o6) (b := M5 + 1) (by omega)
       have e17 := nq (a := o7) (b := M2 + 10) (by omega)
       have e18 := nq (a := o7) (b := M5) (by omega)
       have e19 := nq (a := o7) (b := M5 + 1) (by omega)
       have e20 := nq (a := M2 + 10) (b := M5) (by omega)
       have e21 := nq (a := M2 + 10) (b := M5 + 1) (by omega)
       have e22 := nq (a := M2 + 9) (b := M5) (by omega)
       simp -dsimp -implicitDefEqProofs (maxDischargeDepth := 6) [e0, e1, e2, e3, e4, e5, e6, e7, e8, e9, e10, e11, e12, e13, e14, e15, e16, e17, e18, e19, e20, e21, e22]
       cases hbg19 : ilt r18.1 0
       ·
        replace hg19 := ifF hbg19 hg19
        replace hg19 := Option.some.inj hg19; subst hg19
        try simp -dsimp -implicitDefEqProofs (maxDischargeDepth := 6) [e0, e1, e2, e3, e4, e5, e6, e7, e8, e9, e10, e11, e12, e13, e14, e15, e16, e17, e18, e19, e20, e21, e22, hbg19]
        refine (borrow 8 (c14 hr9) (by simp [e0, e1, e2, e3, e4, e5, e6, e7, e8, e9, e10, e11, e12, e13, e14, e15, e16, e17, e18, e19, e20, e21, e22, hbg19]) rfl).mono ?_; rintro _ _ ⟨rfl, rfl⟩; try simp -dsimp -implicitDefEqProofs (maxDischargeDepth := 6) [e0, e1, e2, e3, e4, e5, e6, e7, e8, e9, e10, e11, e12, e13, e14, e15, e16, e17, e18, e19, e20, e21, e22, hbg19]
        cases hbg21 : (bnot r9)
        ·
         replace hg21 := ifF hbg21 hg21
         obtain ⟨r20, hr20, hg21⟩ := bindE hg21
         replace hg21 := Option.some.inj hg21; subst hg21
         try simp -dsimp -implicitDefEqProofs (maxDischargeDepth := 6) [e0, e1, e2, e3, e4, e5, e6, e7, e8, e9, e10, e11, e12, e13, e14, e15, e16, e17, e18, e19, e20, e21, e22, hbg19, hbg21]
         refine (borrow 8 (c15 hr20) (by simp [e0, e1, e2, e3, e4, e5, e6, e7, e8, e9, e10, e11, e12, e13, e14, e15, e16, e17, e18, e19, e20, e21, e22, hbg19, hbg21]) rfl).mono ?_; rintro _ _ ⟨rfl, rfl⟩; try simp -dsimp -implicitDefEqProofs (maxDischargeDepth := 6) [e0, e1, e2, e3, e4, e5, e6, e7, e8, e9, e10, e11, e12, e13, e14, e15, e16, e17, e18, e19, e20, e21, e22, hbg19, hbg21]
         cases hbg23 : (bnot r20)
         ·
          replace hg23 := ifF hbg23 hg23
          obtain ⟨r22, hr22, hg23⟩ := bindE hg23
          replace hg23 := Option.some.inj hg23; subst hg23
          try simp -dsimp -implicitDefEqProofs (maxDischargeDepth := 6) [e0, e1, e2, e3, e4, e5, e6, e7, e8, e9, e10, e11, e12, e13, e14, e15, e16, e17, e18, e19, e20, e21, e22, hbg19, hbg21, hbg23]
          refine (borrow 8 (c16 hr22) (by simp [e0, e1, e2, e3, e4, e5, e6, e7, e8, e9, e10, e11, e12, e13, e14, e15, e16, e17, e18, e19, e20, e21, e22, hbg19, hbg21, hbg23]) rfl).mono ?_; rintro _ _ ⟨rfl, rfl⟩; try simp -dsimp -implicitDefEqProofs (maxDischargeDepth := 6) [e0, e1, e2, e3, e4, e5, e6, e7, e8, e9, e10, e11, e12, e13, e14, e15, e16, e17, e18, e19, e20, e21, e22, hbg19, hbg21, hbg23]
          cases hbg24 : (bnot r22)
          ·
           replace hg24 := ifF hbg24 hg24
           replace hg24 := Option.some.inj hg24; subst hg24
           try simp -dsimp -implicitDefEqProofs (maxDischargeDepth := 6) [e0, e1, e2, e3, e4, e5, e6, e7, e8, e9, e10, e11, e12, e13, e14, e15, e16, e17, e18, e19, e20, e21, e22, hbg19, hbg21, hbg23, hbg24]
           exact hK _ _ ⟨rfl, rfl⟩
          ·
           replace hg24 := ifT hbg24 hg24
           replace hg24 := Option.some.inj hg24; subst hg24
           try simp -dsimp -implicitDefEqProofs (maxDischargeDepth := 6) [e0, e1, e2, e3, e4, e5, e6, e7, e8, e9, e10, e11, e12, e13, e14, e15, e16, e17, e18, e19, e20, e21, e22, hbg19, hbg21, hbg23, hbg24]
           exact hK _ _ ⟨rfl, rfl⟩
         ·
          replace hg23 := ifT hbg23 hg23
          replace hg23 := Option.some.inj hg23; subst hg23
          try simp -dsimp -implicitDefEqProofs (maxDischargeDepth := 6) [e0, e1, e2, e3, e4, e5, e6, e7, e8, e9, e10, e11, e12, e13, e14, e15, e16, e17, e18, e19, e20, e21, e22, hbg19, hbg21, hbg23]
          replace hg24 := ifT rfl hg24
          replace hg24 := Option.some.inj hg24; subst hg24
          try simp -dsimp -implicitDefEqProofs (maxDischargeDepth := 6) [e0, e1, e2, e3, e4, e5, e6, e7, e8, e9, e10, e11, e12, e13, e14, e15, e16, e17, e18, e19, e20, e21, e22, hbg19, hbg21, hbg23]
          exact hK _ _ ⟨rfl, rfl⟩
        ·
         replace hg21 := ifT hbg21 hg21
         replace hg21 := Option.some.inj hg21; subst hg21
         try simp -dsimp -implicitDefEqProofs (maxDischargeDepth := 6) [e0, e1, e2, e3, e4, e5, e6, e7, e8, e9, e10, e11, e12, e13, e14, e15, e16, e17, e18, e19, e20, e21, e22, hbg19, hbg21]
         replace hg23 := ifT rfl hg23
         replace hg23 := Option.some.inj hg23; subst hg23
         try simp -dsimp -implicitDefEqProofs (maxDischargeDepth := 6) [e0, e1, e2, e3, e4, e5, e6, e7, e8, e9, e10, e11, e12, e13, e14, e15, e16, e17, e18, e19, e20, e21, e22, hbg19, hbg21]
         replace hg24 := ifT rfl hg24
         replace hg24 := Option.some.inj hg24; subst hg24
         try simp -dsimp -implicitDefEqProofs (maxDischargeDepth := 6) [e0, e1, e2, e3, e4, e5, e6, e7, e8, e9, e10, e11, e12, e13, e14, e15, e16, e17, e18, e19, e20, e21, e22, hbg19, hbg21]
         exact hK _ _ ⟨rfl, rfl⟩
       ·
        replace hg19 := ifT hbg19 hg19
        replace hg19 := Option.some.inj hg19; subst hg19
        try simp -dsimp -implicitDefEqProofs (maxDischargeDepth := 6) [e0, e1, e2, e3, e4, e5, e6, e7, e8, e9, e10, e11, e12, e13, e14, e15, e16, e17, e18, e19, e20, e21, e22, hbg19]
        replace hg21 := ifT rfl hg21
        replace hg21 := Option.some.inj hg21; subst hg21
        try simp -dsimp -implicitDefEqProofs (maxDischargeDepth := 6) [e0, e1, e2, e3, e4, e5, e6, e7, e8, e9, e10, e11, e12, e13, e14, e15, e16, e17, e18, e19, e20, e21, e22, hbg19]
        replace hg23 := ifT rfl hg23
        replace hg23 := Option.some.inj hg23; subst hg23
        try simp -dsimp -implicitDefEqProofs (maxDischargeDepth := 6) [e0, e1, e2, e3, e4, e5, e6, e7, e8, e9, e10, e11, e12, e13, e14, e15, e16, e17, e18, e19, e20, e21, e22, hbg19]
        replace hg24 := ifT rfl hg24
        replace hg24 := Option.some.inj hg24; subst hg24
        try simp -dsimp -implicitDefEqProofs (maxDischargeDepth := 6) [e0, e1, e2, e3, e4, e5, e6, e7, e8, e9, e10, e11, e12, e13, e14, e15, e16, e17, e18, e19, e20, e21, e22, hbg19]
        exact hK _ _ ⟨rfl, rfl⟩
      rintro a σ ⟨rfl, rfl⟩
      refine AWP_cond g24 rfl (fun C6 => ?_) (fun C6 => ?_)
      ·
       replace H := ifT C6 H
       refine AWP_sr tok [] [4] (fun a σ => a = [(4, .bool false)] ∧ σ = hp E0 [(N0 + 25, some ⟨28, 3, [[.fsl (encL rI r5.1.Regs), .int .i64 r5.1.Pc, .fsl (encL rI r5.1.Mem)]]⟩), (o3, some ⟨64, 2, encL rBox_o r18.2⟩), (o6, some ⟨64, 2, encL rBox_o r8.2.1⟩), (o7, some ⟨3, 1, encL rI r8.2.2.1⟩), (M2 + 10, some ⟨28, 3, [[.sl M5 0 r8.1.Regs.length, .int .i64 r8.1.Pc, .sl (M5 + 1) 0 r8.1.Mem.length]]⟩), (M5, some ⟨3, 1, encL rI r8.1.Regs⟩), (M5 + 1, some ⟨3, 1, encL rI r8.1.Mem⟩)] (M5 + 28)) (fun K hK => ?_) ?_
       ·
        skip
        have e0 := nq (a := N0 + 25) (b := o3) (by omega)
        have e1 := nq (a := N0 + 25) (b := o6) (by omega)
        have e2 := nq (a := N0 + 25) (b := o7) (by omega)
        have e3 := nq (a := N0 + 25) (b := M2 + 10) (by omega)
        have e4 := nq (a := N0 + 15) (b := M2) (by omega)
        have e5 := nq (a := N0 + 25) (b := M5) (by omega)
        have e6 := nq (a := N0 + 25) (b := M5 + 1) (by omega)
        have e7 := nq (a := N0 + 24) (b := M5) (by omega)
        have e8 := nq (a := o3) (b := o6) (by omega)
        have e9 := nq (a := o3) (b := o7) (by omega)
        have e10 := nq (a := o3) (b := M2 + 10) (by omega)
        have e11 := nq (a := o3) (b := M5) (by omega)
        have e12 := nq (a := o3) (b := M5 + 1) (by omega)
        have e13 := nq (a := o6) (b := o7) (by omega)
        have e14 := nq (a := o6) (b := M2 + 10) (by omega)
        have e15 := nq (a := o6) (b := M5) (by omega)
        have e16 := nq (a := o6) (b := M5 + 1) (by omega)
        have e17 := nq (a := o7) (b := M2 + 10) (by omega)
        have e18 := nq (a := o7) (b := M5) (by omega)
        have e19 := nq (a := o7) (b := M5 + 1) (by omega)
        have e20 := nq (a := M2 + 10) (b := M5) (by omega)
        have e21 := nq (a := M2 + 10) (b := M5 + 1) (by omega)
        have e22 := nq (a := M2 + 9) (b := M5) (by omega)
        simp -dsimp -implicitDefEqProofs (maxDischargeDepth := 6) [e0, e1, e2, e3, e4, e5, e6, e7, e8, e9, e10, e11, e12, e13, e14, e15, e16, e17, e18, e19, e20, e21, e22]
        exact hK _ _ ⟨rfl, rfl⟩
       rintro a σ ⟨rfl, rfl⟩
       replace H := Option.some.inj H; subst H
       refine AWP_kp [4] [(4, .bool false)] rfl ?_
       have z81 := nq (a := N0 + 25) (b := o3) (by omega)
       have z82 := nq (a := N0 + 25) (b := o6) (by omega)
       have z83 := nq (a := N0 + 25) (b := o7) (by omega)
       have z84 := nq (a := N0 + 25) (b := M2 + 10) (by omega)
       have z85 := nq (a := N0 + 15) (b := M2) (by omega)
       have z86 := nq (a := N0 + 25) (b := M5) (by omega)
       have z87 := nq (a := N0 + 25) (b := M5 + 1) (by omega)
       have z88 := nq (a := N0 + 24) (b := M5) (by omega)
       have z89 := nq (a := o3) (b := o6) (by omega)
       have z90 := nq (a := o3) (b := o7) (by omega)
       have z91 := nq (a := o3) (b := M2 + 10) (by omega)
       have z92 := nq (a := o3) (b := M5) (by omega)
       have z93 := nq (a := o3) (b := M5 + 1) (by omega)
       have z94 := nq (a := o6) (b := o7) (by omega)
       have z95 := nq (a := o6) (b := M2 + 10) (by omega)
       have z96 := nq (a := o6) (b := M5) (by omega)
       have z97 := nq (a := o6) (b := M5 + 1) (by omega)
       have z98 := nq (a := o7) (b := M2 + 10) (by omega)
       have z99 := nq (a := o7) (b := M5) (by omega)
       have z100 := nq (a := o7) (b := M5 + 1) (by omega)
       have z101 := nq (a := M2 + 10) (b := M5) (by omega)
       have z102 := nq (a := M2 + 10) (b := M5 + 1) (by omega)
       have z103 := nq (a := M2 + 9) (b := M5) (by omega)
       refine AWP_ret ?_
       exact ⟨[.bool false], by simp [z81, z82, z83, z84, z85, z86, z87, z88, z89, z90, z91, z92, z93, z94, z95, z96, z97, z98, z99, z100, z101, z102, z103], 4, by simp [encL_nil, z81, z82, z83, z84, z85, z86, z87, z88, z89, z90, z91, z92, z93, z94, z95, z96, z97, z98, z99, z100, z101, z102, z103]⟩
      ·
       replace H := ifF C6 H
       refine AWP_skip ?_
       show K6 _ _
       refine keepE (l := [1, 2, 6, 7, 8, 9, 12, 13, 14]) (x := [(1, .fsl (encL rBox p1)), (2, .fptr [.fsl (encL rI p0.Regs), .int .i64 p0.Pc, .fsl (encL rI p0.Mem)] 0), (6, .ptr (N0 + 25) 0 0), (7, .fsl (encL rBox r5.2.1)), (8, .fsl (encL rI r5.2.2.1)), (9, .int .i64 r5.2.2.2), (12, .ptr (M2 + 10) 0 0), (13, .sl o6 0 r8.2.1.length), (14, .sl o7 0 r8.2.2.1.length)]) rfl fun a' ha => ?_
       refine hK6 _ _ ?_; rw [ha]
       refine Rc.mk ?_
       refine AWP_sr tok [] [1, 2, 6, 7, 8, 9, 12, 13, 14, 17] (fun a σ => a = [(1, .fsl (encL rBox p1)), (2, .fptr [.fsl (encL rI p0.Regs), .int .i64 p0.Pc, .fsl (encL rI p0.Mem)] 0), (6, .ptr (N0 + 25) 0 0), (7, .fsl (encL rBox r5.2.1)), (8, .fsl (encL rI r5.2.2.1)), (9, .int .i64 r5.2.2.2), (12, .ptr (M2 + 10) 0 0), (13, .sl o6 0 r8.2.1.length), (14, .sl o7 0 r8.2.2.1.length), (17, .int .i64 1)] ∧ σ = hp E0 [(N0 + 25, some ⟨28, 3, [[.fsl (encL rI r5.1.Regs), .int .i64 r5.1.Pc, .fsl (encL rI r5.1.Mem)]]⟩), (o3, some ⟨64, 2, encL rBox_o r18.2⟩), (o6, some ⟨64, 2, encL rBox_o r8.2.1⟩), (o7, some ⟨3, 1, encL rI r8.2.2.1⟩), (M2 + 10, some ⟨28, 3, [[.sl M5 0 r8.1.Regs.length, .int .i64 r8.1.Pc, .sl (M5 + 1) 0 r8.1.Mem.length]]⟩), (M5, some ⟨3, 1, encL rI r8.1.Regs⟩), (M5 + 1, some ⟨3, 1, encL rI r8.1.Mem⟩)] (M5 + 28)) (fun K hK => ?_) ?_
       ·
        skip
        have e0 := nq (a := N0 + 25) (b := o3) (by omega)
        have e1 := nq (a := N0 + 25) (b := o6) (by omega)
        have e2 := nq (a := N0 + 25) (b := o7) (by omega)
        have e3 := nq (a := N0 + 25) (b := M2 + 10) (by omega)
        have e4 := nq (a := N0 + 15) (b := M2) (by omega)
        have e5 := nq (a := N0 + 25) (b := M5) (by omega)
        have e6 := nq (a := N0 + 25) (b := M5 + 1) (by omega)
        have e7 := nq (a := N0 + 24) (b := M5) (by omega)
        have e8 := nq (a := o3) (b := o6) (by omega)
        have e9 := nq (a := o3) (b := o7) (by omega)
        have e10 := nq (a := o3) (b := M2 + 10) (by omega)
        have e11 := nq (a := o3) (b := M5) (by omega)
        have e12 := nq (a := o3) (b := M5 + 1) (by omega)
        have e13 := nq (a := o6) (b := o7) (by omega)
        have e14 := nq (a := o6) (b := M2 + 10) (by omega)
        have e15 := nq (a := o6) (b := M5) (by omega)
        have e16 := nq (a := o6) (b := M5 + 1) (by omega)
        have e17 := nq (a := o7) (b := M2 + 10) (by omega)
        have e18 := nq (a := o7) (b := M5) (by omega)
        have e19 := nq (a := o7) (b := M5 + 1) (by omega)
        have e20 := nq (a := M2 + 10) (b := M5) (by omega)
        have e21 := nq (a := M2 + 10) (b := M5 + 1) (by omega)
        have e22 := nq (a := M2 + 9) (b := M5) (by omega)
        simp -dsimp -implicitDefEqProofs (maxDischargeDepth := 6) [e0, e1, e2, e3, e4, e5, e6, e7, e8, e9, e10, e11, e12, e13, e14, e15, e16, e17, e18, e19, e20, e21, e22]
        exact hK _ _ ⟨rfl, rfl⟩
       rintro a σ ⟨rfl, rfl⟩
       refine gPk AWP_ref (k := r8.1.Regs.length) (o := (M2 + 10)) (ob := ⟨28, 3, [[.sl M5 0 r8.1.Regs.length, .int .i64 r8.1.Pc, .sl (M5 + 1) 0 r8.1.Mem.length]]⟩) (row := [.sl M5 0 r8.1.Regs.length, .int .i64 r8.1.Pc, .sl (M5 + 1) 0 r8.1.Mem.length]) (d := M5) (obd := ⟨3, 1, encL rI r8.1.Regs⟩) (r := 0) (i := 0) [(N0 + 25, some ⟨28, 3, [[.fsl (encL rI r5.1.Regs), .int .i64 r5.1.Pc, .fsl (encL rI r5.1.Mem)]]⟩), (o3, some ⟨64, 2, encL rBox_o r18.2⟩), (o6, some ⟨64, 2, encL rBox_o r8.2.1⟩), (o7, some ⟨3, 1, encL rI r8.2.2.1⟩), (M2 + 10, some ⟨28, 3, [[.osl 3 1 (encL rI r8.1.Regs), .int .i64 r8.1.Pc, .sl (M5 + 1) 0 r8.1.Mem.length]]⟩), (M5 + 1, some ⟨3, 1, encL rI r8.1.Mem⟩)] (by simp (disch := omega)) rfl rfl (by simp (disch := omega)) (by simp (disch := omega)) (by first | omega | simp) (by simp (disch := omega) [List.set_set, app_set] <;> omega) (by simp (disch := omega) [List.set_set, app_set]) ?_
       refine gPk AWP_ref (k := r8.1.Mem.length) (o := (M2 + 10)) (ob := ⟨28, 3, [[.osl 3 1 (encL rI r8.1.Regs), .int .i64 r8.1.Pc, .sl (M5 + 1) 0 r8.1.Mem.length]]⟩) (row := [.osl 3 1 (encL rI r8.1.Regs), .int .i64 r8.1.Pc, .sl (M5 + 1) 0 r8.1.Mem.length]) (d := (M5 + 1)) (obd := ⟨3, 1, encL rI r8.1.Mem⟩) (r := 0) (i := 2) [(N0 + 25, some ⟨28, 3, [[.fsl (encL rI r5.1.Regs), .int .i64 r5.1.Pc, .fsl (encL rI r5.1.Mem)]]⟩), (o3, some ⟨64, 2, encL rBox_o r18.2⟩), (o6, some ⟨64, 2, encL rBox_o r8.2.1⟩), (o7, some ⟨3, 1, encL rI r8.2.2.1⟩), (M2 + 10, some ⟨28, 3, [[.osl 3 1 (encL rI r8.1.Regs), .int .i64 r8.1.Pc, .osl 3 1 (encL rI r8.1.Mem)]]⟩)] (by simp (disch := omega)) rfl rfl (by simp (disch := omega)) (by simp (disch := omega)) (by first | omega | simp) (by simp (disch := omega) [List.set_set, app_set] <;> omega) (by simp (disch := omega) [List.set_set, app_set]) ?_
       refine gUnp AWP_ref (ty := 3) (sz := 1) (es := encL rI r8.1.Regs) (o := (M2 + 10)) (ob := ⟨28, 3, [[.osl 3 1 (encL rI r8.1.Regs), .int .i64 r8.1.Pc, .osl 3 1 (encL rI r8.1.Mem)]]⟩) (row := [.osl 3 1 (encL rI r8.1.Regs), .int .i64 r8.1.Pc, .osl 3 1 (encL rI r8.1.Mem)]) (r := 0) (i := 0) [(N0 + 25, some ⟨28, 3, [[.fsl (encL rI r5.1.Regs), .int .i64 r5.1.Pc, .fsl (encL rI r5.1.Mem)]]⟩), (o3, some ⟨64, 2, encL rBox_o r18.2⟩), (o6, some ⟨64, 2, encL rBox_o r8.2.1⟩), (o7, some ⟨3, 1, encL rI r8.2.2.1⟩), (M2 + 10, some ⟨28, 3, [[.sl (M5 + 28) 0 r8.1.Regs.length, .int .i64 r8.1.Pc, .osl 3 1 (encL rI r8.1.Mem)]]⟩), (M5 + 28, some ⟨3, 1, encL rI r8.1.Regs⟩)] (by simp (disch := omega)) rfl rfl (by simp (disch := omega) [List.set_set]) ?_
       refine gUnp AWP_ref (ty := 3) (sz := 1) (es := encL rI r8.1.Mem) (o := (M2 + 10)) (ob := ⟨28, 3, [[.sl (M5 + 28) 0 r8.1.Regs.length, .int .i64 r8.1.Pc, .osl 3 1 (encL rI r8.1.Mem)]]⟩) (row := [.sl (M5 + 28) 0 r8.1.Regs.length, .int .i64 r8.1.Pc, .osl 3 1 (encL rI r8.1.Mem)]) (r := 0) (i := 2) [(N0 + 25, some ⟨28, 3, [[.fsl (encL rI r5.1.Regs), .int .i64 r5.1.Pc, .fsl (encL rI r5.1.Mem)]]⟩), (o3, some ⟨64, 2, encL rBox_o r18.2⟩), (o6, some ⟨64, 2, encL rBox_o r8.2.1⟩), (o7, some ⟨3, 1, encL rI r8.2.2.1⟩), (M2 + 10, some ⟨28, 3, [[.sl (M5 + 28) 0 r8.1.Regs.length, .int .i64 r8.1.Pc, .sl (M5 + 29) 0 r8.1.Mem.length]]⟩), (M5 + 28, some ⟨3, 1, encL rI r8.1.Regs⟩), (M5 + 29, some ⟨3, 1, encL rI r8.1.Mem⟩)] (by simp (disch := omega)) rfl rfl (by simp (disch := omega) [List.set_set]) ?_
       obtain ⟨r25, hr25, H⟩ := bindE H
       refine AWP_sr tok [] [1, 2, 6, 7, 8, 9, 12, 13, 14, 17] (fun a σ => ∃ M6 : Nat, M5 + 34 ≤ M6 ∧ r25.2.Regs.length = r8.1.Regs.length ∧ r25.2.Mem.length = r8.1.Mem.length ∧ a = [(1, .fsl (encL rBox p1)), (2, .fptr [.fsl (encL rI p0.Regs), .int .i64 p0.Pc, .fsl (encL rI p0.Mem)] 0), (6, .ptr (N0 + 25) 0 0), (7, .fsl (encL rBox r5.2.1)), (8, .fsl (encL rI r5.2.2.1)), (9, .int .i64 r5.2.2.2), (12, .ptr (M2 + 10) 0 0), (13, .sl o6 0 r8.2.1.length), (14, .sl o7 0 r8.2.2.1.length), (17, .int .i64 r25.1)] ∧ σ = hp E0 [(N0 + 25, some ⟨28, 3, [[.fsl (encL rI r5.1.Regs), .int .i64 r5.1.Pc, .fsl (encL rI r5.1.Mem)]]⟩), (o3, some ⟨64, 2, encL rBox_o r18.2⟩), (o6, some ⟨64, 2, encL rBox_o r8.2.1⟩), (o7, some ⟨3, 1, encL rI r8.2.2.1⟩), (M2 + 10, some ⟨28, 3, [[.sl (M5 + 28) 0 r8.1.Regs.length, .int .i64 r8.1.Pc, .sl (M5 + 29) 0 r8.1.Mem.length]]⟩), (M5 + 28, some ⟨3, 1, encL rI r25.2.Regs⟩), (M5 + 29, some ⟨3, 1, encL rI r25.2.Mem⟩)] M6) (fun K hK => ?_) ?_
       ·
        skip
        have e0 := nq (a := N0 + 25) (b := o3) (by omega)
        have e1 := nq (a := N0 + 25) (b := o6) (by omega)
        have e2 := nq (a := N0 + 25) (b := o7) (by omega)
        have e3 := nq (a := N0 + 25) (b := M2 + 10) (by omega)
        have e4 := nq (a := N0 + 15) (b := M2) (by omega)
        have e5 := nq (a := N0 + 25) (b := M5 + 28) (by omega)
        have e6 := nq (a := N0) (b := M5 + 3) (by omega)
        have e7 := nq (a := N0 + 25) (b := M5 + 29) (by omega)
        have e8 := nq (a := N0) (b := M5 + 4) (by omega)
        have e9 := nq (a := o3) (b := o6) (by omega)
        have e10 := nq (a := o3) (b := o7) (by omega)
        have e11 := nq (a := o3) (b := M2 + 10) (by omega)
        have e12 := nq (a := o3) (b := M5 + 28) (by omega)
        have e13 := nq (a := o3) (b := M5 + 29) (by omega)
        have e14 := nq (a := o6) (b := o7) (by omega)
        have e15 := nq (a := o6) (b := M2 + 10) (by omega)
        have e16 := nq (a := o6) (b := M5 + 28) (by omega)
        have e17 := nq (a := o6) (b := M5 + 29) (by omega)
        have e18 := nq (a := o7) (b := M2 + 10) (by omega)
        have e19 := nq (a := o7) (b := M5 + 28) (by omega)
        have e20 := nq (a := o7) (b := M5 + 29) (by omega)
        have e21 := nq (a := M2 + 10) (b := M5 + 28) (by omega)
        have e22 := nq (a := M2) (b := M5 + 18) (by omega)
        have e23 := nq (a := M2 + 10) (b := M5 + 29) (by omega)
        have e24 := nq (a := M2) (b := M5 + 19) (by omega)
        simp -dsimp -implicitDefEqProofs (maxDischargeDepth := 6) [e0, e1, e2, e3, e4, e5, e6, e7, e8, e9, e10, e11, e12, e13, e14, e15, e16, e17, e18, e19, e20, e21, e22, e23, e24]
        refine (c17 (H := hr25) (by simp [e0, e1, e2, e3, e4, e5, e6, e7, e8, e9, e10, e11, e12, e13, e14, e15, e16, e17, e18, e19, e20, e21, e22, e23, e24]) (by simp [e0, e1, e2, e3, e4, e5, e6, e7, e8, e9, e10, e11, e12, e13, e14, e15, e16, e17, e18, e19, e20, e21, e22, e23, e24]) (by simp [e0, e1, e2, e3, e4, e5, e6, e7, e8, e9, e10, e11, e12, e13, e14, e15, e16, e17, e18, e19, e20, e21, e22, e23, e24])).mono ?_; rintro _ _ ⟨M6, fM6_0, fM6_1, fM6_2, rfl, rfl⟩; simp only [hp_next] at fM6_0
        try simp -dsimp -implicitDefEqProofs (maxDischargeDepth := 6) [e0, e1, e2, e3, e4, e5, e6, e7, e8, e9, e10, e11, e12, e13, e14, e15, e16, e17, e18, e19, e20, e21, e22, e23, e24, hp_over_some, hp_over_none]
        exact hK _ _ ⟨M6, (by omega), fM6_1, fM6_2, rfl, rfl⟩
       rintro a σ ⟨M6, fM6_0, fM6_1, fM6_2, rfl, rfl⟩
       try rw [← fM6_1]
       try rw [← fM6_2]
       refine gPk AWP_ref (k := r25.2.Regs.length) (o := (M2 + 10)) (ob := ⟨28, 3, [[.sl (M5 + 28) 0 r25.2.Regs.length, .int .i64 r8.1.Pc, .sl (M5 + 29) 0 r25.2.Mem.length]]⟩) (row := [.sl (M5 + 28) 0 r25.2.Regs.length, .int .i64 r8.1.Pc, .sl (M5 + 29) 0 r25.2.Mem.length]) (d := (M5 + 28)) (obd := ⟨3, 1, encL rI r25.2.Regs⟩) (r := 0) (i := 0) [(N0 + 25, some ⟨28, 3, [[.fsl (encL rI r5.1.Regs), .int .i64 r5.1.Pc, .fsl (encL rI r5.1.Mem)]]⟩), (o3, some ⟨64, 2, encL rBox_o r18.2⟩), (o6, some ⟨64, 2, encL rBox_o r8.2.1⟩), (o7, some ⟨3, 1, encL rI r8.2.2.1⟩), (M2 + 10, some ⟨28, 3, [[.osl 3 1 (encL rI r25.2.Regs), .int .i64 r8.1.Pc, .sl (M5 + 29) 0 r25.2.Mem.length]]⟩), (M5 + 29, some ⟨3, 1, encL rI r25.2.Mem⟩)] (by simp (disch := omega)) rfl rfl (by simp (disch := omega)) (by simp (disch := omega)) (by first | omega | simp) (by simp (disch := omega) [List.set_set, app_set] <;> omega) (by simp (disch := omega) [List.set_set, app_set]) ?_
       refine gPk AWP_ref (k := r25.2.Mem.length) (o := (M2 + 10)) (ob := ⟨28, 3, [[.osl 3 1 (encL rI r25.2.Regs), .int .i64 r8.1.Pc, .sl (M5 + 29) 0 r25.2.Mem.length]]⟩) (row := [.osl 3 1 (encL rI r25.2.Regs), .int .i64 r8.1.Pc, .sl (M5 + 29) 0 r25.2.Mem.length]) (d := (M5 + 29)) (obd := ⟨3, 1, encL rI r25.2.Mem⟩) (r := 0) (i := 2) [(N0 + 25, some ⟨28, 3, [[.fsl (encL rI r5.1.Regs), .int .i64 r5.1.Pc, .fsl (encL rI r5.1.Mem)]]⟩), (o3, some ⟨64, 2, encL rBox_o r18.2⟩), (o6, some ⟨64, 2, encL rBox_o r8.2.1⟩), (o7, some ⟨3, 1, encL rI r8.2.2.1⟩), (M2 + 10, some ⟨28, 3, [[.osl 3 1 (encL rI r25.2.Regs), .int .i64 r8.1.Pc, .osl 3 1 (encL rI r25.2.Mem)]]⟩)] (by simp (disch := omega)) rfl rfl (by simp (disch := omega)) (by simp (disch := omega)) (by first | omega | simp) (by simp (disch := omega) [List.set_set, app_set] <;> omega) (by simp (disch := omega) [List.set_set, app_set]) ?_
       obtain ⟨r26, hr26, H⟩ := bindE H
       refine AWP_sr tok [] [1, 2, 6, 7, 8, 9, 12, 13, 14, 17] (fun a σ => ∃ M7 : Nat, M6 + 4 ≤ M7 ∧ r26.2.length = r8.2.1.length ∧ a = [(1, .fsl (encL rBox p1)), (2, .fptr [.fsl (encL rI p0.Regs), .int .i64 p0.Pc, .fsl (encL rI p0.Mem)] 0), (6, .ptr (N0 + 25) 0 0), (7, .fsl (encL rBox r5.2.1)), (8, .fsl (encL rI r5.2.2.1)), (9, .int .i64 r5.2.2.2), (12, .ptr (M2 + 10) 0 0), (13, .sl o6 0 r8.2.1.length), (14, .sl o7 0 r8.2.2.1.length), (17, .int .i64 r26.1)] ∧ σ = hp E0 [(N0 + 25, some ⟨28, 3, [[.fsl (encL rI r5.1.Regs), .int .i64 r5.1.Pc, .fsl (encL rI r5.1.Mem)]]⟩), (o3, some ⟨64, 2, encL rBox_o r18.2⟩), (o6, some ⟨64, 2, encL rBox_o r26.2⟩), (o7, some ⟨3, 1, encL rI r8.2.2.1⟩), (M2 + 10, some ⟨28, 3, [[.osl 3 1 (encL rI r25.2.Regs), .int .i64 r8.1.Pc, .osl 3 1 (encL rI r25.2.Mem)]]⟩)] M7) (fun K hK => ?_) ?_
       ·
        skip
        have e0 := nq (a := N0 + 25) (b := o3) (by omega)
        have e1 := nq (a := N0 + 25) (b := o6) (by omega)
        have e2 := nq (a := N0 + 25) (b := o7) (by omega)
        have e3 := nq (a := N0 + 25) (b := M2 + 10) (by omega)
        have e4 := nq (a := N0 + 15) (b := M2) (by omega)
        have e5 := nq (a := o3) (b := o6) (by omega)
        have e6 := nq (a := o3) (b := o7) (by omega)
        have e7 := nq (a := o3) (b := M2 + 10) (by omega)
        have e8 := nq (a := o6) (b := o7) (by omega)
        have e9 := nq (a := o6) (b := M2 + 10) (by omega)
        have e10 := nq (a := o7) (b := M2 + 10) (by omega)
        simp -dsimp -implicitDefEqProofs (maxDischargeDepth := 6) [e0, e1, e2, e3, e4, e5, e6, e7, e8, e9, e10]
        refine (c18 (H := hr26) (by simp [e0, e1, e2, e3, e4, e5, e6, e7, e8, e9, e10])).mono ?_; rintro _ _ ⟨M7, fM7_0, fM7_1, rfl, rfl⟩; simp only [hp_next] at fM7_0
        try simp -dsimp -implicitDefEqProofs (maxDischargeDepth := 6) [e0, e1, e2, e3, e4, e5, e6, e7, e8, e9, e10, hp_over_some, hp_over_none]
        exact hK _ _ ⟨M7, (by omega), fM7_1, rfl, rfl⟩
       rintro a σ ⟨M7, fM7_0, fM7_1, rfl, rfl⟩
       try rw [← fM7_1]
       obtain ⟨r27, hr27, H⟩ := bindE H
       refine AWP_sr tok [] [1, 2, 6, 7, 8, 9, 12, 13, 14, 17] (fun a σ => ∃ M8 : Nat, M7 + 4 ≤ M8 ∧ r27.2.length = r8.2.2.1.length ∧ a = [(1, .fsl (encL rBox p1)), (2, .fptr [.fsl (encL rI p0.Regs), .int .i64 p0.Pc, .fsl (encL rI p0.Mem)] 0), (6, .ptr (N0 + 25) 0 0), (7, .fsl (encL rBox r5.2.1)), (8, .fsl (encL rI r5.2.2.1)), (9, .int .i64 r5.2.2.2), (12, .ptr (M2 + 10) 0 0), (13, .sl o6 0 r26.2.length), (14, .sl o7 0 r8.2.2.1.length), (17, .int .i64 r27.1)] ∧ σ = hp E0 [(N0 + 25, some ⟨28, 3, [[.fsl (encL rI r5.1.Regs), .int .i64 r5.1.Pc, .fsl (encL rI r5.1.Mem)]]⟩), (o3, some ⟨64, 2, encL rBox_o r18.2⟩), (o6, some ⟨64, 2, encL rBox_o r26.2⟩), (o7, some ⟨3, 1, encL rI r27.2⟩), (M2 + 10, some ⟨28, 3, [[.osl 3 1 (encL rI r25.2.Regs), .int .i64 r8.1.Pc, .osl 3 1 (encL rI r25.2.Mem)]]⟩)] M8) (fun K hK => ?_) ?_
       ·
        skip
        have e0 := nq (a := N0 + 25) (b := o3) (by omega)
        have e1 := nq (a := N0 + 25) (b := o6) (by omega)
        have e2 := nq (a := N0 + 25) (b := o7) (by omega)
        have e3 := nq (a := N0 + 25) (b := M2 + 10) (by omega)
        have e4 := nq (a := N0 + 15) (b := M2) (by omega)
        have e5 := nq (a := o3) (b := o6) (by omega)
        have e6 := nq (a := o3) (b := o7) (by omega)
        have e7 := nq (a := o3) (b := M2 + 10) (by omega)
        have e8 := nq (a := o6) (b := o7) (by omega)
        have e9 := nq (a := o6) (b := M2 + 10) (by omega)
        have e10 := nq (a := o7) (b := M2 + 10) (by omega)
        simp -dsimp -implicitDefEqProofs (maxDischargeDepth := 6) [e0, e1, e2, e3, e4, e5, e6, e7, e8, e9, e10]
        refine (c19 (H := hr27) (by simp [e0, e1, e2, e3, e4, e5, e6, e7, e8, e9, e10])).mono ?_; rintro _ _ ⟨M8, fM8_0, fM8_1, rfl, rfl⟩; simp only [hp_next] at fM8_0
        try simp -dsimp -implicitDefEqProofs (maxDischargeDepth := 6) [e0, e1, e2, e3, e4, e5, e6, e7, e8, e9, e10, hp_over_some, hp_over_none]
        exact hK _ _ ⟨M8, (by omega), fM8_1, rfl, rfl⟩
       rintro a σ ⟨M8, fM8_0, fM8_1, rfl, rfl⟩
       try rw [← fM8_1]
       refine AWP_sr tok [] [1, 2, 6, 7, 8, 9, 12, 13, 14, 17, 18] (fun a σ => a = [(1, .fsl (encL rBox p1)), (2, .fptr [.fsl (encL rI p0.Regs), .int .i64 p0.Pc, .fsl (encL rI p0.Mem)] 0), (6, .ptr (N0 + 25) 0 0), (7, .fsl (encL rBox r5.2.1)), (8, .fsl (encL rI r5.2.2.1)), (9, .int .i64 r5.2.2.2), (12, .ptr (M2 + 10) 0 0), (13, .sl o6 0 r26.2.length), (14, .sl o7 0 r27.2.length), (17, .int .i64 r27.1), (18, .int .i64 1)] ∧ σ = hp E0 [(N0 + 25, some ⟨28, 3, [[.fsl (encL rI r5.1.Regs), .int .i64 r5.1.Pc, .fsl (encL rI r5.1.Mem)]]⟩), (o3, some ⟨64, 2, encL rBox_o r18.2⟩), (o6, some ⟨64, 2, encL rBox_o r26.2⟩), (o7, some ⟨3, 1, encL rI r27.2⟩), (M2 + 10, some ⟨28, 3, [[.osl 3 1 (encL rI r25.2.Regs), .int .i64 r8.1.Pc, .osl 3 1 (encL rI r25.2.Mem)]]⟩)] (M8 + 1)) (fun K hK => ?_) ?_
       ·
        skip
        have e0 := nq (a := N0 + 25) (b := o3) (by omega)
        have e1 := nq (a := N0 + 25) (b := o6) (by omega)
        have e2 := nq (a := N0 + 25) (b := o7) (by omega)
        have e3 := nq (a := N0 + 25) (b := M2 + 10) (by omega)
        have e4 := nq (a := N0 + 15) (b := M2) (by omega)
        have e5 := nq (a := o3) (b := o6) (by omega)
        have e6 := nq (a := o3) (b := o7) (by omega)
        have e7 := nq (a := o3) (b := M2 + 10) (by omega)
        have e8 := nq (a := o6) (b := o7) (by omega)
        have e9 := nq (a := o6) (b := M2 + 10) (by omega)
        have e10 := nq (a := o7) (b := M2 + 10) (by omega)
        simp -dsimp -implicitDefEqProofs (maxDischargeDepth := 6) [e0, e1, e2, e3, e4, e5, e6, e7, e8, e9, e10]
        exact hK _ _ ⟨rfl, rfl⟩
       rintro a σ ⟨rfl, rfl⟩
       refine gUnp AWP_ref (ty := 3) (sz := 1) (es := encL rI r25.2.Regs) (o := (M2 + 10)) (ob := ⟨28, 3, [[.osl 3 1 (encL rI r25.2.Regs), .int .i64 r8.1.Pc, .osl 3 1 (encL rI r25.2.Mem)]]⟩) (row := [.osl 3 1 (encL rI r25.2.Regs), .int .i64 r8.1.Pc, .osl 3 1 (encL rI r25.2.Mem)]) (r := 0) (i := 0) [(N0 + 25, some ⟨28, 3, [[.fsl (encL rI r5.1.Regs), .int .i64 r5.1.Pc, .fsl (encL rI r5.1.Mem)]]⟩), (o3, some ⟨64, 2, encL rBox_o r18.2⟩), (o6, some ⟨64, 2, encL rBox_o r26.2⟩), (o7, some ⟨3, 1, encL rI r27.2⟩), (M2 + 10, some ⟨28, 3, [[.sl (M8 + 1) 0 r25.2.Regs.length, .int .i64 r8.1.Pc, .osl 3 1 (encL rI r25.2.Mem)]]⟩), (M8 + 1, some ⟨3, 1, encL rI r25.2.Regs⟩)] (by simp (disch := omega)) rfl rfl (by simp (disch := omega) [List.set_set]) ?_
       refine gUnp AWP_ref (ty := 3) (sz := 1) (es := encL rI r25.2.Mem) (o := (M2 + 10)) (ob := ⟨28, 3, [[.sl (M8 + 1) 0 r25.2.Regs.length, .int .i64 r8.1.Pc, .osl 3 1 (encL rI r25.2.Mem)]]⟩) (row := [.sl (M8 + 1) 0 r25.2.Regs.length, .int .i64 r8.1.Pc, .osl 3 1 (encL rI r25.2.Mem)]) (r := 0) (i := 2) [(N0 + 25, some ⟨28, 3, [[.fsl (encL rI r5.1.Regs), .int .i64 r5.1.Pc, .fsl (encL rI r5.1.Mem)]]⟩), (o3, some ⟨64, 2, encL rBox_o r18.2⟩), (o6, some ⟨64, 2, encL rBox_o r26.2⟩), (o7, some ⟨3, 1, encL rI r27.2⟩), (M2 + 10, some ⟨28, 3, [[.sl (M8 + 1) 0 r25.2.Regs.length, .int .i64 r8.1.Pc, .sl (M8 + 2) 0 r25.2.Mem.length]]⟩), (M8 + 1, some ⟨3, 1, encL rI r25.2.Regs⟩), (M8 + 2, some ⟨3, 1, encL rI r25.2.Mem⟩)] (by simp (disch := omega)) rfl rfl (by simp (disch := omega) [List.set_set]) ?_
       obtain ⟨r28, hr28, H⟩ := bindE H
       refine AWP_sr tok [] [1, 2, 6, 7, 8, 9, 12, 13, 14, 17, 18] (fun a σ => a = [(1, .fsl (encL rBox p1)), (2, .fptr [.fsl (encL rI p0.Regs), .int .i64 p0.Pc, .fsl (encL rI p0.Mem)] 0), (6, .ptr (N0 + 25) 0 0), (7, .fsl (encL rBox r5.2.1)), (8, .fsl (encL rI r5.2.2.1)), (9, .int .i64 r5.2.2.2), (12, .ptr (M2 + 10) 0 0), (13, .sl o6 0 r26.2.length), (14, .sl o7 0 r27.2.length), (17, .int .i64 r27.1), (18, .int .i64 r28)] ∧ σ = hp E0 [(N0 + 25, some ⟨28, 3, [[.fsl (encL rI r5.1.Regs), .int .i64 r5.1.Pc, .fsl (encL rI r5.1.Mem)]]⟩), (o3, some ⟨64, 2, encL rBox_o r18.2⟩), (o6, some ⟨64, 2, encL rBox_o r26.2⟩), (o7, some ⟨3, 1, encL rI r27.2⟩), (M2 + 10, some ⟨28, 3, [[.sl (M8 + 1) 0 r25.2.Regs.length, .int .i64 r8.1.Pc, .sl (M8 + 2) 0 r25.2.Mem.length]]⟩), (M8 + 1, some ⟨3, 1, encL rI r25.2.Regs⟩), (M8 + 2, some ⟨3, 1, encL rI r25.2.Mem⟩)] (M8 + 7)) (fun K hK => ?_) ?_
       ·
        skip
        have e0 := nq (a := N0 + 25) (b := o3) (by omega)
        have e1 := nq (a := N0 + 25) (b := o6) (by omega)
        have e2 := nq (a := N0 + 25) (b := o7) (by omega)
        have e3 := nq (a := N0 + 25) (b := M2 + 10) (by omega)
        have e4 := nq (a := N0 + 15) (b := M2) (by omega)
        have e5 := nq (a := N0 + 25) (b := M8 + 1) (by omega)
        have e6 := nq (a := N0 + 24) (b := M8) (by omega)
        have e7 := nq (a := N0 + 25) (b := M8 + 2) (by omega)
        have e8 := nq (a := N0 + 23) (b := M8) (by omega)
        have e9 := nq (a := o3) (b := o6) (by omega)
        have e10 := nq (a := o3) (b := o7) (by omega)
        have e11 := nq (a := o3) (b := M2 + 10) (by omega)
        have e12 := nq (a := o3) (b := M8 + 1) (by omega)
        have e13 := nq (a := o3) (b := M8 + 2) (by omega)
        have e14 := nq (a := o6) (b := o7) (by omega)
        have e15 := nq (a := o6) (b := M2 + 10) (by omega)
        have e16 := nq (a := o6) (b := M8 + 1) (by omega)
        have e17 := nq (a := o6) (b := M8 + 2) (by omega)
        have e18 := nq (a := o7) (b := M2 + 10) (by omega)
        have e19 := nq (a := o7) (b := M8 + 1) (by omega)
        have e20 := nq (a := o7) (b := M8 + 2) (by omega)
        have e21 := nq (a := M2 + 10) (b := M8 + 1) (by omega)
        have e22 := nq (a := M2 + 9) (b := M8) (by omega)
        have e23 := nq (a := M2 + 10) (b := M8 + 2) (by omega)
        have e24 := nq (a := M2 + 8) (b := M8) (by omega)
        simp -dsimp -implicitDefEqProofs (maxDischargeDepth := 6) [e0, e1, e2, e3, e4, e5, e6, e7, e8, e9, e10, e11, e12, e13, e14, e15, e16, e17, e18, e19, e20, e21, e22, e23, e24]
        refine (borrow 8 (c20 hr28) (by simp [e0, e1, e2, e3, e4, e5, e6, e7, e8, e9, e10, e11, e12, e13, e14, e15, e16, e17, e18, e19, e20, e21, e22, e23, e24]) rfl).mono ?_; rintro _ _ ⟨rfl, rfl⟩; try simp -dsimp -implicitDefEqProofs (maxDischargeDepth := 6) [e0, e1, e2, e3, e4, e5, e6, e7, e8, e9, e10, e11, e12, e13, e14, e15, e16, e17, e18, e19, e20, e21, e22, e23, e24]
        exact hK _ _ ⟨rfl, rfl⟩
       rintro a σ ⟨rfl, rfl⟩
       refine AWP_sq [1, 2, 6, 7, 8, 9, 12, 13, 14, 17, 18] fun K7 hK7 => ?_
       refine AWP_sr tok [] [1, 2, 6, 7, 8, 9, 12, 13, 14, 17, 18, 130] (fun a σ => a = [(1, .fsl (encL rBox p1)), (2, .fptr [.fsl (encL rI p0.Regs), .int .i64 p0.Pc, .fsl (encL rI p0.Mem)] 0), (6, .ptr (N0 + 25) 0 0), (7, .fsl (encL rBox r5.2.1)), (8, .fsl (encL rI r5.2.2.1)), (9, .int .i64 r5.2.2.2), (12, .ptr (M2 + 10) 0 0), (13, .sl o6 0 r26.2.length), (14, .sl o7 0 r27.2.length), (17, .int .i64 r27.1), (18, .int .i64 r28), (130, .bool (ilt r28 0))] ∧ σ = hp E0 [(N0 + 25, some ⟨28, 3, [[.fsl (encL rI r5.1.Regs), .int .i64 r5.1.Pc, .fsl (encL rI r5.1.Mem)]]⟩), (o3, some ⟨64, 2, encL rBox_o r18.2⟩), (o6, some ⟨64, 2, encL rBox_o r26.2⟩), (o7, some ⟨3, 1, encL rI r27.2⟩), (M2 + 10, some ⟨28, 3, [[.sl (M8 + 1) 0 r25.2.Regs.length, .int .i64 r8.1.Pc, .sl (M8 + 2) 0 r25.2.Mem.length]]⟩), (M8 + 1, some ⟨3, 1, encL rI r25.2.Regs⟩), (M8 + 2, some ⟨3, 1, encL rI r25.2.Mem⟩)] (M8 + 9)) (fun K hK => ?_) ?_
       ·
        skip
        have e0 := nq (a := N0 + 25) (b := o3) (by omega)
        have e1 := nq (a := N0 + 25) (b := o6) (by omega)
        have e2 := nq (a := N0 + 25) (b := o7) (by omega)
        have e3 := nq (a := N0 + 25) (b := M2 + 10) (by omega)
        have e4 := nq (a := N0 + 15) (b := M2) (by omega)
        have e5 := nq (a := N0 + 25) (b := M8 + 1) (by omega)
        have e6 := nq (a := N0 + 24) (b := M8) (by omega)
        have e7 := nq (a := N0 + 25) (b := M8 + 2) (by omega)
        have e8 := nq (a := N0 + 23) (b := M8) (by omega)
        have e9 := nq (a := o3) (b := o6) (by omega)
        have e10 := nq (a := o3) (b := o7) (by omega)
        have e11 := nq (a := o3) (b := M2 + 10) (by omega)
        have e12 := nq (a := o3) (b := M8 + 1) (by omega)
        have e13 := nq (a := o3) (b := M8 + 2) (by omega)
        have e14 := nq (a := o6) (b := o7) (by omega)
        have e15 := nq (a := o6) (b := M2 + 10) (by omega)
        have e16 := nq (a := o6) (b := M8 + 1) (by omega)
        have e17 := nq (a := o6) (b := M8 + 2) (by omega)
        have e18 := nq (a := o7) (b := M2 + 10) (by omega)
        have e19 := nq (a := o7) (b := M8 + 1) (by omega)
        have e20 := nq (a := o7) (b := M8 + 2) (by omega)
        have e21 := nq (a := M2 + 10) (b := M8 + 1) (by omega)
        have e22 := nq (a := M2 + 9) (b := M8) (by omega)
        have e23 := nq (a := M2 + 10) (b := M8 + 2) (by omega)
        have e24 := nq (a := M2 + 8) (b := M8) (by omega)
        simp -dsimp -implicitDefEqProofs (maxDischargeDepth := 6) [e0, e1, e2, e3, e4, e5, e6, e7, e8, e9, e10, e11, e12, e13, e14, e15, e16, e17, e18, e19, e20, e21, e22, e23, e24]
        exact hK _ _ ⟨rfl, rfl⟩
       rintro a σ ⟨rfl, rfl⟩
       refine AWP_cond (ilt r28 0) rfl (fun C7 => ?_) (fun C7 => ?_)
       ·
        replace H := ifT C7 H
        refine AWP_sr tok [] [4] (fun a σ => a = [(4, .bool false)] ∧ σ = hp E0 [(N0 + 25, some ⟨28, 3, [[.fsl (encL rI r5.1.Regs), .int .i64 r5.1.Pc, .fsl (encL rI r5.1.Mem)]]⟩), (o3, some ⟨64, 2, encL rBox_o r18.2⟩), (o6, some ⟨64, 2, encL rBox_o r26.2⟩), (o7, some ⟨3, 1, encL rI r27.2⟩), (M2 + 10, some ⟨28, 3, [[.sl (M8 + 1) 0 r25.2.Regs.length, .int .i64 r8.1.Pc, .sl (M8 + 2) 0 r25.2.Mem.length]]⟩), (M8 + 1, some ⟨3, 1, encL rI r25.2.Regs⟩), (M8 + 2, some ⟨3, 1, encL rI r25.2.Mem⟩)] (M8 + 10)) (fun K hK => ?_) ?_
        ·
         skip
         have e0 := nq (a := N0 + 25) (b := o3) (by omega)
         have e1 := nq (a := N0 + 25) (b := o6) (by omega)
         have e2 := nq (a := N0 + 25) (b := o7) (by omega)
         have e3 := nq (a := N0 + 25) (b := M2 + 10) (by omega)
         have e4 := nq (a := N0 + 15) (b := M2) (by omega)
         have e5 := nq (a := N0 + 25) (b := M8 + 1) (by omega)
         have e6 := nq (a := N0 + 24) (b := M8) (by omega)
         have e7 := nq (a := N0 + 25) (b := M8 + 2) (by omega)
         have e8 := nq (a := N0 + 23) (b := M8) (by omega)
         have e9 := nq (a := o3) (b := o6) (by omega)
         have e10 := nq (a := o3) (b := o7) (by omega)
         have e11 := nq (a := o3) (b := M2 + 10) (by omega)
         have e12 := nq (a := o3) (b := M8 + 1) (by omega)
         have e13 := nq (a := o3) (b := M8 + 2) (by omega)
         have e14 := nq (a := o6) (b := o7) (by omega)
         have e15 := nq (a := o6) (b := M2 + 10) (by omega)
         have e16 := nq (a := o6) (b := M8 + 1) (by omega)
         have e17 := nq (a := o6) (b := M8 + 2) (by omega)
         have e18 := nq (a := o7) (b := M2 + 10) (by omega)
         have e19 := nq (a := o7) (b := M8 + 1) (by omega)
         have e20 := nq (a := o7) (b := M8 + 2) (by omega)
         have e21 := nq (a := M2 + 10) (b := M8 + 1) (by omega)
         have e22 := nq (a := M2 + 9) (b := M8) (by omega)
         have e23 := nq (a := M2 + 10) (b := M8 + 2) (by omega)
         have e24 := nq (a := M2 + 8) (b := M8) (by omega)
         simp -dsimp -implicitDefEqProofs (maxDischargeDepth := 6) [e0, e1, e2, e3, e4, e5, e6, e7, e8, e9, e10, e11, e12, e13, e14, e15, e16, e17, e18, e19, e20, e21, e22, e23, e24]
         exact hK _ _ ⟨rfl, rfl⟩
        rintro a σ ⟨rfl, rfl⟩
        replace H := Option.some.inj H; subst H
        refine AWP_kp [4] [(4, .bool false)] rfl ?_
        have z104 := nq (a := N0 + 25) (b := o3) (by omega)
        have z105 := nq (a := N0 + 25) (b := o6) (by omega)
        have z106 := nq (a := N0 + 25) (b := o7) (by omega)
        have z107 := nq (a := N0 + 25) (b := M2 + 10) (by omega)
        have z108 := nq (a := N0 + 15) (b := M2) (by omega)
        have z109 := nq (a := N0 + 25) (b := M8 + 1) (by omega)
        have z110 := nq (a := N0 + 24) (b := M8) (by omega)
        have z111 := nq (a := N0 + 25) (b := M8 + 2) (by omega)
        have z112 := nq (a := N0 + 23) (b := M8) (by omega)
        have z113 := nq (a := o3) (b := o6) (by omega)
        have z114 := nq (a := o3) (b := o7) (by omega)
        have z115 := nq (a := o3) (b := M2 + 10) (by omega)
        have z116 := nq (a := o3) (b := M8 + 1) (by omega)
        have z117 := nq (a := o3) (b := M8 + 2) (by omega)
        have z118 := nq (a := o6) (b := o7) (by omega)
        have z119 := nq (a := o6) (b := M2 + 10) (by omega)
        have z120 := nq (a := o6) (b := M8 + 1) (by omega)
        have z121 := nq (a := o6) (b := M8 + 2) (by omega)
        have z122 := nq (a := o7) (b := M2 + 10) (by omega)
        have z123 := nq (a := o7) (b := M8 + 1) (by omega)
        have z124 := nq (a := o7) (b := M8 + 2) (by omega)
        have z125 := nq (a := M2 + 10) (b := M8 + 1) (by omega)
        have z126 := nq (a := M2 + 9) (b := M8) (by omega)
        have z127 := nq (a := M2 + 10) (b := M8 + 2) (by omega)
        have z128 := nq (a := M2 + 8) (b := M8) (by omega)
        refine AWP_ret ?_
        exact ⟨[.bool false], by simp [z104, z105, z106, z107, z108, z109, z110, z111, z112, z113, z114, z115, z116, z117, z118, z119, z120, z121, z122, z123, z124, z125, z126, z127, z128], 4, by simp [encL_nil, z104, z105, z106, z107, z108, z109, z110, z111, z112, z113, z114, z115, z116, z117, z118, z119, z120, z121, z122, z123, z124, z125, z126, z127, z128]⟩
       ·
        replace H := ifF C7 H
        refine AWP_skip ?_
        show K7 _ _
        refine keepE (l := [1, 2, 6, 7, 8, 9, 12, 13, 14, 17, 18]) (x := [(1, .fsl (encL rBox p1)), (2, .fptr [.fsl (encL rI p0.Regs), .int .i64 p0.Pc, .fsl (encL rI p0.Mem)] 0), (6, .ptr (N0 + 25) 0 0), (7, .fsl (encL rBox r5.2.1)), (8, .fsl (encL rI r5.2.2.1)), (9, .int .i64 r5.2.2.2), (12, .ptr (M2 + 10) 0 0), (13, .sl o6 0 r26.2.length), (14, .sl o7 0 r27.2.length), (17, .int .i64 r27.1), (18, .int .i64 r28)]) rfl fun a' ha => ?_
        refine hK7 _ _ ?_; rw [ha]
        refine Rc.mk ?_
        refine gPk AWP_ref (k := r25.2.Regs.length) (o := (M2 + 10)) (ob := ⟨28, 3, [[.sl (M8 + 1) 0 r25.2.Regs.length, .int .i64 r8.1.Pc, .sl (M8 + 2) 0 r25.2.Mem.length]]⟩) (row := [.sl (M8 + 1) 0 r25.2.Regs.length, .int .i64 r8.1.Pc, .sl (M8 + 2) 0 r25.2.Mem.length]) (d := (M8 + 1)) (obd := ⟨3, 1, encL rI r25.2.Regs⟩) (r := 0) (i := 0) [(N0 + 25, some ⟨28, 3, [[.fsl (encL rI r5.1.Regs), .int .i64 r5.1.Pc, .fsl (encL rI r5.1.Mem)]]⟩), (o3, some ⟨64, 2, encL rBox_o r18.2⟩), (o6, some ⟨64, 2, encL rBox_o r26.2⟩), (o7, some ⟨3, 1, encL rI r27.2⟩), (M2 + 10, some ⟨28, 3, [[.osl 3 1 (encL rI r25.2.Regs), .int .i64 r8.1.Pc, .sl (M8 + 2) 0 r25.2.Mem.length]]⟩), (M8 + 2, some ⟨3, 1, encL rI r25.2.Mem⟩)] (by simp (disch := omega)) rfl rfl (by simp (disch := omega)) (by simp (disch := omega)) (by first | omega | simp) (by simp (disch := omega) [List.set_set, app_set] <;> omega) (by simp (disch := omega) [List.set_set, app_set]) ?_
        refine gPk AWP_ref (k := r25.2.Mem.length) (o := (M2 + 10)) (ob := ⟨28, 3, [[.osl 3 1 (encL rI r25.2.Regs), .int .i64 r8.1.Pc, .sl (M8 + 2) 0 r25.2.Mem.length]]⟩) (row := [.osl 3 1 (encL rI r25.2.Regs), .int .i64 r8.1.Pc, .sl (M8 + 2) 0 r25.2.Mem.length]) (d := (M8 + 2)) (obd := ⟨3, 1, encL rI r25.2.Mem⟩) (r := 0) (i := 2) [(N0 + 25, some ⟨28, 3, [[.fsl (encL rI r5.1.Regs), .int .i64 r5.1.Pc, .fsl (encL rI r5.1.Mem)]]⟩), (o3, some ⟨64, 2, encL rBox_o r18.2⟩), (o6, some ⟨64, 2, encL rBox_o r26.2⟩), (o7, some ⟨3, 1, encL rI r27.2⟩), (M2 + 10, some ⟨28, 3, [[.osl 3 1 (encL rI r25.2.Regs), .int .i64 r8.1.Pc, .osl 3 1 (encL rI r25.2.Mem)]]⟩)] (by simp (disch := omega)) rfl rfl (by simp (disch := omega)) (by simp (disch := omega)) (by first | omega | simp) (by simp (disch := omega) [List.set_set, app_set] <;> omega) (by simp (disch := omega) [List.set_set, app_set]) ?_
        obtain ⟨r29, hr29, H⟩ := bindE H
        refine AWP_sr tok [] [1, 2, 6, 7, 8, 9, 12, 13, 14, 17, 18] (fun a σ => a = [(1, .fsl (encL rBox p1)), (2, .fptr [.fsl (encL rI p0.Regs), .int .i64 p0.Pc, .fsl (encL rI p0.Mem)] 0), (6, .ptr (N0 + 25) 0 0), (7, .fsl (encL rBox r5.2.1)), (8, .fsl (encL rI r5.2.2.1)), (9, .int .i64 r5.2.2.2), (12, .ptr (M2 + 10) 0 0), (13, .sl o6 0 r26.2.length), (14, .sl o7 0 r27.2.length), (17, .int .i64 r27.1), (18, .int .i64 r29)] ∧ σ = hp E0 [(N0 + 25, some ⟨28, 3, [[.fsl (encL rI r5.1.Regs), .int .i64 r5.1.Pc, .fsl (encL rI r5.1.Mem)]]⟩), (o3, some ⟨64, 2, encL rBox_o r18.2⟩), (o6, some ⟨64, 2, encL rBox_o r26.2⟩), (o7, some ⟨3, 1, encL rI r27.2⟩), (M2 + 10, some ⟨28, 3, [[.osl 3 1 (encL rI r25.2.Regs), .int .i64 r8.1.Pc, .osl 3 1 (encL rI r25.2.Mem)]]⟩)] (M8 + 13)) (fun K hK => ?_) ?_
        ·
         skip
         have e0 := nq (a := N0 + 25) (b := o3) (by omega)
         have e1 := nq (a := N0 + 25) (b := o6) (by omega)
         have e2 := nq (a := N0 + 25) (b := o7) (by omega)
         have e3 := nq (a := N0 + 25) (b := M2 + 10) (by omega)
         have e4 := nq (a := N0 + 15) (b := M2) (by omega)
         have e5 := nq (a := o3) (b := o6) (by omega)
         have e6 := nq (a := o3) (b := o7) (by omega)
         have e7 := nq (a := o3) (b := M2 + 10) (by omega)
         have e8 := nq (a := o6) (b := o7) (by omega)
         have e9 := nq (a := o6) (b := M2 + 10) (by omega)
         have e10 := nq (a := o7) (b := M2 + 10) (by omega)
         simp -dsimp -implicitDefEqProofs (maxDischargeDepth := 6) [e0, e1, e2, e3, e4, e5, e6, e7, e8, e9, e10]
         refine (borrow 8 (c21 hr29) (by simp [e0, e1, e2, e3, e4, e5, e6, e7, e8, e9, e10]) rfl).mono ?_; rintro _ _ ⟨rfl, rfl⟩; try simp -dsimp -implicitDefEqProofs (maxDischargeDepth := 6) [e0, e1, e2, e3, e4, e5, e6, e7, e8, e9, e10]
         exact hK _ _ ⟨rfl, rfl⟩
        rintro a σ ⟨rfl, rfl⟩
        refine AWP_sq [1, 2, 6, 7, 8, 9, 12, 13, 14, 17, 18] fun K8 hK8 => ?_
        refine AWP_sr tok [] [1, 2, 6, 7, 8, 9, 12, 13, 14, 17, 18, 135] (fun a σ => a = [(1, .fsl (encL rBox p1)), (2, .fptr [.fsl (encL rI p0.Regs), .int .i64 p0.Pc, .fsl (encL rI p0.Mem)] 0), (6, .ptr (N0 + 25) 0 0), (7, .fsl (encL rBox r5.2.1)), (8, .fsl (encL rI r5.2.2.1)), (9, .int .i64 r5.2.2.2), (12, .ptr (M2 + 10) 0 0), (13, .sl o6 0 r26.2.length), (14, .sl o7 0 r27.2.length), (17, .int .i64 r27.1), (18, .int .i64 r29), (135, .bool (ilt r29 0))] ∧ σ = hp E0 [(N0 + 25, some ⟨28, 3, [[.fsl (encL rI r5.1.Regs), .int .i64 r5.1.Pc, .fsl (encL rI r5.1.Mem)]]⟩), (o3, some ⟨64, 2, encL rBox_o r18.2⟩), (o6, some ⟨64, 2, encL rBox_o r26.2⟩), (o7, some ⟨3, 1, encL rI r27.2⟩), (M2 + 10, some ⟨28, 3, [[.osl 3 1 (encL rI r25.2.Regs), .int .i64 r8.1.Pc, .osl 3 1 (encL rI r25.2.Mem)]]⟩)] (M8 + 15)) (fun K hK => ?_) ?_
        ·
         skip
         have e0 := nq (a := N0 + 25) (b := o3) (by omega)
         have e1 := nq (a := N0 + 25) (b := o6) (by omega)
         have e2 := nq (a := N0 + 25) (b := o7) (by omega)
         have e3 := nq (a := N0 + 25) (b := M2 + 10) (by omega)
         have e4 := nq (a := N0 + 15) (b := M2) (by omega)
         have e5 := nq (a := o3) (b := o6) (by omega)
         have e6 := nq (a := o3) (b := o7) (by omega)
         have e7 := nq (a := o3) (b := M2 + 10) (by omega)
         have e8 := nq (a := o6) (b := o7) (by omega)
         have e9 := nq (a := o6) (b := M2 + 10) (by omega)
         have e10 := nq (a := o7) (b := M2 + 10) (by omega)
         simp -dsimp -implicitDefEqProofs (maxDischargeDepth := 6) [e0, e1, e2, e3, e4, e5, e6, e7, e8, e9, e10]
         exact hK _ _ ⟨rfl, rfl⟩
        rintro a σ ⟨rfl, rfl⟩
        refine AWP_cond (ilt r29 0) rfl (fun C8 => ?_) (fun C8 => ?_)
        ·
         replace H := ifT C8 H
         refine AWP_sr tok [] [4] (fun a σ => a = [(4, .bool false)] ∧ σ = hp E0 [(N0 + 25, some ⟨28, 3, [[.fsl (encL rI r5.1.Regs), .int .i64 r5.1.Pc, .fsl (encL rI r5.1.Mem)]]⟩), (o3, some ⟨64, 2, encL rBox_o r18.2⟩), (o6, some ⟨64, 2, encL rBox_o r26.2⟩), (o7, some ⟨3, 1, encL rI r27.2⟩), (M2 + 10, some ⟨28, 3, [[.osl 3 1 (encL rI r25.2.Regs), .int .i64 r8.1.Pc, .osl 3 1 (encL rI r25.2.Mem)]]⟩)] (M8 + 16)) (fun K hK => ?_) ?_
         ·
          skip
          have e0 := nq (a := N0 + 25) (b := o3) (by omega)
          have e1 := nq (a := N0 + 25) (b := o6) (by omega)
          have e2 := nq (a := N0 + 25) (b := o7) (by omega)
          have e3 := nq (a := N0 + 25) (b := M2 + 10) (by omega)
          have e4 := nq (a := N0 + 15) (b := M2) (by omega)
          have e5 := nq (a := o3) (b := o6) (by omega)
          have e6 := nq (a := o3) (b := o7) (by omega)
          have e7 := nq (a := o3) (b := M2 + 10) (by omega)
          have e8 := nq (a := o6) (b := o7) (by omega)
          have e9 := nq (a := o6) (b := M2 + 10) (by omega)
          have e10 := nq (a := o7) (b := M2 + 10) (by omega)
          simp -dsimp -implicitDefEqProofs (maxDischargeDepth := 6) [e0, e1, e2, e3, e4, e5, e6, e7, e8, e9, e10]
          exact hK _ _ ⟨rfl, rfl⟩
         rintro a σ ⟨rfl, rfl⟩
         replace H := Option.some.inj H; subst H
         refine AWP_kp [4] [(4, .bool false)] rfl ?_
         have z129 := nq (a := N0 + 25) (b := o3) (by omega)
         have z130 := nq (a := N0 + 25) (b := o6) (by omega)
         have z131 := nq (a := N0 + 25) (b := o7) (by omega)
         have z132 := nq (a := N0 + 25) (b := M2 + 10) (by omega)
         have z133 := nq (a := N0 + 15) (b := M2) (by omega)
         have z134 := nq (a := o3) (b := o6) (by omega)
         have z135 := nq (a := o3) (b := o7) (by omega)
         have z136 := nq (a := o3) (b := M2 + 10) (by omega)
         have z137 := nq (a := o6) (b := o7) (by omega)
         have z138 := nq (a := o6) (b := M2 + 10) (by omega)
         have z139 := nq (a := o7) (b := M2 + 10) (by omega)
         refine AWP_ret ?_
         exact ⟨[.bool false], by simp [z129, z130, z131, z132, z133, z134, z135, z136, z137, z138, z139], 4, by simp [encL_nil, z129, z130, z131, z132, z133, z134, z135, z136, z137, z138, z139]⟩
        ·
         replace H := ifF C8 H
         refine AWP_skip ?_
         show K8 _ _
         refine keepE (l := [1, 2, 6, 7, 8, 9, 12, 13, 14, 17, 18]) (x := [(1, .fsl (encL rBox p1)), (2, .fptr [.fsl (encL rI p0.Regs), .int .i64 p0.Pc, .fsl (encL rI p0.Mem)] 0), (6, .ptr (N0 + 25) 0 0), (7, .fsl (encL rBox r5.2.1)), (8, .fsl (encL rI r5.2.2.1)), (9, .int .i64 r5.2.2.2), (12, .ptr (M2 + 10) 0 0), (13, .sl o6 0 r26.2.length), (14, .sl o7 0 r27.2.length), (17, .int .i64 r27.1), (18, .int .i64 r29)]) rfl fun a' ha => ?_
         refine hK8 _ _ ?_; rw [ha]
         refine Rc.mk ?_
         obtain ⟨r30, hr30, H⟩ := bindE H
         refine AWP_sr tok [] [1, 2, 6, 7, 8, 9, 12, 13, 14, 17, 18] (fun a σ => a = [(1, .fsl (encL rBox p1)), (2, .fptr [.fsl (encL rI p0.Regs), .int .i64 p0.Pc, .fsl (encL rI p0.Mem)] 0), (6, .ptr (N0 + 25) 0 0), (7, .fsl (encL rBox r5.2.1)), (8, .fsl (encL rI r5.2.2.1)), (9, .int .i64 r5.2.2.2), (12, .ptr (M2 + 10) 0 0), (13, .sl o6 0 r26.2.length), (14, .sl o7 0 r27.2.length), (17, .int .i64 r27.1), (18, .int .i64 r30)] ∧ σ = hp E0 [(N0 + 25, some ⟨28, 3, [[.fsl (encL rI r5.1.Regs), .int .i64 r5.1.Pc, .fsl (encL rI r5.1.Mem)]]⟩), (o3, some ⟨64, 2, encL rBox_o r18.2⟩), (o6, some ⟨64, 2, encL rBox_o r26.2⟩), (o7, some ⟨3, 1, encL rI r27.2⟩), (M2 + 10, some ⟨28, 3, [[.osl 3 1 (encL rI r25.2.Regs), .int .i64 r8.1.Pc, .osl 3 1 (encL rI r25.2.Mem)]]⟩)] (M8 + 19)) (fun K hK => ?_) ?_
         ·
          skip
          have e0 := nq (a := N0 + 25) (b := o3) (by omega)
          have e1 := nq (a := N0 + 25) (b := o6) (by omega)
          have e2 := nq (a := N0 + 25) (b := o7) (by omega)
          have e3 := nq (a := N0 + 25) (b := M2 + 10) (by omega)
          have e4 := nq (a := N0 + 15) (b := M2) (by omega)
          have e5 := nq (a := o3) (b := o6) (by omega)
          have e6 := nq (a := o3) (b := o7) (by omega)
          have e7 := nq (a := o3) (b := M2 + 10) (by omega)
          have e8 := nq (a := o6) (b := o7) (by omega)
          have e9 := nq (a := o6) (b := M2 + 10) (by omega)
          have e10 := nq (a := o7) (b := M2 + 10) (by omega)
          simp -dsimp -implicitDefEqProofs (maxDischargeDepth := 6) [e0, e1, e2, e3, e4, e5, e6, e7, e8, e9, e10]
          refine (borrow 8 (c22 hr30) (by simp [e0, e1, e2, e3, e4, e5, e6, e7, e8, e9, e10]) rfl).mono ?_; rintro _ _ ⟨rfl, rfl⟩; try simp -dsimp -implicitDefEqProofs (maxDischargeDepth := 6) [e0, e1, e2, e3, e4, e5, e6, e7, e8, e9, e10]
          exact hK _ _ ⟨rfl, rfl⟩
         rintro a σ ⟨rfl, rfl⟩
         refine AWP_sq [1, 2, 6, 7, 8, 9, 12, 13, 14, 17, 18] fun K9 hK9 => ?_
         refine AWP_sr tok [] [1, 2, 6, 7, 8, 9, 12, 13, 14, 17, 18, 140] (fun a σ => a = [(1, .fsl (encL rBox p1)), (2, .fptr [.fsl (encL rI p0.Regs), .int .i64 p0.Pc, .fsl (encL rI p0.Mem)] 0), (6, .ptr (N0 + 25) 0 0), (7, .fsl (encL rBox r5.2.1)), (8, .fsl (encL rI r5.2.2.1)), (9, .int .i64 r5.2.2.2), (12, .ptr (M2 + 10) 0 0), (13, .sl o6 0 r26.2.length), (14, .sl o7 0 r27.2.length), (17, .int .i64 r27.1), (18, .int .i64 r30), (140, .bool (ilt r30 0))] ∧ σ = hp E0 [(N0 + 25, some ⟨28, 3, [[.fsl (encL rI r5.1.Regs), .int .i64 r5.1.Pc, .fsl (encL rI r5.1.Mem)]]⟩), (o3, some ⟨64, 2, encL rBox_o r18.2⟩), (o6, some ⟨64, 2, encL rBox_o r26.2⟩), (o7, some ⟨3, 1, encL rI r27.2⟩), (M2 + 10, some ⟨28, 3, [[.osl 3 1 (encL rI r25.2.Regs), .int .i64 r8.1.Pc, .osl 3 1 (encL rI r25.2.Mem)]]⟩)] (M8 + 21)) (fun K hK => ?_) ?_
         ·
          skip
          have e0 := nq (a := N0 + 25) (b := o3) (by omega)
          have e1 := nq (a := N0 + 25) (b := o6) (by omega)
          have e2 := nq (a := N0 + 25) (b := o7) (by omega)
          have e3 := nq (a := N0 + 25) (b := M2 + 10) (by omega)
          have e4 := nq (a := N0 + 15) (b := M2) (by omega)
          have e5 := nq (a := o3) (b := o6) (by omega)
          have e6 := nq (a := o3) (b := o7) (by omega)
          have e7 := nq (a := o3) (b := M2 + 10) (by omega)
          have e8 := nq (a := o6) (b := o7) (by omega)
          have e9 := nq (a := o6) (b := M2 + 10) (by omega)
          have e10 := nq (a := o7) (b := M2 + 10) (by omega)
          simp -dsimp -implicitDefEqProofs (maxDischargeDepth := 6) [e0, e1, e2, e3, e4, e5, e6, e7, e8, e9, e10]
          exact hK _ _ ⟨rfl, rfl⟩
         rintro a σ ⟨rfl, rfl⟩
         refine AWP_cond (ilt r30 0) rfl (fun C9 => ?_) (fun C9 => ?_)
         ·
          replace H := ifT C9 H
          refine AWP_sr tok [] [4] (fun a σ => a = [(4, .bool false)] ∧ σ = hp E0 [(N0 + 25, some ⟨28, 3, [[.fsl (encL rI r5.1.Regs), .int .i64 r5.1.Pc, .fsl (encL rI r5.1.Mem)]]⟩), (o3, some ⟨64, 2, encL rBox_o r18.2⟩), (o6, some ⟨64, 2, encL rBox_o r26.2⟩), (o7, some ⟨3, 1, encL rI r27.2⟩), (M2 + 10, some ⟨28, 3, [[.osl 3 1 (encL rI r25.2.Regs), .int .i64 r8.1.Pc, .osl 3 1 (encL rI r25.2.Mem)]]⟩)] (M8 + 22)) (fun K hK => ?_) ?_
          ·
           skip
           have e0 := nq (a := N0 + 25) (b := o3) (by omega)
           have e1 := nq (a := N0 + 25) (b := o6) (by omega)
           have e2 := nq (a := N0 + 25) (b := o7) (by omega)
           have e3 := nq (a := N0 + 25) (b := M2 + 10) (by omega)
           have e4 := nq (a := N0 + 15) (b := M2) (by omega)
           have e5 := nq (a := o3) (b := o6) (by omega)
           have e6 := nq (a := o3) (b := o7) (by omega)
           have e7 := nq (a := o3) (b := M2 + 10) (by omega)
           have e8 := nq (a := o6) (b := o7) (by omega)
           have e9 := nq (a := o6) (b := M2 + 10) (by omega)
           have e10 := nq (a := o7) (b := M2 + 10) (by omega)
           simp -dsimp -implicitDefEqProofs (maxDischargeDepth := 6) [e0, e1, e2, e3, e4, e5, e6, e7, e8, e9, e10]
           exact hK _ _ ⟨rfl, rfl⟩
          rintro a σ ⟨rfl, rfl⟩
          replace H := Option.some.inj H; subst H
          refine AWP_kp [4] [(4, .bool false)] rfl ?_
          have z140 := nq (a := N0 + 25) (b := o3) (by omega)
          have z141 := nq (a := N0 + 25) (b := o6) (by omega)
          have z142 := nq (a := N0 + 25) (b := o7) (by omega)
          have z143 := nq (a := N0 + 25) (b := M2 + 10) (by omega)
          have z144 := nq (a := N0 + 15) (b := M2) (by omega)
          have z145 := nq (a := o3) (b := o6) (by omega)
          have z146 := nq (a := o3) (b := o7) (by omega)
          have z147 := nq (a := o3) (b := M2 + 10) (by omega)
          have z148 := nq (a := o6) (b := o7) (by omega)
          have z149 := nq (a := o6) (b := M2 + 10) (by omega)
          have z150 := nq (a := o7) (b := M2 + 10) (by omega)
          refine AWP_ret ?_
          exact ⟨[.bool false], by simp [z140, z141, z142, z143, z144, z145, z146, z147, z148, z149, z150], 4, by simp [encL_nil, z140, z141, z142, z143, z144, z145, z146, z147, z148, z149, z150]⟩
         ·
          replace H := ifF C9 H
          refine AWP_skip ?_
          show K9 _ _
          refine keepE (l := [1, 2, 6, 7, 8, 9, 12, 13, 14, 17, 18]) (x := [(1, .fsl (encL rBox p1)), (2, .fptr [.fsl (encL rI p0.Regs), .int .i64 p0.Pc, .fsl (encL rI p0.Mem)] 0), (6, .ptr (N0 + 25) 0 0), (7, .fsl (encL rBox r5.2.1)), (8, .fsl (encL rI r5.2.2.1)), (9, .int .i64 r5.2.2.2), (12, .ptr (M2 + 10) 0 0), (13, .sl o6 0 r26.2.length), (14, .sl o7 0 r27.2.length), (17, .int .i64 r27.1), (18, .int .i64 r30)]) rfl fun a' ha => ?_
          refine hK9 _ _ ?_; rw [ha]
          refine Rc.mk ?_
          refine AWP_sq [1, 2, 6, 7, 8, 9, 12, 13, 14, 17] fun K10 hK10 => ?_
          refine AWP_sr tok [] [1, 2, 6, 7, 8, 9, 12, 13, 14, 17, 143] (fun a σ => a = [(1, .fsl (encL rBox p1)), (2, .fptr [.fsl (encL rI p0.Regs), .int .i64 p0.Pc, .fsl (encL rI p0.Mem)] 0), (6, .ptr (N0 + 25) 0 0), (7, .fsl (encL rBox r5.2.1)), (8, .fsl (encL rI r5.2.2.1)), (9, .int .i64 r5.2.2.2), (12, .ptr (M2 + 10) 0 0), (13, .sl o6 0 r26.2.length), (14, .sl o7 0 r27.2.length), (17, .int .i64 r27.1), (143, .bool (ine r30 r27.1))] ∧ σ = hp E0 [(N0 + 25, some ⟨28, 3, [[.fsl (encL rI r5.1.Regs), .int .i64 r5.1.Pc, .fsl (encL rI r5.1.Mem)]]⟩), (o3, some ⟨64, 2, encL rBox_o r18.2⟩), (o6, some ⟨64, 2, encL rBox_o r26.2⟩), (o7, some ⟨3, 1, encL rI r27.2⟩), (M2 + 10, some ⟨28, 3, [[.osl 3 1 (encL rI r25.2.Regs), .int .i64 r8.1.Pc, .osl 3 1 (encL rI r25.2.Mem)]]⟩)] (M8 + 24)) (fun K hK => ?_) ?_
          ·
           skip
           have e0 := nq (a := N0 + 25) (b := o3) (by omega)
           have e1 := nq (a := N0 + 25) (b := o6) (by omega)
           have e2 := nq (a := N0 + 25) (b := o7) (by omega)
           have e3 := nq (a := N0 + 25) (b := M2 + 10) (by omega)
           have e4 := nq (a := N0 + 15) (b := M2) (by omega)
           have e5 := nq (a := o3) (b := o6) (by omega)
           have e6 := nq (a := o3) (b := o7) (by omega)
           have e7 := nq (a := o3) (b := M2 + 10) (by omega)
           have e8 := nq (a := o6) (b := o7) (by omega)
           have e9 := nq (a := o6) (b := M2 + 10) (by omega)
           have e10 := nq (a := o7) (b := M2 + 10) (by omega)
           simp -dsimp -implicitDefEqProofs (maxDischargeDepth := 6) [e0, e1, e2, e3, e4, e5, e6, e7, e8, e9, e10]
           exact hK _ _ ⟨rfl, rfl⟩
          rintro a σ ⟨rfl, rfl⟩
          refine AWP_cond (ine r30 r27.1) rfl (fun C10 => ?_) (fun C10 => ?_)
          ·
           replace H := ifT C10 H
           refine AWP_sr tok [] [4] (fun a σ => a = [(4, .bool false)] ∧ σ = hp E0 [(N0 + 25, some ⟨28, 3, [[.fsl (encL rI r5.1.Regs), .int .i64 r5.1.Pc, .fsl (encL rI r5.1.Mem)]]⟩), (o3, some ⟨64, 2, encL rBox_o r18.2⟩), (o6, some ⟨64, 2, encL rBox_o r26.2⟩), (o7, some ⟨3, 1, encL rI r27.2⟩), (M2 + 10, some ⟨28, 3, [[.osl 3 1 (encL rI r25.2.Regs), .int .i64 r8.1.Pc, .osl 3 1 (encL rI r25.2.Mem)]]⟩)] (M8 + 25)) (fun K hK => ?_) ?_
           ·
            skip
            have e0 := nq (a := N0 + 25) (b := o3) (by omega)
            have e1 := nq (a := N0 + 25) (b := o6) (by omega)
            have e2 := nq (a := N0 + 25) (b := o7) (by omega)
            have e3 := nq (a := N0 + 25) (b := M2 + 10) (by omega)
            have e4 := nq (a := N0 + 15) (b := M2) (by omega)
            have e5 := nq (a := o3) (b := o6) (by omega)
            have e6 := nq (a := o3) (b := o7) (by omega)
            have e7 := nq (a := o3) (b := M2 + 10) (by omega)
            have e8 := nq (a := o6) (b := o7) (by omega)
            have e9 := nq (a := o6) (b := M2 + 10) (by omega)
            have e10 := nq (a := o7) (b := M2 + 10) (by omega)
            simp -dsimp -implicitDefEqProofs (maxDischargeDepth := 6) [e0, e1, e2, e3, e4, e5, e6, e7, e8, e9, e10]
            exact hK _ _ ⟨rfl, rfl⟩
           rintro a σ ⟨rfl, rfl⟩
           replace H := Option.some.inj H; subst H
           refine AWP_kp [4] [(4, .bool false)] rfl ?_
           have z151 := nq (a := N0 + 25) (b := o3) (by omega)
           have z152 := nq (a := N0 + 25) (b := o6) (by omega)
           have z153 := nq (a := N0 + 25) (b := o7) (by omega)
           have z154 := nq (a := N0 + 25) (b := M2 + 10) (by omega)
           have z155 := nq (a := N0 + 15) (b := M2) (by omega)
           have z156 := nq (a := o3) (b := o6) (by omega)
           have z157 := nq (a := o3) (b := o7) (by omega)
           have z158 := nq (a := o3) (b := M2 + 10) (by omega)
           have z159 := nq (a := o6) (b := o7) (by omega)
           have z160 := nq (a := o6) (b := M2 + 10) (by omega)
           have z161 := nq (a := o7) (b := M2 + 10) (by omega)
           refine AWP_ret ?_
           exact ⟨[.bool false], by simp [z151, z152, z153, z154, z155, z156, z157, z158, z159, z160, z161], 4, by simp [encL_nil, z151, z152, z153, z154, z155, z156, z157, z158, z159, z160, z161]⟩
          ·
           replace H := ifF C10 H
           refine AWP_skip ?_
           show K10 _ _
           refine keepE (l := [1, 2, 6, 7, 8, 9, 12, 13, 14, 17]) (x := [(1, .fsl (encL rBox p1)), (2, .fptr [.fsl (encL rI p0.Regs), .int .i64 p0.Pc, .fsl (encL rI p0.Mem)] 0), (6, .ptr (N0 + 25) 0 0), (7, .fsl (encL rBox r5.2.1)), (8, .fsl (encL rI r5.2.2.1)), (9, .int .i64 r5.2.2.2), (12, .ptr (M2 + 10) 0 0), (13, .sl o6 0 r26.2.length), (14, .sl o7 0 r27.2.length), (17, .int .i64 r27.1)]) rfl fun a' ha => ?_
           refine hK10 _ _ ?_; rw [ha]
           refine Rc.mk ?_
           obtain ⟨r31, hr31, H⟩ := bindE H
           refine AWP_sr tok [] [6, 7, 8, 9, 12, 13, 14, 17, 19, 20, 21, 22] (fun a σ => a = [(6, .ptr (N0 + 25) 0 0), (7, .fsl (encL rBox r5.2.1)), (8, .fsl (encL rI r5.2.2.1)), (9, .int .i64 r5.2.2.2), (12, .ptr (M2 + 10) 0 0), (13, .sl o6 0 r26.2.length), (14, .sl o7 0 r27.2.length), (17, .int .i64 r27.1), (19, .ptr (M8 + 34) 0 0), (20, .fsl (encL rBox r31.2.1)), (21, .fsl (encL rI r31.2.2.1)), (22, .int .i64 r31.2.2.2)] ∧ σ = hp E0 [(N0 + 25, some ⟨28, 3, [[.fsl (encL rI r5.1.Regs), .int .i64 r5.1.Pc, .fsl (encL rI r5.1.Mem)]]⟩), (o3, some ⟨64, 2, encL rBox_o r18.2⟩), (o6, some ⟨64, 2, encL rBox_o r26.2⟩), (o7, some ⟨3, 1, encL rI r27.2⟩), (M2 + 10, some ⟨28, 3, [[.osl 3 1 (encL rI r25.2.Regs), .int .i64 r8.1.Pc, .osl 3 1 (encL rI r25.2.Mem)]]⟩), (M8 + 34, some ⟨28, 3, [[.fsl (encL rI r31.1.Regs), .int .i64 r31.1.Pc, .fsl (encL rI r31.1.Mem)]]⟩)] (M8 + 39)) (fun K hK => ?_) ?_
           ·
            skip
            have e0 := nq (a := N0 + 25) (b := o3) (by omega)
            have e1 := nq (a := N0 + 25) (b := o6) (by omega)
            have e2 := nq (a := N0 + 25) (b := o7) (by omega)
            have e3 := nq (a := N0 + 25) (b := M2 + 10) (by omega)
            have e4 := nq (a := N0 + 15) (b := M2) (by omega)
            have e5 := nq (a := N0 + 25) (b := M8 + 34) (by omega)
            have e6 := nq (a := N0) (b := M8 + 9) (by omega)
            have e7 := nq (a := o3) (b := o6) (by omega)
            have e8 := nq (a := o3) (b := o7) (by omega)
            have e9 := nq (a := o3) (b := M2 + 10) (by omega)
            have e10 := nq (a := o3) (b := M8 + 34) (by omega)
            have e11 := nq (a := o6) (b := o7) (by omega)
            have e12 := nq (a := o6) (b := M2 + 10) (by omega)
            have e13 := nq (a := o6) (b := M8 + 34) (by omega)
            have e14 := nq (a := o7) (b := M2 + 10) (by omega)
            have e15 := nq (a := o7) (b := M8 + 34) (by omega)
            have e16 := nq (a := M2 + 10) (b := M8 + 34) (by omega)
            have e17 := nq (a := M2) (b := M8 + 24) (by omega)
            simp -dsimp -implicitDefEqProofs (maxDischargeDepth := 6) [e0, e1, e2, e3, e4, e5, e6, e7, e8, e9, e10, e11, e12, e13, e14, e15, e16, e17]
            refine (c11 hr3).app ?_; try simp -dsimp -implicitDefEqProofs (maxDischargeDepth := 6) [e0, e1, e2, e3, e4, e5, e6, e7, e8, e9, e10, e11, e12, e13, e14, e15, e16, e17]
            refine (c12 hr4).app ?_; try simp -dsimp -implicitDefEqProofs (maxDischargeDepth := 6) [e0, e1, e2, e3, e4, e5, e6, e7, e8, e9, e10, e11, e12, e13, e14, e15, e16, e17]
            refine (c13 hr31).app ?_; try simp -dsimp -implicitDefEqProofs (maxDischargeDepth := 6) [e0, e1, e2, e3, e4, e5, e6, e7, e8, e9, e10, e11, e12, e13, e14, e15, e16, e17]
            exact hK _ _ ⟨rfl, rfl⟩
           rintro a σ ⟨rfl, rfl⟩
           refine AWP_sq [12, 13, 14, 17] fun K11 hK11 => ?_
           obtain ⟨r32, hr32, H⟩ := bindE H
           obtain ⟨g34, hg34, H⟩ := bindE H
           obtain ⟨g36, hg36, H⟩ := bindE H
           obtain ⟨g37, hg37, H⟩ := bindE H
           refine AWP_sr tok [] [12, 13, 14, 17, 174] (fun a σ => a = [(12, .ptr (M2 + 10) 0 0), (13, .sl o6 0 r26.2.length), (14, .sl o7 0 r27.2.length), (17, .int .i64 r27.1), (174, .bool g37)] ∧ σ = hp E0 [(N0 + 25, some ⟨28, 3, [[.fsl (encL rI r5.1.Regs), .int .i64 r5.1.Pc, .fsl (encL rI r5.1.Mem)]]⟩), (o3, some ⟨64, 2, encL rBox_o r18.2⟩), (o6, some ⟨64, 2, encL rBox_o r26.2⟩), (o7, some ⟨3, 1, encL rI r27.2⟩), (M2 + 10, some ⟨28, 3, [[.osl 3 1 (encL rI r25.2.Regs), .int .i64 r8.1.Pc, .osl 3 1 (encL rI r25.2.Mem)]]⟩), (M8 + 34, some ⟨28, 3, [[.fsl (encL rI r31.1.Regs), .int .i64 r31.1.Pc, .fsl (encL rI r31.1.Mem)]]⟩)] (M8 + 60)) (fun K hK => ?_) ?_
           ·
            skip
            have e0 := nq (a := N0 + 25) (b := o3) (by omega)
            have e1 := nq (a := N0 + 25) (b := o6) (by omega)
            have e2 := nq (a := N0 + 25) (b := o7) (by omega)
            have e3 := nq (a := N0 + 25) (b := M2 + 10) (by omega)
            have e4 := nq (a := N0 + 15) (b := M2) (by omega)
            have e5 := nq (a := N0 + 25) (b := M8 + 34) (by omega)
            have e6 := nq (a := N0) (b := M8 + 9) (by omega)
            have e7 := nq (a := o3) (b := o6) (by omega)
            have e8 := nq (a := o3) (b := o7) (by omega)
            have e9 := nq (a := o3) (b := M2 + 10) (by omega)
            have e10 := nq (a := o3) (b := M8 + 34) (by omega)
            have e11 := nq (a := o6) (b := o7) (by omega)
            have e12 := nq (a := o6) (b := M2 + 10) (by omega)
            have e13 := nq (a := o6) (b := M8 + 34) (by omega)
            have e14 := nq (a := o7) (b := M2 + 10) (by omega)
            have e15 := nq (a := o7) (b := M8 + 34) (by omega)
            have e16 := nq (a := M2 + 10) (b := M8 + 34) (by omega)
            have e17 := nq (a := M2) (b := M8 + 24) (by omega)
            simp -dsimp -implicitDefEqProofs (maxDischargeDepth := 6) [e0, e1, e2, e3, e4, e5, e6, e7, e8, e9, e10, e11, e12, e13, e14, e15, e16, e17]
            refine (c14 hr32).app ?_; try simp -dsimp -implicitDefEqProofs (maxDischargeDepth := 6) [e0, e1, e2, e3, e4, e5, e6, e7, e8, e9, e10, e11, e12, e13, e14, e15, e16, e17]
            cases hbg34 : bnot r32
            ·
             replace hg34 := ifF hbg34 hg34
             obtain ⟨r33, hr33, hg34⟩ := bindE hg34
             replace hg34 := Option.some.inj hg34; subst hg34
             try simp -dsimp -implicitDefEqProofs (maxDischargeDepth := 6) [e0, e1, e2, e3, e4, e5, e6, e7, e8, e9, e10, e11, e12, e13, e14, e15, e16, e17, hbg34]
             refine (c15 hr33).app ?_; try simp -dsimp -implicitDefEqProofs (maxDischargeDepth := 6) [e0, e1, e2, e3, e4, e5, e6, e7, e8, e9, e10, e11, e12, e13, e14, e15, e16, e17, hbg34]
             cases hbg36 : (bnot r33)
             ·
              replace hg36 := ifF hbg36 hg36
              obtain ⟨r35, hr35, hg36⟩ := bindE hg36
              replace hg36 := Option.some.inj hg36; subst hg36
              try simp -dsimp -implicitDefEqProofs (maxDischargeDepth := 6) [e0, e1, e2, e3, e4, e5, e6, e7, e8, e9, e10, e11, e12, e13, e14, e15, e16, e17, hbg34, hbg36]
              refine (c16 hr35).app ?_; try simp -dsimp -implicitDefEqProofs (maxDischargeDepth := 6) [e0, e1, e2, e3, e4, e5, e6, e7, e8, e9, e10, e11, e12, e13, e14, e15, e16, e17, hbg34, hbg36]
              cases hbg37 : (bnot r35)
              ·
               replace hg37 := ifF hbg37 hg37
               replace hg37 := Option.some.inj hg37; subst hg37
               try simp -dsimp -implicitDefEqProofs (maxDischargeDepth := 6) [e0, e1, e2, e3, e4, e5, e6, e7, e8, e9, e10, e11, e12, e13, e14, e15, e16, e17, hbg34, hbg36, hbg37]
               exact hK _ _ ⟨rfl, rfl⟩
              ·
               replace hg37 := ifT hbg37 hg37
               replace hg37 := Option.some.inj hg37; subst hg37
               try simp -dsimp -implicitDefEqProofs (maxDischargeDepth := 6) [e0, e1, e2, e3, e4, e5, e6, e7, e8, e9, e10, e11, e12, e13, e14, e15, e16, e17, hbg34, hbg36, hbg37]
               exact hK _ _ ⟨rfl, rfl⟩
             ·
              replace hg36 := ifT hbg36 hg36
              replace hg36 := Option.some.inj hg36; subst hg36
              try simp -dsimp -implicitDefEqProofs (maxDischargeDepth := 6) [e0, e1, e2, e3, e4, e5, e6, e7, e8, e9, e10, e11, e12, e13, e14, e15, e16, e17, hbg34, hbg36]
              replace hg37 := ifT rfl hg37
              replace hg37 := Option.some.inj hg37; subst hg37
              try simp -dsimp -implicitDefEqProofs (maxDischargeDepth := 6) [e0, e1, e2, e3, e4, e5, e6, e7, e8, e9, e10, e11, e12, e13, e14, e15, e16, e17, hbg34, hbg36]
              exact hK _ _ ⟨rfl, rfl⟩
            ·
             replace hg34 := ifT hbg34 hg34
             replace hg34 := Option.some.inj hg34; subst hg34
             try simp -dsimp -implicitDefEqProofs (maxDischargeDepth := 6) [e0, e1, e2, e3, e4, e5, e6, e7, e8, e9, e10, e11, e12, e13, e14, e15, e16, e17, hbg34]
             replace hg36 := ifT rfl hg36
             replace hg36 := Option.some.inj hg36; subst hg36
             try simp -dsimp -implicitDefEqProofs (maxDischargeDepth := 6) [e0, e1, e2, e3, e4, e5, e6, e7, e8, e9, e10, e11, e12, e13, e14, e15, e16, e17, hbg34]
             replace hg37 := ifT rfl hg37
             replace hg37 := Option.some.inj hg37; subst hg37
             try simp -dsimp -implicitDefEqProofs (maxDischargeDepth := 6) [e0, e1, e2, e3, e4, e5, e6, e7, e8, e9, e10, e11, e12, e13, e14, e15, e16, e17, hbg34]
             exact hK _ _ ⟨rfl, rfl⟩
           rintro a σ ⟨rfl, rfl⟩
           refine AWP_cond g37 rfl (fun C11 => ?_) (fun C11 => ?_)
           ·
            replace H := ifT C11 H
            refine AWP_sr tok [] [4] (fun a σ => a = [(4, .bool false)] ∧ σ = hp E0 [(N0 + 25, some ⟨28, 3, [[.fsl (encL rI r5.1.Regs), .int .i64 r5.1.Pc, .fsl (encL rI r5.1.Mem)]]⟩), (o3, some ⟨64, 2, encL rBox_o r18.2⟩), (o6, some ⟨64, 2, encL rBox_o r26.2⟩), (o7, some ⟨3, 1, encL rI r27.2⟩), (M2 + 10, some ⟨28, 3, [[.osl 3 1 (encL rI r25.2.Regs), .int .i64 r8.1.Pc, .osl 3 1 (encL rI r25.2.Mem)]]⟩), (M8 + 34, some ⟨28, 3, [[.fsl (encL rI r31.1.Regs), .int .i64 r31.1.Pc, .fsl (encL rI r31.1.Mem)]]⟩)] (M8 + 61)) (fun K hK => ?_) ?_
            ·
             skip
             have e0 := nq (a := N0 + 25) (b := o3) (by omega)
             have e1 := nq (a := N0 + 25) (b := o6) (by omega)
             have e2 := nq (a := N0 + 25) (b := o7) (by omega)
             have e3 := nq (a := N0 + 25) (b := M2 + 10) (by omega)
             have e4 := nq (a := N0 + 15) (b := M2) (by omega)
             have e5 := nq (a := N0 + 25) (b := M8 + 34) (by omega)
             have e6 := nq (a := N0) (b := M8 + 9) (by omega)
             have e7 := nq (a := o3) (b := o6) (by omega)
             have e8 := nq (a := o3) (b := o7) (by omega)
             have e9 := nq (a := o3) (b := M2 + 10) (by omega)
             have e10 := nq (a := o3) (b := M8 + 34) (by omega)
             have e11 := nq (a := o6) (b := o7) (by omega)
             have e12 := nq (a := o6) (b := M2 + 10) (by omega)
             have e13 := nq (a := o6) (b := M8 + 34) (by omega)
             have e14 := nq (a := o7) (b := M2 + 10) (by omega)
             have e15 := nq (a := o7) (b := M8 + 34) (by omega)
             have e16 := nq (a := M2 + 10) (b := M8 + 34) (by omega)
             have e17 := nq (a := M2) (b := M8 + 24) (by omega)
             simp -dsimp -implicitDefEqProofs (maxDischargeDepth := 6) [e0, e1, e2, e3, e4, e5, e6, e7, e8, e9, e10, e11, e12, e13, e14, e15, e16, e17]
             exact hK _ _ ⟨rfl, rfl⟩
            rintro a σ ⟨rfl, rfl⟩
            replace H := Option.some.inj H; subst H
            refine AWP_kp [4] [(4, .bool false)] rfl ?_
            have z162 := nq (a := N0 + 25) (b := o3) (by omega)
            have z163 := nq (a := N0 + 25) (b := o6) (by omega)
            have z164 := nq (a := N0 + 25) (b := o7) (by omega)
            have z165 := nq (a := N0 + 25) (b := M2 + 10) (by omega)
            have z166 := nq (a := N0 + 15) (b := M2) (by omega)
            have z167 := nq (a := N0 + 25) (b := M8 + 34) (by omega)
            have z168 := nq (a := N0) (b := M8 + 9) (by omega)
            have z169 := nq (a := o3) (b := o6) (by omega)
            have z170 := nq (a := o3) (b := o7) (by omega)
            have z171 := nq (a := o3) (b := M2 + 10) (by omega)
            have z172 := nq (a := o3) (b := M8 + 34) (by omega)
            have z173 := nq (a := o6) (b := o7) (by omega)
            have z174 := nq (a := o6) (b := M2 + 10) (by omega)
            have z175 := nq (a := o6) (b := M8 + 34) (by omega)
            have z176 := nq (a := o7) (b := M2 + 10) (by omega)
            have z177 := nq (a := o7) (b := M8 + 34) (by omega)
            have z178 := nq (a := M2 + 10) (b := M8 + 34) (by omega)
            have z179 := nq (a := M2) (b := M8 + 24) (by omega)
            refine AWP_ret ?_
            exact ⟨[.bool false], by simp [z162, z163, z164, z165, z166, z167, z168, z169, z170, z171, z172, z173, z174, z175, z176, z177, z178, z179], 4, by simp [encL_nil, z162, z163, z164, z165, z166, z167, z168, z169, z170, z171, z172, z173, z174, z175, z176, z177, z178, z179]⟩
           ·
            replace H := ifF C11 H
            refine AWP_skip ?_
            show K11 _ _
            refine keepE (l := [12, 13, 14, 17]) (x := [(12, .ptr (M2 + 10) 0 0), (13, .sl o6 0 r26.2.length), (14, .sl o7 0 r27.2.length), (17, .int .i64 r27.1)]) rfl fun a' ha => ?_
            refine hK11 _ _ ?_; rw [ha]
            refine Rc.mk ?_
            refine AWP_sr tok [] [12, 13, 14, 17, 18] (fun a σ => a = [(12, .ptr (M2 + 10) 0 0), (13, .sl o6 0 r26.2.length), (14, .sl o7 0 r27.2.length), (17, .int .i64 r27.1), (18, .int .i64 1)] ∧ σ = hp E0 [(N0 + 25, some ⟨28, 3, [[.fsl (encL rI r5.1.Regs), .int .i64 r5.1.Pc, .fsl (encL rI r5.1.Mem)]]⟩), (o3, some ⟨64, 2, encL rBox_o r18.2⟩), (o6, some ⟨64, 2, encL rBox_o r26.2⟩), (o7, some ⟨3, 1, encL rI r27.2⟩), (M2 + 10, some ⟨28, 3, [[.osl 3 1 (encL rI r25.2.Regs), .int .i64 r8.1.Pc, .osl 3 1 (encL rI r25.2.Mem)]]⟩), (M8 + 34, some ⟨28, 3, [[.fsl (encL rI r31.1.Regs), .int .i64 r31.1.Pc, .fsl (encL rI r31.1.Mem)]]⟩)] (M8 + 61)) (fun K hK => ?_) ?_
            ·
             skip
             have e0 := nq (a := N0 + 25) (b := o3) (by omega)
             have e1 := nq (a := N0 + 25) (b := o6) (by omega)
             have e2 := nq (a := N0 + 25) (b := o7) (by omega)
             have e3 := nq (a := N0 + 25) (b := M2 + 10) (by omega)
             have e4 := nq (a := N0 + 15) (b := M2) (by omega)
             have e5 := nq (a := N0 + 25) (b := M8 + 34) (by omega)
             have e6 := nq (a := N0) (b := M8 + 9) (by omega)
             have e7 := nq (a := o3) (b := o6) (by omega)
             have e8 := nq (a := o3) (b := o7) (by omega)
             have e9 := nq (a := o3) (b := M2 + 10) (by omega)
             have e10 := nq (a := o3) (b := M8 + 34) (by omega)
             have e11 := nq (a := o6) (b := o7) (by omega)
             have e12 := nq (a := o6) (b := M2 + 10) (by omega)
             have e13 := nq (a := o6) (b := M8 + 34) (by omega)
             have e14 := nq (a := o7) (b := M2 + 10) (by omega)
             have e15 := nq (a := o7) (b := M8 + 34) (by omega)
             have e16 := nq (a := M2 + 10) (b := M8 + 34) (by omega)
             have e17 := nq (a := M2) (b := M8 + 24) (by omega)
             simp -dsimp -implicitDefEqProofs (maxDischargeDepth := 6) [e0, e1, e2, e3, e4, e5, e6, e7, e8, e9, e10, e11, e12, e13, e14, e15, e16, e17]
             exact hK _ _ ⟨rfl, rfl⟩
            rintro a σ ⟨rfl, rfl⟩
            refine gUnp AWP_ref (ty := 3) (sz := 1) (es := encL rI r25.2.Regs) (o := (M2 + 10)) (ob := ⟨28, 3, [[.osl 3 1 (encL rI r25.2.Regs), .int .i64 r8.1.Pc, .osl 3 1 (encL rI r25.2.Mem)]]⟩) (row := [.osl 3 1 (encL rI r25.2.Regs), .int .i64 r8.1.Pc, .osl 3 1 (encL rI r25.2.Mem)]) (r := 0) (i := 0) [(N0 + 25, some ⟨28, 3, [[.fsl (encL rI r5.1.Regs), .int .i64 r5.1.Pc, .fsl (encL rI r5.1.Mem)]]⟩), (o3, some ⟨64, 2, encL rBox_o r18.2⟩), (o6, some ⟨64, 2, encL rBox_o r26.2⟩), (o7, some ⟨3, 1, encL rI r27.2⟩), (M2 + 10, some ⟨28, 3, [[.sl (M8 + 61) 0 r25.2.Regs.length, .int .i64 r8.1.Pc, .osl 3 1 (encL rI r25.2.Mem)]]⟩), (M8 + 34, some ⟨28, 3, [[.fsl (encL rI r31.1.Regs), .int .i64 r31.1.Pc, .fsl (encL rI r31.1.Mem)]]⟩), (M8 + 61, some ⟨3, 1, encL rI r25.2.Regs⟩)] (by simp (disch := omega)) rfl rfl (by simp (disch := omega) [List.set_set]) ?_
            refine gUnp AWP_ref (ty := 3) (sz := 1) (es := encL rI r25.2.Mem) (o := (M2 + 10)) (ob := ⟨28, 3, [[.sl (M8 + 61) 0 r25.2.Regs.length, .int .i64 r8.1.Pc, .osl 3 1 (encL rI r25.2.Mem)]]⟩) (row := [.sl (M8 + 61) 0 r25.2.Regs.length, .int .i64 r8.1.Pc, .osl 3 1 (encL rI r25.2.Mem)]) (r := 0) (i := 2) [(N0 + 25, some ⟨28, 3, [[.fsl (encL rI r5.1.Regs), .int .i64 r5.1.Pc, .fsl (encL rI r5.1.Mem)]]⟩), (o3, some ⟨64, 2, encL rBox_o r18.2⟩), (o6, some ⟨64, 2, encL rBox_o r26.2⟩), (o7, some ⟨3, 1, encL rI r27.2⟩), (M2 + 10, some ⟨28, 3, [[.sl (M8 + 61) 0 r25.2.Regs.length, .int .i64 r8.1.Pc, .sl (M8 + 62) 0 r25.2.Mem.length]]⟩), (M8 + 34, some ⟨28, 3, [[.fsl (encL rI r31.1.Regs), .int .i64 r31.1.Pc, .fsl (encL rI r31.1.Mem)]]⟩), (M8 + 61, some ⟨3, 1, encL rI r25.2.Regs⟩), (M8 + 62, some ⟨3, 1, encL rI r25.2.Mem⟩)] (by simp (disch := omega)) rfl rfl (by simp (disch := omega) [List.set_set]) ?_
            refine AWP_sr tok [] [13, 14, 17, 18] (fun a σ => a = [(13, .sl o6 0 r26.2.length), (14, .sl o7 0 r27.2.length), (17, .int .i64 r27.1), (18, .int .i64 r28)] ∧ σ = hp E0 [(N0 + 25, some ⟨28, 3, [[.fsl (encL rI r5.1.Regs), .int .i64 r5.1.Pc, .fsl (encL rI r5.1.Mem)]]⟩), (o3, some ⟨64, 2, encL rBox_o r18.2⟩), (o6, some ⟨64, 2, encL rBox_o r26.2⟩), (o7, some ⟨3, 1, encL rI r27.2⟩), (M2 + 10, some ⟨28, 3, [[.sl (M8 + 61) 0 r25.2.Regs.length, .int .i64 r8.1.Pc, .sl (M8 + 62) 0 r25.2.Mem.length]]⟩), (M8 + 34, some ⟨28, 3, [[.fsl (encL rI r31.1.Regs), .int .i64 r31.1.Pc, .fsl (encL rI r31.1.Mem)]]⟩), (M8 + 61, some ⟨3, 1, encL rI r25.2.Regs⟩), (M8 + 62, some ⟨3, 1, encL rI r25.2.Mem⟩)] (M8 + 67)) (fun K hK => ?_) ?_
            ·
             skip
             have e0 := nq (a := N0 + 25) (b := o3) (by omega)
             have e1 := nq (a := N0 + 25) (b := o6) (by omega)
             have e2 := nq (a := N0 + 25) (b := o7) (by omega)
             have e3 := nq (a := N0 + 25) (b := M2 + 10) (by omega)
             have e4 := nq (a := N0 + 15) (b := M2) (by omega)
             have e5 := nq (a := N0 + 25) (b := M8 + 34) (by omega)
             have e6 := nq (a := N0) (b := M8 + 9) (by omega)
             have e7 := nq (a := N0 + 25) (b := M8 + 61) (by omega)
             have e8 := nq (a := N0) (b := M8 + 36) (by omega)
             have e9 := nq (a := N0 + 25) (b := M8 + 62) (by omega)
             have e10 := nq (a := N0) (b := M8 + 37) (by omega)
             have e11 := nq (a := o3) (b := o6) (by omega)
             have e12 := nq (a := o3) (b := o7) (by omega)
             have e13 := nq (a := o3) (b := M2 + 10) (by omega)
             have e14 := nq (a := o3) (b := M8 + 34) (by omega)
             have e15 := nq (a := o3) (b := M8 + 61) (by omega)
             have e16 := nq (a := o3) (b := M8 + 62) (by omega)
             have e17 := nq (a := o6) (b := o7) (by omega)
             have e18 := nq (a := o6) (b := M2 + 10) (by omega)
             have e19 := nq (a := o6) (b := M8 + 34) (by omega)
             have e20 := nq (a := o6) (b := M8 + 61) (by omega)
             have e21 := nq (a := o6) (b := M8 + 62) (by omega)
             have e22 := nq (a := o7) (b := M2 + 10) (by omega)
             have e23 := nq (a := o7) (b := M8 + 34) (by omega)
             have e24 := nq (a := o7) (b := M8 + 61) (by omega)
             have e25 := nq (a := o7) (b := M8 + 62) (by omega)
             have e26 := nq (a := M2 + 10) (b := M8 + 34) (by omega)
             have e27 := nq (a := M2) (b := M8 + 24) (by omega)
             have e28 := nq (a := M2 + 10) (b := M8 + 61) (by omega)
             have e29 := nq (a := M2) (b := M8 + 51) (by omega)
             have e30 := nq (a := M2 + 10) (b := M8 + 62) (by omega)
             have e31 := nq (a := M2) (b := M8 + 52) (by omega)
             simp -dsimp -implicitDefEqProofs (maxDischargeDepth := 6) [e0, e1, e2, e3, e4, e5, e6, e7, e8, e9, e10, e11, e12, e13, e14, e15, e16, e17, e18, e19, e20, e21, e22, e23, e24, e25, e26, e27, e28, e29, e30, e31]
             refine (borrow 8 (c20 hr28) (by simp [e0, e1, e2, e3, e4, e5, e6, e7, e8, e9, e10, e11, e12, e13, e14, e15, e16, e17, e18, e19, e20, e21, e22, e23, e24, e25, e26, e27, e28, e29, e30, e31]) rfl).mono ?_; rintro _ _ ⟨rfl, rfl⟩; try simp -dsimp -implicitDefEqProofs (maxDischargeDepth := 6) [e0, e1, e2, e3, e4, e5, e6, e7, e8, e9, e10, e11, e12, e13, e14, e15, e16, e17, e18, e19, e20, e21, e22, e23, e24, e25, e26, e27, e28, e29, e30, e31]
             exact hK _ _ ⟨rfl, rfl⟩
            rintro a σ ⟨rfl, rfl⟩
            refine AWP_sq [13, 14, 17, 18] fun K12 hK12 => ?_
            refine AWP_sr tok [] [13, 14, 17, 18, 179] (fun a σ => a = [(13, .sl o6 0 r26.2.length), (14, .sl o7 0 r27.2.length), (17, .int .i64 r27.1), (18, .int .i64 r28), (179, .bool (ilt r28 0))] ∧ σ = hp E0 [(N0 + 25, some ⟨28, 3, [[.fsl (encL rI r5.1.Regs), .int .i64 r5.1.Pc, .fsl (encL rI r5.1.Mem)]]⟩), (o3, some ⟨64, 2, encL rBox_o r18.2⟩), (o6, some ⟨64, 2, encL rBox_o r26.2⟩), (o7, some ⟨3, 1, encL rI r27.2⟩), (M2 + 10, some ⟨28, 3, [[.sl (M8 + 61) 0 r25.2.Regs.length, .int .i64 r8.1.Pc, .sl (M8 + 62) 0 r25.2.Mem.length]]⟩), (M8 + 34, some ⟨28, 3, [[.fsl (encL rI r31.1.Regs), .int .i64 r31.1.Pc, .fsl (encL rI r31.1.Mem)]]⟩), (M8 + 61, some ⟨3, 1, encL rI r25.2.Regs⟩), (M8 + 62, some ⟨3, 1, encL rI r25.2.Mem⟩)] (M8 + 69)) (fun K hK => ?_) ?_
            ·
             skip
             have e0 := nq (a := N0 + 25) (b := o3) (by omega)
             have e1 := nq (a := N0 + 25) (b := o6) (by omega)
             have e2 := nq (a := N0 + 25) (b := o7) (by omega)
             have e3 := nq (a := N0 + 25) (b := M2 + 10) (by omega)
             have e4 := nq (a := N0 + 15) (b := M2) (by omega)
             have e5 := nq (a := N0 + 25) (b := M8 + 34) (by omega)
             have e6 := nq (a := N0) (b := M8 + 9) (by omega)
             have e7 := nq (a := N0 + 25) (b := M8 + 61) (by omega)
             have e8 := nq (a := N0) (b := M8 + 36) (by omega)
             have e9 := nq (a := N0 + 25) (b := M8 + 62) (by omega)
             have e10 := nq (a := N0) (b := M8 + 37) (by omega)
             have e11 := nq (a := o3) (b := o6) (by omega)
             have e12 := nq (a := o3) (b := o7) (by omega)
             have e13 := nq (a := o3) (b := M2 + 10) (by omega)
             have e14 := nq (a := o3) (b := M8 + 34) (by omega)
             have e15 := nq (a := o3) (b := M8 + 61) (by omega)
             have e16 := nq (a := o3) (b := M8 + 62) (by omega)
             have e17 := nq (a := o6) (b := o7) (by omega)
             have e18 := nq (a := o6) (b := M2 + 10) (by omega)
             have e19 := nq (a := o6) (b := M8 + 34) (by omega)
             have e20 := nq (a := o6) (b := M8 + 61) (by omega)
             have e21 := nq (a := o6) (b := M8 + 62) (by omega)
             have e22 := nq (a := o7) (b := M2 + 10) (by omega)
             have e23 := nq (a := o7) (b := M8 + 34) (by omega)
             have e24 := nq (a := o7) (b := M8 + 61) (by omega)
             have e25 := nq (a := o7) (b := M8 + 62) (by omega)
             have e26 := nq (a := M2 + 10) (b := M8 + 34) (by omega)
             have e27 := nq (a := M2) (b := M8 + 24) (by omega)
             have e28 := nq (a := M2 + 10) (b := M8 + 61) (by omega)
             have e29 := nq (a := M2) (b := M8 + 51) (by omega)
             have e30 := nq (a := M2 + 10) (b := M8 + 62) (by omega)
             have e31 := nq (a := M2) (b := M8 + 52) (by omega)
             simp -dsimp -implicitDefEqProofs (maxDischargeDepth := 6) [e0, e1, e2, e3, e4, e5, e6, e7, e8, e9, e10, e11, e12, e13, e14, e15, e16, e17, e18, e19, e20, e21, e22, e23, e24, e25, e26, e27, e28, e29, e30, e31]
             exact hK _ _ ⟨rfl, rfl⟩
            rintro a σ ⟨rfl, rfl⟩
            refine AWP_cond (ilt r28 0) rfl (fun C12 => ?_) (fun C12 => ?_)
            ·
             replace H := ifT C12 H
             refine AWP_sr tok [] [4] (fun a σ => a = [(4, .bool false)] ∧ σ = hp E0 [(N0 + 25, some ⟨28, 3, [[.fsl (encL rI r5.1.Regs), .int .i64 r5.1.Pc, .fsl (encL rI r5.1.Mem)]]⟩), (o3, some ⟨64, 2, encL rBox_o r18.2⟩), (o6, some ⟨64, 2, encL rBox_o r26.2⟩), (o7, some ⟨3, 1, encL rI r27.2⟩), (M2 + 10, some ⟨28, 3, [[.sl (M8 + 61) 0 r25.2.Regs.length, .int .i64 r8.1.Pc, .sl (M8 + 62) 0 r25.2.Mem.length]]⟩), (M8 + 34, some ⟨28, 3, [[.fsl (encL rI r31.1.Regs), .int .i64 r31.1.Pc, .fsl (encL rI r31.1.Mem)]]⟩), (M8 + 61, some ⟨3, 1, encL rI r25.2.Regs⟩), (M8 + 62, some ⟨3, 1, encL rI r25.2.Mem⟩)] (M8 + 70)) (fun K hK => ?_) ?_
             ·
              skip
              have e0 := nq (a := N0 + 25) (b := o3) (by omega)
              have e1 := nq (a := N0 + 25) (b := o6) (by omega)
              have e2 := nq (a := N0 + 25) (b := o7) (by omega)
              have e3 := nq (a := N0 + 25) (b := M2 + 10) (by omega)
              have e4 := nq (a := N0 + 15) (b := M2) (by omega)
              have e5 := nq (a := N0 + 25) (b := M8 + 34) (by omega)
              have e6 := nq (a := N0) (b := M8 + 9) (by omega)
              have e7 := nq (a := N0 + 25) (b := M8 + 61) (by omega)
              have e8 := nq (a := N0) (b := M8 + 36) (by omega)
              have e9 := nq (a := N0 + 25) (b := M8 + 62) (by omega)
              have e10 := nq (a := N0) (b := M8 + 37) (by omega)
              have e11 := nq (a := o3) (b := o6) (by omega)
              have e12 := nq (a := o3) (b := o7) (by omega)
              have e13 := nq (a := o3) (b := M2 + 10) (by omega)
              have e14 := nq (a := o3) (b := M8 + 34) (by omega)
              have e15 := nq (a := o3) (b := M8 + 61) (by omega)
              have e16 := nq (a := o3) (b := M8 + 62) (by omega)
              have e17 := nq (a := o6) (b := o7) (by omega)
              have e18 := nq (a := o6) (b := M2 + 10) (by omega)
              have e19 := nq (a := o6) (b := M8 + 34) (by omega)
              have e20 := nq (a := o6) (b := M8 + 61) (by omega)
              have e21 := nq (a := o6) (b := M8 + 62) (by omega)
              have e22 := nq (a := o7) (b := M2 + 10) (by omega)
              have e23 := nq (a := o7) (b := M8 + 34) (by omega)
              have e24 := nq (a := o7) (b := M8 + 61) (by omega)
              have e25 := nq (a := o7) (b := M8 + 62) (by omega)
              have e26 := nq (a := M2 + 10) (b := M8 + 34) (by omega)
              have e27 := nq (a := M2) (b := M8 + 24) (by omega)
              have e28 := nq (a := M2 + 10) (b := M8 + 61) (by omega)
              have e29 := nq (a := M2) (b := M8 + 51) (by omega)
              have e30 := nq (a := M2 + 10) (b := M8 + 62) (by omega)
              have e31 := nq (a := M2) (b := M8 + 52) (by omega)
              simp -dsimp -implicitDefEqProofs (maxDischargeDepth := 6) [e0, e1, e2, e3, e4, e5, e6, e7, e8, e9, e10, e11, e12, e13, e14, e15, e16, e17, e18, e19, e20, e21, e22, e23, e24, e25, e26, e27, e28, e29, e30, e31]
              exact hK _ _ ⟨rfl, rfl⟩
             rintro a σ ⟨rfl, rfl⟩
             replace H := Option.some.inj H; subst H
             refine AWP_kp [4] [(4, .bool false)] rfl ?_
             have z180 := nq (a := N0 + 25) (b := o3) (by omega)
             have z181 := nq (a := N0 + 25) (b := o6) (by omega)
             have z182 := nq (a := N0 + 25) (b := o7) (by omega)
             have z183 := nq (a := N0 + 25) (b := M2 + 10) (by omega)
             have z184 := nq (a := N0 + 15) (b := M2) (by omega)
             have z185 := nq (a := N0 + 25) (b := M8 + 34) (by omega)
             have z186 := nq (a := N0) (b := M8 + 9) (by omega)
             have z187 := nq (a := N0 + 25) (b := M8 + 61) (by omega)
             have z188 := nq (a := N0) (b := M8 + 36) (by omega)
             have z189 := nq (a := N0 + 25) (b := M8 + 62) (by omega)
             have z190 := nq (a := N0) (b := M8 + 37) (by omega)
             have z191 := nq (a := o3) (b := o6) (by omega)
             have z192 := nq (a := o3) (b := o7) (by omega)
             have z193 := nq (a := o3) (b := M2 + 10) (by omega)
             have z194 := nq (a := o3) (b := M8 + 34) (by omega)
             have z195 := nq (a := o3) (b := M8 + 61) (by omega)
             have z196 := nq (a := o3) (b := M8 + 62) (by omega)
             have z197 := nq (a := o6) (b := o7) (by omega)
             have z198 := nq (a := o6) (b := M2 + 10) (by omega)
             have z199 := nq (a := o6) (b := M8 + 34) (by omega)
             have z200 := nq (a := o6) (b := M8 + 61) (by omega)
             have z201 := nq (a := o6) (b := M8 + 62) (by omega)
             have z202 := nq (a := o7) (b := M2 + 10) (by omega)
             have z203 := nq (a := o7) (b := M8 + 34) (by omega)
             have z204 := nq (a := o7) (b := M8 + 61) (by omega)
             have z205 := nq (a := o7) (b := M8 + 62) (by omega)
             have z206 := nq (a := M2 + 10) (b := M8 + 34) (by omega)
             have z207 := nq (a := M2) (b := M8 + 24) (by omega)
             have z208 := nq (a := M2 + 10) (b := M8 + 61) (by omega)
             have z209 := nq (a := M2) (b := M8 + 51) (by omega)
             have z210 := nq (a := M2 + 10) (b := M8 + 62) (by omega)
             have z211 := nq (a := M2) (b := M8 + 52) (by omega)
             refine AWP_ret ?_
             exact ⟨[.bool false], by simp [z180, z181, z182, z183, z184, z185, z186, z187, z188, z189, z190, z191, z192, z193, z194, z195, z196, z197, z198, z199, z200, z201, z202, z203, z204, z205, z206, z207, z208, z209, z210, z211], 4, by simp [encL_nil, z180, z181, z182, z183, z184, z185, z186, z187, z188, z189, z190, z191, z192, z193, z194, z195, z196, z197, z198, z199, z200, z201, z202, z203, z204, z205, z206, z207, z208, z209, z210, z211]⟩
            ·
             replace H := ifF C12 H
             refine AWP_skip ?_
             show K12 _ _
             refine keepE (l := [13, 14, 17, 18]) (x := [(13, .sl o6 0 r26.2.length), (14, .sl o7 0 r27.2.length), (17, .int .i64 r27.1), (18, .int .i64 r28)]) rfl fun a' ha => ?_
             refine hK12 _ _ ?_; rw [ha]
             refine Rc.mk ?_
             refine gDrop AWP_ref [(o6, some ⟨64, 2, encL rBox_o r26.2⟩), (o7, some ⟨3, 1, encL rI r27.2⟩)] (AHeap.Sub.trans (AHeap.Sub.trans (hp_skip (hp_skip (AHeap.Sub.trans (AHeap.Sub.trans (AHeap.Sub.trans (AHeap.Sub.trans (AHeap.Sub.refl _) (hp_drop rfl (by simp; try omega))) (hp_drop rfl (by simp; try omega))) (hp_drop rfl (by simp; try omega))) (hp_drop rfl (by simp; try omega))))) (hp_drop rfl (by simp; try omega))) (hp_drop rfl (by simp; try omega))) ?_
             refine AWP_sr tok [] [14, 17, 18] (fun a σ => a = [(14, .sl o7 0 r27.2.length), (17, .int .i64 r27.1), (18, .int .i64 r29)] ∧ σ = hp E0 [(o6, some ⟨64, 2, encL rBox_o r26.2⟩), (o7, some ⟨3, 1, encL rI r27.2⟩)] (M8 + 73)) (fun K hK => ?_) ?_
             ·
              skip
              have e0 := nq (a := o6) (b := o7) (by omega)
              simp -dsimp -implicitDefEqProofs (maxDischargeDepth := 6) [e0]
              refine (borrow 8 (c21 hr29) (by simp [e0]) rfl).mono ?_; rintro _ _ ⟨rfl, rfl⟩; try simp -dsimp -implicitDefEqProofs (maxDischargeDepth := 6) [e0]
              exact hK _ _ ⟨rfl, rfl⟩
             rintro a σ ⟨rfl, rfl⟩
             refine AWP_sq [14, 17, 18] fun K13 hK13 => ?_
             refine AWP_sr tok [] [14, 17, 18, 184] (fun a σ => a = [(14, .sl o7 0 r27.2.length), (17, .int .i64 r27.1), (18, .int .i64 r29), (184, .bool (ilt r29 0))] ∧ σ = hp E0 [(o6, some ⟨64, 2, encL rBox_o r26.2⟩), (o7, some ⟨3, 1, encL rI r27.2⟩)] (M8 + 75)) (fun K hK => ?_) ?_
             ·
              skip
              have e0 := nq (a := o6) (b := o7) (by omega)
              simp -dsimp -implicitDefEqProofs (maxDischargeDepth := 6) [e0]
              exact hK _ _ ⟨rfl, rfl⟩
             rintro a σ ⟨rfl, rfl⟩
             refine AWP_cond (ilt r29 0) rfl (fun C13 => ?_) (fun C13 => ?_)
             ·
              replace H := ifT C13 H
              refine AWP_sr tok [] [4] (fun a σ => a = [(4, .bool false)] ∧ σ = hp E0 [(o6, some ⟨64, 2, encL rBox_o r26.2⟩), (o7, some ⟨3, 1, encL rI r27.2⟩)] (M8 + 76)) (fun K hK => ?_) ?_
              ·
               skip
               have e0 := nq (a := o6) (b := o7) (by omega)
               simp -dsimp -implicitDefEqProofs (maxDischargeDepth := 6) [e0]
               exact hK _ _ ⟨rfl, rfl⟩
              rintro a σ ⟨rfl, rfl⟩
              replace H := Option.some.inj H; subst H
              refine AWP_kp [4] [(4, .bool false)] rfl ?_
              have z212 := nq (a := o6) (b := o7) (by omega)
              refine AWP_ret ?_
              exact ⟨[.bool false], by simp [z212], 4, by simp [encL_nil, z212]⟩
             ·
              replace H := ifF C13 H
              refine AWP_skip ?_
              show K13 _ _
              refine keepE (l := [14, 17, 18]) (x := [(14, .sl o7 0 r27.2.length), (17, .int .i64 r27.1), (18, .int .i64 r29)]) rfl fun a' ha => ?_
              refine hK13 _ _ ?_; rw [ha]
              refine Rc.mk ?_
              refine AWP_sr tok [] [17, 18] (fun a σ => a = [(17, .int .i64 r27.1), (18, .int .i64 r30)] ∧ σ = hp E0 [(o6, some ⟨64, 2, encL rBox_o r26.2⟩), (o7, some ⟨3, 1, encL rI r27.2⟩)] (M8 + 79)) (fun K hK => ?_) ?_
              ·
               skip
               have e0 := nq (a := o6) (b := o7) (by omega)
               simp -dsimp -implicitDefEqProofs (maxDischargeDepth := 6) [e0]
               refine (borrow 8 (c22 hr30) (by simp [e0]) rfl).mono ?_; rintro _ _ ⟨rfl, rfl⟩; try simp -dsimp -implicitDefEqProofs (maxDischargeDepth := 6) [e0]
               exact hK _ _ ⟨rfl, rfl⟩
              rintro a σ ⟨rfl, rfl⟩
              refine AWP_sq [17, 18] fun K14 hK14 => ?_
              refine AWP_sr tok [] [17, 18, 189] (fun a σ => a = [(17, .int .i64 r27.1), (18, .int .i64 r30), (189, .bool (ilt r30 0))] ∧ σ = hp E0 [(o6, some ⟨64, 2, encL rBox_o r26.2⟩), (o7, some ⟨3, 1, encL rI r27.2⟩)] (M8 + 81)) (fun K hK => ?_) ?_
              ·
               skip
               have e0 := nq (a := o6) (b := o7) (by omega)
               simp -dsimp -implicitDefEqProofs (maxDischargeDepth := 6) [e0]
               exact hK _ _ ⟨rfl, rfl⟩
              rintro a σ ⟨rfl, rfl⟩
              refine AWP_cond (ilt r30 0) rfl (fun C14 => ?_) (fun C14 => ?_)
              ·
               replace H := ifT C14 H
               refine AWP_sr tok [] [4] (fun a σ => a = [(4, .bool false)] ∧ σ = hp E0 [(o6, some ⟨64, 2, encL rBox_o r26.2⟩), (o7, some ⟨3, 1, encL rI r27.2⟩)] (M8 + 82)) (fun K hK => ?_) ?_
               ·
                skip
                have e0 := nq (a := o6) (b := o7) (by omega)
                simp -dsimp -implicitDefEqProofs (maxDischargeDepth := 6) [e0]
                exact hK _ _ ⟨rfl, rfl⟩
               rintro a σ ⟨rfl, rfl⟩
               replace H := Option.some.inj H; subst H
               refine AWP_kp [4] [(4, .bool false)] rfl ?_
               have z213 := nq (a := o6) (b := o7) (by omega)
               refine AWP_ret ?_
               exact ⟨[.bool false], by simp [z213], 4, by simp [encL_nil, z213]⟩
              ·
               replace H := ifF C14 H
               refine AWP_skip ?_
               show K14 _ _
               refine keepE (l := [17, 18]) (x := [(17, .int .i64 r27.1), (18, .int .i64 r30)]) rfl fun a' ha => ?_
               refine hK14 _ _ ?_; rw [ha]
               refine Rc.mk ?_
               refine AWP_sq [] fun K15 hK15 => ?_
               refine AWP_sr tok [] [192] (fun a σ => a = [(192, .bool (ine r30 r27.1))] ∧ σ = hp E0 [(o6, some ⟨64, 2, encL rBox_o r26.2⟩), (o7, some ⟨3, 1, encL rI r27.2⟩)] (M8 + 84)) (fun K hK => ?_) ?_
               ·
                skip
                have e0 := nq (a := o6) (b := o7) (by omega)
                simp -dsimp -implicitDefEqProofs (maxDischargeDepth := 6) [e0]
                exact hK _ _ ⟨rfl, rfl⟩
               rintro a σ ⟨rfl, rfl⟩
               refine AWP_cond (ine r30 r27.1) rfl (fun C15 => ?_) (fun C15 => ?_)
               ·
                replace H := ifT C15 H
                refine AWP_sr tok [] [4] (fun a σ => a = [(4, .bool false)] ∧ σ = hp E0 [(o6, some ⟨64, 2, encL rBox_o r26.2⟩), (o7, some ⟨3, 1, encL rI r27.2⟩)] (M8 + 85)) (fun K hK => ?_) ?_
                ·
                 skip
                 have e0 := nq (a := o6) (b := o7) (by omega)
                 simp -dsimp -implicitDefEqProofs (maxDischargeDepth := 6) [e0]
                 exact hK _ _ ⟨rfl, rfl⟩
                rintro a σ ⟨rfl, rfl⟩
                replace H := Option.some.inj H; subst H
                refine AWP_kp [4] [(4, .bool false)] rfl ?_
                have z214 := nq (a := o6) (b := o7) (by omega)
                refine AWP_ret ?_
                exact ⟨[.bool false], by simp [z214], 4, by simp [encL_nil, z214]⟩
               ·
                replace H := ifF C15 H
                refine AWP_skip ?_
                show K15 _ _
                refine keepE (l := []) (x := []) rfl fun a' ha => ?_
                refine hK15 _ _ ?_; rw [ha]
                refine Rc.mk ?_
                refine AWP_sr tok [] [4] (fun a σ => a = [(4, .bool true)] ∧ σ = hp E0 [(o6, some ⟨64, 2, encL rBox_o r26.2⟩), (o7, some ⟨3, 1, encL rI r27.2⟩)] (M8 + 85)) (fun K hK => ?_) ?_
                ·
                 skip
                 have e0 := nq (a := o6) (b := o7) (by omega)
                 simp -dsimp -implicitDefEqProofs (maxDischargeDepth := 6) [e0]
                 exact hK _ _ ⟨rfl, rfl⟩
                rintro a σ ⟨rfl, rfl⟩
                replace H := Option.some.inj H; subst H
                refine AWP_kp [4] [(4, .bool true)] rfl ?_
                have z215 := nq (a := o6) (b := o7) (by omega)
                refine AWP_ret ?_
                exact ⟨[.bool true], by simp [z215], 4, by simp [encL_nil, z215]⟩
end Go.Proofs.Ytoklfbdcghgmlaa
