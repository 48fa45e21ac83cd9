/- The contracts of functions of the program, part 3: each computes what its mirror computes. No conditions. -/
import Derived.Test.YtoklfbdcghgmlaaNYT2
set_option linter.unusedSimpArgs false
set_option linter.unusedVariables false
set_option maxRecDepth 20000
set_option maxHeartbeats 4000000
namespace Go.Proofs.Ytoklfbdcghgmlaa
open Go Go.Abs Go.RowKit

theorem c26_o4 {p0 : gSquad} {r : gOutcome} (H : i_SquadOutcome_o4 p0 = some r) {σ : AHeap} : ACalls Try.prog G 26 [.agg [.fsl (encL rMachine p0.Harts), .fsl (encL rBox p0.Boxes), .int .i64 p0.Turn, .int .i64 p0.Idle, .fsl (encL rI p0.Out)]] σ (fun v σ' => ∃ M n0 n1 n2 : Nat, σ.next ≤ M ∧ σ.next ≤ n0 ∧ n0 < M ∧ σ.next ≤ n1 ∧ n1 < M ∧ σ.next ≤ n2 ∧ n2 < M ∧ ¬ n0 = n1 ∧ ¬ n0 = n2 ∧ ¬ n1 = n2 ∧ v = .agg [.sl n0 0 r.Out.length, .sl n1 0 r.Items.length, .sl n2 0 r.Ended.length, .bool r.Rest] ∧ σ' = hp σ.objs [(n0, some ⟨3, 1, encL rI r.Out⟩), (n1, some ⟨22, 1, encL rL_I_o r.Items⟩), (n2, some ⟨4, 1, encL rB r.Ended⟩)] M) := by
 refine ACalls_fr (L := []) (Q1 := fun v σ' => ∃ M n0 n1 n2 : Nat, σ.next ≤ M ∧ σ.next ≤ n0 ∧ n0 < M ∧ σ.next ≤ n1 ∧ n1 < M ∧ σ.next ≤ n2 ∧ n2 < M ∧ ¬ n0 = n1 ∧ ¬ n0 = n2 ∧ ¬ n1 = n2 ∧ v = .agg [.sl n0 0 r.Out.length, .sl n1 0 r.Items.length, .sl n2 0 r.Ended.length, .bool r.Rest] ∧ σ' = hp E0 [(n0, some ⟨3, 1, encL rI r.Out⟩), (n1, some ⟨22, 1, encL rL_I_o r.Items⟩), (n2, some ⟨4, 1, encL rB r.Ended⟩)] M) (by simp []) (fun hlt => ?_) ?_ ⟨_, Try.func26, rfl, rfl⟩
 rotate_left
 ·
  rintro v σ1 ⟨M, n0, n1, n2, h0, h1, h2, h3, h4, h5, h6, h7, h8, h9, rfl, rfl⟩
  exact ⟨_, M, rfl, by simp, by simp; try omega, M, n0, n1, n2, h0, h1, h2, h3, h4, h5, h6, h7, h8, h9, rfl, rfl⟩
 generalize σ.next = N0 at hlt ⊢
 refine ACalls_thaw 4 ?_
 refine ACalls_fn tok Try.func26 (by kernel_rfl) rfl Try.ntmps26 Try.results26 rfl ?_
 simp only [argsA, Nat.reduceAdd, hp_next]
 unfold i_SquadOutcome_o4 at H
 refine AWP_sr tok [0] [1, 2] (fun a σ => a = [(1, .fptr [.fsl (encL rMachine p0.Harts), .fsl (encL rBox p0.Boxes), .int .i64 p0.Turn, .int .i64 p0.Idle, .fsl (encL rI p0.Out)] 0), (2, .ptr (N0 + 1) 0 0)] ∧ σ = hp E0 [(N0 + 1, some ⟨48, 4, [[.nilsl, .nilsl, .nilsl, .bool false]]⟩)] (N0 + 2)) (fun K hK => ?_) ?_
 ·
  skip
  simp -dsimp -implicitDefEqProofs (maxDischargeDepth := 6)
  exact hK _ _ ⟨rfl, rfl⟩
 rintro a σ ⟨rfl, rfl⟩
 refine AWP_sq [1, 2] fun K1 hK1 => ?_
 refine gPk0 AWP_ref (o := (N0 + 1)) (ob := ⟨48, 4, [[.nilsl, .nilsl, .nilsl, .bool false]]⟩) (row := [.nilsl, .nilsl, .nilsl, .bool false]) (r := 0) (i := 0) 3 1 [(N0 + 1, some ⟨48, 4, [[.osl 3 1 (encL rI ([] : List Int)), .nilsl, .nilsl, .bool false]]⟩)] (by simp (disch := omega)) rfl rfl (by simp (disch := omega)) (by simp (disch := omega) [encL_nil, List.set_set, app_set]) ?_
 refine gPk0 AWP_ref (o := (N0 + 1)) (ob := ⟨48, 4, [[.osl 3 1 (encL rI ([] : List Int)), .nilsl, .nilsl, .bool false]]⟩) (row := [.osl 3 1 (encL rI ([] : List Int)), .nilsl, .nilsl, .bool false]) (r := 0) (i := 1) 22 1 [(N0 + 1, some ⟨48, 4, [[.osl 3 1 (encL rI ([] : List Int)), .osl 22 1 (encL rL_I_o ([] : List (List Int))), .nilsl, .bool false]]⟩)] (by simp (disch := omega)) rfl rfl (by simp (disch := omega)) (by simp (disch := omega) [encL_nil, List.set_set, app_set]) ?_
 refine gPk0 AWP_ref (o := (N0 + 1)) (ob := ⟨48, 4, [[.osl 3 1 (encL rI ([] : List Int)), .osl 22 1 (encL rL_I_o ([] : List (List Int))), .nilsl, .bool false]]⟩) (row := [.osl 3 1 (encL rI ([] : List Int)), .osl 22 1 (encL rL_I_o ([] : List (List Int))), .nilsl, .bool false]) (r := 0) (i := 2) 4 1 [(N0 + 1, some ⟨48, 4, [[.osl 3 1 (encL rI ([] : List Int)), .osl 22 1 (encL rL_I_o ([] : List (List Int))), .osl 4 1 (encL rB ([] : List Bool)), .bool false]]⟩)] (by simp (disch := omega)) rfl rfl (by simp (disch := omega)) (by simp (disch := omega) [encL_nil, List.set_set, app_set]) ?_
 obtain ⟨r1, hr1, H⟩ := bindE H
 refine AWP_sr tok [] [1, 2, 8] (fun a σ => a = [(1, .fptr [.fsl (encL rMachine p0.Harts), .fsl (encL rBox p0.Boxes), .int .i64 p0.Turn, .int .i64 p0.Idle, .fsl (encL rI p0.Out)] 0), (2, .ptr (N0 + 1) 0 0), (8, .bool (bnot r1))] ∧ σ = hp E0 [(N0 + 1, some ⟨48, 4, [[.osl 3 1 (encL rI ([] : List Int)), .osl 22 1 (encL rL_I_o ([] : List (List Int))), .osl 4 1 (encL rB ([] : List Bool)), .bool false]]⟩)] (N0 + 5)) (fun K hK => ?_) ?_
 ·
  skip
  simp -dsimp -implicitDefEqProofs (maxDischargeDepth := 6)
  refine (c60 hr1).app ?_; try simp -dsimp -implicitDefEqProofs (maxDischargeDepth := 6)
  exact hK _ _ ⟨rfl, rfl⟩
 rintro a σ ⟨rfl, rfl⟩
 refine AWP_cond (bnot r1) rfl (fun C1 => ?_) (fun C1 => ?_)
 ·
  replace H := ifT C1 H
  refine AWP_sr tok [0] [2] (fun a σ => a = [(2, .ptr (N0 + 1) 0 0)] ∧ σ = hp E0 [(N0 + 1, some ⟨48, 4, [[.nilsl, .nilsl, .nilsl, .bool false]]⟩)] (N0 + 7)) (fun K hK => ?_) ?_
  ·
   skip
   simp -dsimp -implicitDefEqProofs (maxDischargeDepth := 6)
   exact hK _ _ ⟨rfl, rfl⟩
  rintro a σ ⟨rfl, rfl⟩
  replace H := Option.some.inj H; subst H
  refine AWP_kp [2] [(2, .ptr (N0 + 1) 0 0)] rfl ?_
  refine gPk0 AWP_ref (o := (N0 + 1)) (ob := ⟨48, 4, [[.nilsl, .nilsl, .nilsl, .bool false]]⟩) (row := [.nilsl, .nilsl, .nilsl, .bool false]) (r := 0) (i := 0) 3 1 [(N0 + 1, some ⟨48, 4, [[.osl 3 1 (encL rI ([] : List Int)), .nilsl, .nilsl, .bool false]]⟩)] (by simp (disch := omega)) rfl rfl (by simp (disch := omega)) (by simp (disch := omega) [encL_nil, List.set_set, app_set]) ?_
  refine gPk0 AWP_ref (o := (N0 + 1)) (ob := ⟨48, 4, [[.osl 3 1 (encL rI ([] : List Int)), .nilsl, .nilsl, .bool false]]⟩) (row := [.osl 3 1 (encL rI ([] : List Int)), .nilsl, .nilsl, .bool false]) (r := 0) (i := 1) 22 1 [(N0 + 1, some ⟨48, 4, [[.osl 3 1 (encL rI ([] : List Int)), .osl 22 1 (encL rL_I_o ([] : List (List Int))), .nilsl, .bool false]]⟩)] (by simp (disch := omega)) rfl rfl (by simp (disch := omega)) (by simp (disch := omega) [encL_nil, List.set_set, app_set]) ?_
  refine gPk0 AWP_ref (o := (N0 + 1)) (ob := ⟨48, 4, [[.osl 3 1 (encL rI ([] : List Int)), .osl 22 1 (encL rL_I_o ([] : List (List Int))), .nilsl, .bool false]]⟩) (row := [.osl 3 1 (encL rI ([] : List Int)), .osl 22 1 (encL rL_I_o ([] : List (List Int))), .nilsl, .bool false]) (r := 0) (i := 2) 4 1 [(N0 + 1, some ⟨48, 4, [[.osl 3 1 (encL rI ([] : List Int)), .osl 22 1 (encL rL_I_o ([] : List (List Int))), .osl 4 1 (encL rB ([] : List Bool)), .bool false]]⟩)] (by simp (disch := omega)) rfl rfl (by simp (disch := omega)) (by simp (disch := omega) [encL_nil, List.set_set, app_set]) ?_
  refine gUnp AWP_ref (ty := 3) (sz := 1) (es := encL rI ([] : List Int)) (o := (N0 + 1)) (ob := ⟨48, 4, [[.osl 3 1 (encL rI ([] : List Int)), .osl 22 1 (encL rL_I_o ([] : List (List Int))), .osl 4 1 (encL rB ([] : List Bool)), .bool false]]⟩) (row := [.osl 3 1 (encL rI ([] : List Int)), .osl 22 1 (encL rL_I_o ([] : List (List Int))), .osl 4 1 (encL rB ([] : List Bool)), .bool false]) (r := 0) (i := 0) [(N0 + 1, some ⟨48, 4, [[.sl (N0 + 7) 0 ([] : List Int).length, .osl 22 1 (encL rL_I_o ([] : List (List Int))), .osl 4 1 (encL rB ([] : List Bool)), .bool false]]⟩), (N0 + 7, some ⟨3, 1, encL rI ([] : List Int)⟩)] (by simp (disch := omega)) rfl rfl (by simp (disch := omega) [List.set_set]) ?_
  refine gUnp AWP_ref (ty := 22) (sz := 1) (es := encL rL_I_o ([] : List (List Int))) (o := (N0 + 1)) (ob := ⟨48, 4, [[.sl (N0 + 7) 0 ([] : List Int).length, .osl 22 1 (encL rL_I_o ([] : List (List Int))), .osl 4 1 (encL rB ([] : List Bool)), .bool false]]⟩) (row := [.sl (N0 + 7) 0 ([] : List Int).length, .osl 22 1 (encL rL_I_o ([] : List (List Int))), .osl 4 1 (encL rB ([] : List Bool)), .bool false]) (r := 0) (i := 1) [(N0 + 1, some ⟨48, 4, [[.sl (N0 + 7) 0 ([] : List Int).length, .sl (N0 + 8) 0 ([] : List (List Int)).length, .osl 4 1 (encL rB ([] : List Bool)), .bool false]]⟩), (N0 + 7, some ⟨3, 1, encL rI ([] : List Int)⟩), (N0 + 8, some ⟨22, 1, encL rL_I_o ([] : List (List Int))⟩)] (by simp (disch := omega)) rfl rfl (by simp (disch := omega) [List.set_set]) ?_
  refine gUnp AWP_ref (ty := 4) (sz := 1) (es := encL rB ([] : List Bool)) (o := (N0 + 1)) (ob := ⟨48, 4, [[.sl (N0 + 7) 0 ([] : List Int).length, .sl (N0 + 8) 0 ([] : List (List Int)).length, .osl 4 1 (encL rB ([] : List Bool)), .bool false]]⟩) (row := [.sl (N0 + 7) 0 ([] : List Int).length, .sl (N0 + 8) 0 ([] : List (List Int)).length, .osl 4 1 (encL rB ([] : List Bool)), .bool false]) (r := 0) (i := 2) [(N0 + 1, some ⟨48, 4, [[.sl (N0 + 7) 0 ([] : List Int).length, .sl (N0 + 8) 0 ([] : List (List Int)).length, .sl (N0 + 9) 0 ([] : List Bool).length, .bool false]]⟩), (N0 + 7, some ⟨3, 1, encL rI ([] : List Int)⟩), (N0 + 8, some ⟨22, 1, encL rL_I_o ([] : List (List Int))⟩), (N0 + 9, some ⟨4, 1, encL rB ([] : List Bool)⟩)] (by simp (disch := omega)) rfl rfl (by simp (disch := omega) [List.set_set]) ?_
  refine AWP_ret ?_
  refine ⟨[.agg [.sl (N0 + 7) 0 ([] : List Int).length, .sl (N0 + 8) 0 ([] : List (List Int)).length, .sl (N0 + 9) 0 ([] : List Bool).length, .bool false]], by simp, (fun o => [N0 + 1].contains o), N0 + 10, N0 + 7, N0 + 8, N0 + 9, by omega, by omega, by omega, by omega, by omega, by omega, by omega, by omega, by omega, by omega, ?_, ?_⟩
  ·
   simp [encL_nil]
  ·
   rw [cutD (L' := [(N0 + 7, some ⟨3, 1, encL rI ([] : List Int)⟩), (N0 + 8, some ⟨22, 1, encL rL_I_o ([] : List (List Int))⟩), (N0 + 9, some ⟨4, 1, encL rB ([] : List Bool)⟩)]) (by simp)]
   first | done | rfl | simp [List.set_set]
 ·
  replace H := ifF C1 H
  refine AWP_skip ?_
  show K1 _ _
  refine keepE (l := [1, 2]) (x := [(1, .fptr [.fsl (encL rMachine p0.Harts), .fsl (encL rBox p0.Boxes), .int .i64 p0.Turn, .int .i64 p0.Idle, .fsl (encL rI p0.Out)] 0), (2, .ptr (N0 + 1) 0 0)]) rfl fun a' ha => ?_
  refine hK1 _ _ ?_; rw [ha]
  refine Rc.mk ?_
  obtain ⟨r2, hr2, H⟩ := bindE H
  refine AWP_sr tok [] [1, 2, 3] (fun a σ => ∃ M1 o1 o2 o3 : Nat, N0 + 18 ≤ M1 ∧ N0 + 18 ≤ o1 ∧ o1 < M1 ∧ N0 + 18 ≤ o2 ∧ o2 < M1 ∧ N0 + 18 ≤ o3 ∧ o3 < M1 ∧ ¬ o1 = o2 ∧ ¬ o1 = o3 ∧ ¬ o2 = o3 ∧ a = [(1, .fptr [.fsl (encL rMachine p0.Harts), .fsl (encL rBox p0.Boxes), .int .i64 p0.Turn, .int .i64 p0.Idle, .fsl (encL rI p0.Out)] 0), (2, .ptr (N0 + 1) 0 0), (3, .ptr (N0 + 16) 0 0)] ∧ σ = hp E0 [(N0 + 1, some ⟨48, 4, [[.osl 3 1 (encL rI ([] : List Int)), .osl 22 1 (encL rL_I_o ([] : List (List Int))), .osl 4 1 (encL rB ([] : List Bool)), .bool false]]⟩), (o1, some ⟨3, 1, encL rI r2.Out⟩), (o2, some ⟨22, 1, encL rL_I_o r2.Items⟩), (o3, some ⟨4, 1, encL rB r2.Ended⟩), (N0 + 16, some ⟨48, 4, [[.sl o1 0 r2.Out.length, .sl o2 0 r2.Items.length, .sl o3 0 r2.Ended.length, .bool r2.Rest]]⟩)] M1) (fun K hK => ?_) ?_
  ·
   skip
   simp -dsimp -implicitDefEqProofs (maxDischargeDepth := 6)
   refine (c61_o4 (H := hr2) ).mono ?_; rintro _ _ ⟨M1, o1, o2, o3, fM1_0, fM1_1, fM1_2, fM1_3, fM1_4, fM1_5, fM1_6, fM1_7, fM1_8, fM1_9, rfl, rfl⟩; simp only [hp_next] at fM1_0 fM1_1 fM1_2 fM1_3 fM1_4 fM1_5 fM1_6 fM1_7 fM1_8 fM1_9
   have eM1_0 := nq (a := o1) (b := N0 + 1) (by omega)
   have eM1_1 := nq (a := o1) (b := N0 + 16) (by omega)
   have eM1_2 := nq (a := o1) (b := o2) (by omega)
   have eM1_3 := nq (a := o1) (b := o3) (by omega)
   have eM1_4 := nq (a := o2) (b := N0 + 1) (by omega)
   have eM1_5 := nq (a := o2) (b := N0 + 16) (by omega)
   have eM1_6 := nq (a := o2) (b := o3) (by omega)
   have eM1_7 := nq (a := o3) (b := N0 + 1) (by omega)
   have eM1_8 := nq (a := o3) (b := N0 + 16) (by omega)
   try simp -dsimp -implicitDefEqProofs (maxDischargeDepth := 6) [eM1_0, eM1_1, eM1_2, eM1_3, eM1_4, eM1_5, eM1_6, eM1_7, eM1_8, hp_over_some, hp_over_none]
   exact hK _ _ ⟨M1, o1, o2, o3, (by omega), (by omega), (by omega), (by omega), (by omega), (by omega), (by omega), (by omega), (by omega), (by omega), rfl, rfl⟩
  rintro a σ ⟨M1, o1, o2, o3, fM1_0, fM1_1, fM1_2, fM1_3, fM1_4, fM1_5, fM1_6, fM1_7, fM1_8, fM1_9, rfl, rfl⟩
  refine AWP_sq [2, 3] fun K2 hK2 => ?_
  refine AWP_sr tok [] [2, 3, 22, 23, 24] (fun a σ => a = [(2, .ptr (N0 + 1) 0 0), (3, .ptr (N0 + 16) 0 0), (22, .fsl (encL rMachine p0.Harts)), (23, .int .i64 (ilen p0.Harts)), (24, .int .i64 0)] ∧ σ = hp E0 [(N0 + 1, some ⟨48, 4, [[.osl 3 1 (encL rI ([] : List Int)), .osl 22 1 (encL rL_I_o ([] : List (List Int))), .osl 4 1 (encL rB ([] : List Bool)), .bool false]]⟩), (o1, some ⟨3, 1, encL rI r2.Out⟩), (o2, some ⟨22, 1, encL rL_I_o r2.Items⟩), (o3, some ⟨4, 1, encL rB r2.Ended⟩), (N0 + 16, some ⟨48, 4, [[.sl o1 0 r2.Out.length, .sl o2 0 r2.Items.length, .sl o3 0 r2.Ended.length, .bool r2.Rest]]⟩)] (M1 + 4)) (fun K hK => ?_) ?_
  ·
   skip
   have e0 := nq (a := N0 + 1) (b := o1) (by omega)
   have e1 := nq (a := N0 + 1) (b := o2) (by omega)
   have e2 := nq (a := N0 + 1) (b := o3) (by omega)
   have e3 := nq (a := o1) (b := o2) (by omega)
   have e4 := nq (a := o1) (b := o3) (by omega)
   have e5 := nq (a := o1) (b := N0 + 16) (by omega)
   have e6 := nq (a := o2) (b := o3) (by omega)
   have e7 := nq (a := o2) (b := N0 + 16) (by omega)
   have e8 := nq (a := o3) (b := N0 + 16) (by omega)
   simp -dsimp -implicitDefEqProofs (maxDischargeDepth := 6) [e0, e1, e2, e3, e4, e5, e6, e7, e8]
   exact hK _ _ ⟨rfl, rfl⟩
  rintro a σ ⟨rfl, rfl⟩
  refine AWP_block (AWP_thenB ?_)
  obtain ⟨e1, hse1, H⟩ := bindE H
  refine AWP_lp [2, 3, 22, 23, 24] (fun s a σ => ∃ M2 o4 o5 : Nat, N0 ≤ M2 ∧ N0 ≤ o4 ∧ o4 < M2 ∧ N0 ≤ o5 ∧ o5 < M2 ∧ ¬ o4 = o5 ∧ a = [(2, .ptr o4 0 0), (3, .ptr o5 0 0), (22, .fsl (encL rMachine p0.Harts)), (23, .int .i64 (ilen p0.Harts)), (24, .int .i64 s.1)] ∧ σ = hp E0 [(o4, some ⟨48, 4, [[.osl 3 1 (encL rI s.2.1.Out), .osl 22 1 (encL rL_I_o s.2.1.Items), .osl 4 1 (encL rB s.2.1.Ended), .bool s.2.1.Rest]]⟩), (o5, some ⟨48, 4, [[.osl 3 1 (encL rI s.2.2.Out), .osl 22 1 (encL rL_I_o s.2.2.Items), .osl 4 1 (encL rB s.2.2.Ended), .bool s.2.2.Rest]]⟩)] M2) (fun s x a σ => x = .exit 0 ∧ Rc G 45 N0 (fun a σ => ∃ M3 o6 o7 : Nat, N0 ≤ M3 ∧ N0 ≤ o6 ∧ o6 < M3 ∧ N0 ≤ o7 ∧ o7 < M3 ∧ ¬ o6 = o7 ∧ a = [(2, .ptr o6 0 0), (3, .ptr o7 0 0)] ∧ σ = hp E0 [(o6, some ⟨48, 4, [[.osl 3 1 (encL rI s.1.Out), .osl 22 1 (encL rL_I_o s.1.Items), .osl 4 1 (encL rB s.1.Ended), .bool s.1.Rest]]⟩), (o7, some ⟨48, 4, [[.osl 3 1 (encL rI s.2.Out), .osl 22 1 (encL rL_I_o s.2.Items), .osl 4 1 (encL rB s.2.Ended), .bool s.2.Rest]]⟩)] M3) (AAct.keep a [2, 3]) σ) hse1 ?_ ?_ ?_
  ·
   refine Rc.kp [2, 3, 22, 23, 24] [(2, .ptr (N0 + 1) 0 0), (3, .ptr (N0 + 16) 0 0), (22, .fsl (encL rMachine p0.Harts)), (23, .int .i64 (ilen p0.Harts)), (24, .int .i64 0)] rfl ?_
   refine gPk Rc_ref (k := r2.Out.length) (o := (N0 + 16)) (ob := ⟨48, 4, [[.sl o1 0 r2.Out.length, .sl o2 0 r2.Items.length, .sl o3 0 r2.Ended.length, .bool r2.Rest]]⟩) (row := [.sl o1 0 r2.Out.length, .sl o2 0 r2.Items.length, .sl o3 0 r2.Ended.length, .bool r2.Rest]) (d := o1) (obd := ⟨3, 1, encL rI r2.Out⟩) (r := 0) (i := 0) [(N0 + 1, some ⟨48, 4, [[.osl 3 1 (encL rI ([] : List Int)), .osl 22 1 (encL rL_I_o ([] : List (List Int))), .osl 4 1 (encL rB ([] : List Bool)), .bool false]]⟩), (o2, some ⟨22, 1, encL rL_I_o r2.Items⟩), (o3, some ⟨4, 1, encL rB r2.Ended⟩), (N0 + 16, some ⟨48, 4, [[.osl 3 1 (encL rI r2.Out), .sl o2 0 r2.Items.length, .sl o3 0 r2.Ended.length, .bool r2.Rest]]⟩)] (by simp (disch := omega)) rfl rfl (by simp (disch := omega)) (by simp (disch := omega)) (by first | omega | simp) (by simp (disch := omega) [List.set_set, app_set] <;> omega) (by simp (disch := omega) [List.set_set, app_set]) ?_
   refine gPk Rc_ref (k := r2.Items.length) (o := (N0 + 16)) (ob := ⟨48, 4, [[.osl 3 1 (encL rI r2.Out), .sl o2 0 r2.Items.length, .sl o3 0 r2.Ended.length, .bool r2.Rest]]⟩) (row := [.osl 3 1 (encL rI r2.Out), .sl o2 0 r2.Items.length, .sl o3 0 r2.Ended.length, .bool r2.Rest]) (d := o2) (obd := ⟨22, 1, encL rL_I_o r2.Items⟩) (r := 0) (i := 1) [(N0 + 1, some ⟨48, 4, [[.osl 3 1 (encL rI ([] : List Int)), .osl 22 1 (encL rL_I_o ([] : List (List Int))), .osl 4 1 (encL rB ([] : List Bool)), .bool false]]⟩), (o3, some ⟨4, 1, encL rB r2.Ended⟩), (N0 + 16, some ⟨48, 4, [[.osl 3 1 (encL rI r2.Out), .osl 22 1 (encL rL_I_o r2.Items), .sl o3 0 r2.Ended.length, .bool r2.Rest]]⟩)] (by simp (disch := omega)) rfl rfl (by simp (disch := omega)) (by simp (disch := omega)) (by first | omega | simp) (by simp (disch := omega) [List.set_set, app_set] <;> omega) (by simp (disch := omega) [List.set_set, app_set]) ?_
   refine gPk Rc_ref (k := r2.Ended.length) (o := (N0 + 16)) (ob := ⟨48, 4, [[.osl 3 1 (encL rI r2.Out), .osl 22 1 (encL rL_I_o r2.Items), .sl o3 0 r2.Ended.length, .bool r2.Rest]]⟩) (row := [.osl 3 1 (encL rI r2.Out), .osl 22 1 (encL rL_I_o r2.Items), .sl o3 0 r2.Ended.length, .bool r2.Rest]) (d := o3) (obd := ⟨4, 1, encL rB r2.Ended⟩) (r := 0) (i := 2) [(N0 + 1, some ⟨48, 4, [[.osl 3 1 (encL rI ([] : List Int)), .osl 22 1 (encL rL_I_o ([] : List (List Int))), .osl 4 1 (encL rB ([] : List Bool)), .bool false]]⟩), (N0 + 16, some ⟨48, 4, [[.osl 3 1 (encL rI r2.Out), .osl 22 1 (encL rL_I_o r2.Items), .osl 4 1 (encL rB r2.Ended), .bool r2.Rest]]⟩)] (by simp (disch := omega)) rfl rfl (by simp (disch := omega)) (by simp (disch := omega)) (by first | omega | simp) (by simp (disch := omega) [List.set_set, app_set] <;> omega) (by simp (disch := omega) [List.set_set, app_set]) ?_
   exact Rc.fin (AHeap.Sub.refl _) ⟨M1 + 4, (N0 + 1), (N0 + 16), (by omega), (by omega), (by omega), (by omega), (by omega), (by omega), rfl, rfl⟩
  ·
   clear H hse1
   rintro ⟨s3, s4, s5⟩ fl a σ H ⟨M2, o4, o5, fM2_0, fM2_1, fM2_2, fM2_3, fM2_4, fM2_5, rfl, rfl⟩ K3 O3 hK3 hO3
   unfold i_SquadOutcome_o4_L1 at H; dsimp only at H
   refine AWP_sr tok [] [2, 3, 22, 23, 24, 25] (fun a σ => a = [(2, .ptr o4 0 0), (3, .ptr o5 0 0), (22, .fsl (encL rMachine p0.Harts)), (23, .int .i64 (ilen p0.Harts)), (24, .int .i64 s3), (25, .bool (ilt s3 (ilen p0.Harts)))] ∧ σ = hp E0 [(o4, some ⟨48, 4, [[.osl 3 1 (encL rI s4.Out), .osl 22 1 (encL rL_I_o s4.Items), .osl 4 1 (encL rB s4.Ended), .bool s4.Rest]]⟩), (o5, some ⟨48, 4, [[.osl 3 1 (encL rI s5.Out), .osl 22 1 (encL rL_I_o s5.Items), .osl 4 1 (encL rB s5.Ended), .bool s5.Rest]]⟩)] (M2 + 1)) (fun K hK => ?_) ?_
   ·
    skip
    have e0 := nq (a := o4) (b := o5) (by omega)
    simp -dsimp -implicitDefEqProofs (maxDischargeDepth := 6) [e0]
    exact hK _ _ ⟨rfl, rfl⟩
   rintro a σ ⟨rfl, rfl⟩
   refine AWP_sq [2, 3, 22, 23, 24] fun K4 hK4 => ?_
   refine AWP_cond (ilt s3 (ilen p0.Harts)) rfl (fun C2 => ?_) (fun C2 => ?_)
   ·
    replace H := ifT C2 H
    refine AWP_skip ?_
    show K4 _ _
    refine keepE (l := [2, 3, 22, 23, 24]) (x := [(2, .ptr o4 0 0), (3, .ptr o5 0 0), (22, .fsl (encL rMachine p0.Harts)), (23, .int .i64 (ilen p0.Harts)), (24, .int .i64 s3)]) rfl fun a' ha => ?_
    refine hK4 _ _ ?_; rw [ha]
    refine Rc.mk ?_
    refine AWP_sq [2, 3, 22, 23, 24] fun K5 hK5 => ?_
    refine AWP_block (AWP_thenB ?_)
    obtain ⟨v8, hv8, H⟩ := bindE H
    refine AWP_sr tok [] [2, 3, 5, 22, 23, 24] (fun a σ => a = [(2, .ptr o4 0 0), (3, .ptr o5 0 0), (5, .ptr (M2 + 3) 0 0), (22, .fsl (encL rMachine p0.Harts)), (23, .int .i64 (ilen p0.Harts)), (24, .int .i64 s3)] ∧ σ = hp E0 [(o4, some ⟨48, 4, [[.osl 3 1 (encL rI s4.Out), .osl 22 1 (encL rL_I_o s4.Items), .osl 4 1 (encL rB s4.Ended), .bool s4.Rest]]⟩), (o5, some ⟨48, 4, [[.osl 3 1 (encL rI s5.Out), .osl 22 1 (encL rL_I_o s5.Items), .osl 4 1 (encL rB s5.Ended), .bool s5.Rest]]⟩), (M2 + 3, some ⟨28, 3, [[.fsl (encL rI v8.Regs), .int .i64 v8.Pc, .fsl (encL rI v8.Mem)]]⟩)] (M2 + 5)) (fun K hK => ?_) ?_
    ·
     skip
     have e0 := nq (a := o4) (b := o5) (by omega)
     have e1 := nq (a := o4) (b := M2 + 3) (by omega)
     have e2 := nq (a := o5) (b := M2 + 3) (by omega)
     simp -dsimp -implicitDefEqProofs (maxDischargeDepth := 6) [e0, e1, e2, ix50 hv8]
     exact hK _ _ ⟨rfl, rfl⟩
    rintro a σ ⟨rfl, rfl⟩
    refine gUnp AWP_ref (ty := 4) (sz := 1) (es := encL rB s5.Ended) (o := o5) (ob := ⟨48, 4, [[.osl 3 1 (encL rI s5.Out), .osl 22 1 (encL rL_I_o s5.Items), .osl 4 1 (encL rB s5.Ended), .bool s5.Rest]]⟩) (row := [.osl 3 1 (encL rI s5.Out), .osl 22 1 (encL rL_I_o s5.Items), .osl 4 1 (encL rB s5.Ended), .bool s5.Rest]) (r := 0) (i := 2) [(o4, some ⟨48, 4, [[.osl 3 1 (encL rI s4.Out), .osl 22 1 (encL rL_I_o s4.Items), .osl 4 1 (encL rB s4.Ended), .bool s4.Rest]]⟩), (o5, some ⟨48, 4, [[.osl 3 1 (encL rI s5.Out), .osl 22 1 (encL rL_I_o s5.Items), .sl (M2 + 5) 0 s5.Ended.length, .bool s5.Rest]]⟩), (M2 + 3, some ⟨28, 3, [[.fsl (encL rI v8.Regs), .int .i64 v8.Pc, .fsl (encL rI v8.Mem)]]⟩), (M2 + 5, some ⟨4, 1, encL rB s5.Ended⟩)] (by simp (disch := omega)) rfl rfl (by simp (disch := omega) [List.set_set]) ?_
    obtain ⟨g10, hg10, H⟩ := bindE H
    obtain ⟨l11, hl11, H⟩ := bindE H
    have q0 : ∀ σ i, buildSliceA T 46 true i 1 [(0, .bool g10)] σ = some (.fsl (encL rB ([g10] : List Bool)), σ) := fun _ _ => rfl
    refine AWP_ry tok tokM [12] [1, 3, 4, 5, 6, 7, 8, 9, 10, 11, 12, 13, 15] [0, 2, 1, 3, 4, 5, 6, 7, 8, 9, 10, 11, 12, 13, 14, 15] [(12, [1])] [2, 3, 22, 23, 24] (fun a σ => a = [(2, .ptr o4 0 0), (3, .ptr o5 0 0), (22, .fsl (encL rMachine p0.Harts)), (23, .int .i64 (ilen p0.Harts)), (24, .int .i64 s3)] ∧ σ = hp E0 [(o4, some ⟨48, 4, [[.osl 3 1 (encL rI s4.Out), .osl 22 1 (encL rL_I_o s4.Items), .osl 4 1 (encL rB s4.Ended), .bool s4.Rest]]⟩), (o5, some ⟨48, 4, [[.osl 3 1 (encL rI s5.Out), .osl 22 1 (encL rL_I_o s5.Items), .sl (M2 + 19) 0 l11.length, .bool s5.Rest]]⟩), (M2 + 3, some ⟨28, 3, [[.fsl (encL rI v8.Regs), .int .i64 v8.Pc, .fsl (encL rI v8.Mem)]]⟩), (M2 + 19, some ⟨4, 1, encL rB l11⟩)] (M2 + 22)) (by decide) (fun K hK => ?_) ?_
    ·
     simp only [pickL, nthO_succ, nthO_zero]
     have e0 := nq (a := o4) (b := o5) (by omega)
     have e1 := nq (a := o4) (b := M2 + 3) (by omega)
     have e2 := nq (a := o4) (b := M2 + 5) (by omega)
     have e3 := nq (a := o4) (b := M2 + 19) (by omega)
     have e4 := nq (a := o5) (b := M2 + 3) (by omega)
     have e5 := nq (a := o5) (b := M2 + 5) (by omega)
     have e6 := nq (a := o5) (b := M2 + 19) (by omega)
     simp -dsimp -implicitDefEqProofs (maxDischargeDepth := 6) [e0, e1, e2, e3, e4, e5, e6, q0, app46 hl11]
     cases hbg10 : ieq v8.Pc 0
     ·
      replace hg10 := ifF hbg10 hg10
      replace hg10 := Option.some.inj hg10; subst hg10
      try simp -dsimp -implicitDefEqProofs (maxDischargeDepth := 6) [e0, e1, e2, e3, e4, e5, e6, q0, app46 hl11, hbg10]
      exact hK _ _ ⟨rfl, rfl⟩
     ·
      replace hg10 := ifT hbg10 hg10
      obtain ⟨v9, hv9, hg10⟩ := bindE hg10
      replace hg10 := Option.some.inj hg10; subst hg10
      try simp -dsimp -implicitDefEqProofs (maxDischargeDepth := 6) [e0, e1, e2, e3, e4, e5, e6, q0, app46 hl11, hbg10, ix22 hv9]
      exact hK _ _ ⟨rfl, rfl⟩
    rintro a σ ⟨ha, rfl⟩
    refine hK5 _ _ ?_; rw [ha]
    refine Rc.mk ?_
    refine AWP_rt tok [] [2, 3, 22, 23, 24] (fun a σ => a = [(2, .ptr o4 0 0), (3, .ptr o5 0 0), (22, .fsl (encL rMachine p0.Harts)), (23, .int .i64 (ilen p0.Harts)), (24, .int .i64 (iadd .i64 s3 1))] ∧ σ = hp E0 [(o4, some ⟨48, 4, [[.osl 3 1 (encL rI s4.Out), .osl 22 1 (encL rL_I_o s4.Items), .osl 4 1 (encL rB s4.Ended), .bool s4.Rest]]⟩), (o5, some ⟨48, 4, [[.osl 3 1 (encL rI s5.Out), .osl 22 1 (encL rL_I_o s5.Items), .sl (M2 + 19) 0 l11.length, .bool s5.Rest]]⟩), (M2 + 3, some ⟨28, 3, [[.fsl (encL rI v8.Regs), .int .i64 v8.Pc, .fsl (encL rI v8.Mem)]]⟩), (M2 + 19, some ⟨4, 1, encL rB l11⟩)] (M2 + 24)) (fun K hK => ?_) ?_
    ·
     skip
     have e0 := nq (a := o4) (b := o5) (by omega)
     have e1 := nq (a := o4) (b := M2 + 3) (by omega)
     have e2 := nq (a := o4) (b := M2 + 19) (by omega)
     have e3 := nq (a := o5) (b := M2 + 3) (by omega)
     have e4 := nq (a := o5) (b := M2 + 19) (by omega)
     simp -dsimp -implicitDefEqProofs (maxDischargeDepth := 6) [e0, e1, e2, e3, e4]
     exact hK _ _ ⟨rfl, rfl⟩
    rintro a σ ⟨ha, rfl⟩
    replace H := Option.some.inj H; subst H
    refine hK3 _ _ _ rfl ?_; rw [ha]
    refine gPk Rc_ref (k := l11.length) (o := o5) (ob := ⟨48, 4, [[.osl 3 1 (encL rI s5.Out), .osl 22 1 (encL rL_I_o s5.Items), .sl (M2 + 19) 0 l11.length, .bool s5.Rest]]⟩) (row := [.osl 3 1 (encL rI s5.Out), .osl 22 1 (encL rL_I_o s5.Items), .sl (M2 + 19) 0 l11.length, .bool s5.Rest]) (d := (M2 + 19)) (obd := ⟨4, 1, encL rB l11⟩) (r := 0) (i := 2) [(o4, some ⟨48, 4, [[.osl 3 1 (encL rI s4.Out), .osl 22 1 (encL rL_I_o s4.Items), .osl 4 1 (encL rB s4.Ended), .bool s4.Rest]]⟩), (o5, some ⟨48, 4, [[.osl 3 1 (encL rI s5.Out), .osl 22 1 (encL rL_I_o s5.Items), .osl 4 1 (encL rB l11), .bool s5.Rest]]⟩), (M2 + 3, some ⟨28, 3, [[.fsl (encL rI v8.Regs), .int .i64 v8.Pc, .fsl (encL rI v8.Mem)]]⟩)] (by simp (disch := omega)) rfl rfl (by simp (disch := omega)) (by simp (disch := omega)) (by first | omega | simp) (by simp (disch := omega) [List.set_set, app_set] <;> omega) (by simp (disch := omega) [List.set_set, app_set]) ?_
    exact Rc.fin (hp_skip (hp_skip (AHeap.Sub.trans (AHeap.Sub.refl _) (hp_drop rfl (by simp; try omega))))) ⟨M2 + 24, o4, o5, (by omega), (by omega), (by omega), (by omega), (by omega), (by omega), rfl, rfl⟩
   ·
    replace H := ifF C2 H
    replace H := Option.some.inj H; subst H
    refine AWP_exit (hO3 _ _ _ _ rfl ⟨rfl, ?_⟩)
    refine Rc.rw (l := [2, 3]) (X := [(2, .ptr o4 0 0), (3, .ptr o5 0 0)]) rfl ?_
    exact Rc.fin (AHeap.Sub.refl _) ⟨M2 + 1, o4, o5, (by omega), (by omega), (by omega), (by omega), (by omega), (by omega), rfl, rfl⟩
  ·
   intro x a σ hx
   obtain ⟨y6, y7⟩ := e1
   obtain ⟨rfl, b, τ, hr, M3, o6, o7, fM3_0, fM3_1, fM3_2, fM3_3, fM3_4, fM3_5, rfl, rfl⟩ := hx
   dsimp only at H
   show K2 _ _
   refine hK2 _ _ (Rc_ref hr ?_)
   refine Rc.mk ?_
   refine gUnp AWP_ref (ty := 3) (sz := 1) (es := encL rI y7.Out) (o := o7) (ob := ⟨48, 4, [[.osl 3 1 (encL rI y7.Out), .osl 22 1 (encL rL_I_o y7.Items), .osl 4 1 (encL rB y7.Ended), .bool y7.Rest]]⟩) (row := [.osl 3 1 (encL rI y7.Out), .osl 22 1 (encL rL_I_o y7.Items), .osl 4 1 (encL rB y7.Ended), .bool y7.Rest]) (r := 0) (i := 0) [(o6, some ⟨48, 4, [[.osl 3 1 (encL rI y6.Out), .osl 22 1 (encL rL_I_o y6.Items), .osl 4 1 (encL rB y6.Ended), .bool y6.Rest]]⟩), (o7, some ⟨48, 4, [[.sl M3 0 y7.Out.length, .osl 22 1 (encL rL_I_o y7.Items), .osl 4 1 (encL rB y7.Ended), .bool y7.Rest]]⟩), (M3, some ⟨3, 1, encL rI y7.Out⟩)] (by simp (disch := omega)) rfl rfl (by simp (disch := omega) [List.set_set]) ?_
   refine gUnp AWP_ref (ty := 22) (sz := 1) (es := encL rL_I_o y7.Items) (o := o7) (ob := ⟨48, 4, [[.sl M3 0 y7.Out.length, .osl 22 1 (encL rL_I_o y7.Items), .osl 4 1 (encL rB y7.Ended), .bool y7.Rest]]⟩) (row := [.sl M3 0 y7.Out.length, .osl 22 1 (encL rL_I_o y7.Items), .osl 4 1 (encL rB y7.Ended), .bool y7.Rest]) (r := 0) (i := 1) [(o6, some ⟨48, 4, [[.osl 3 1 (encL rI y6.Out), .osl 22 1 (encL rL_I_o y6.Items), .osl 4 1 (encL rB y6.Ended), .bool y6.Rest]]⟩), (o7, some ⟨48, 4, [[.sl M3 0 y7.Out.length, .sl (M3 + 1) 0 y7.Items.length, .osl 4 1 (encL rB y7.Ended), .bool y7.Rest]]⟩), (M3, some ⟨3, 1, encL rI y7.Out⟩), (M3 + 1, some ⟨22, 1, encL rL_I_o y7.Items⟩)] (by simp (disch := omega)) rfl rfl (by simp (disch := omega) [List.set_set]) ?_
   refine gUnp AWP_ref (ty := 4) (sz := 1) (es := encL rB y7.Ended) (o := o7) (ob := ⟨48, 4, [[.sl M3 0 y7.Out.length, .sl (M3 + 1) 0 y7.Items.length, .osl 4 1 (encL rB y7.Ended), .bool y7.Rest]]⟩) (row := [.sl M3 0 y7.Out.length, .sl (M3 + 1) 0 y7.Items.length, .osl 4 1 (encL rB y7.Ended), .bool y7.Rest]) (r := 0) (i := 2) [(o6, some ⟨48, 4, [[.osl 3 1 (encL rI y6.Out), .osl 22 1 (encL rL_I_o y6.Items), .osl 4 1 (encL rB y6.Ended), .bool y6.Rest]]⟩), (o7, some ⟨48, 4, [[.sl M3 0 y7.Out.length, .sl (M3 + 1) 0 y7.Items.length, .sl (M3 + 2) 0 y7.Ended.length, .bool y7.Rest]]⟩), (M3, some ⟨3, 1, encL rI y7.Out⟩), (M3 + 1, some ⟨22, 1, encL rL_I_o y7.Items⟩), (M3 + 2, some ⟨4, 1, encL rB y7.Ended⟩)] (by simp (disch := omega)) rfl rfl (by simp (disch := omega) [List.set_set]) ?_
   refine AWP_sr tok [] [2] (fun a σ => a = [(2, .ptr o6 0 0)] ∧ σ = hp E0 [(o6, some ⟨48, 4, [[.sl M3 0 y7.Out.length, .sl (M3 + 1) 0 y7.Items.length, .sl (M3 + 2) 0 y7.Ended.length, .bool y7.Rest]]⟩), (o7, some ⟨48, 4, [[.sl M3 0 y7.Out.length, .sl (M3 + 1) 0 y7.Items.length, .sl (M3 + 2) 0 y7.Ended.length, .bool y7.Rest]]⟩), (M3, some ⟨3, 1, encL rI y7.Out⟩), (M3 + 1, some ⟨22, 1, encL rL_I_o y7.Items⟩), (M3 + 2, some ⟨4, 1, encL rB y7.Ended⟩)] (M3 + 5)) (fun K hK => ?_) ?_
   ·
    skip
    have e0 := nq (a := o6) (b := o7) (by omega)
    have e1 := nq (a := o6) (b := M3) (by omega)
    have e2 := nq (a := o6) (b := M3 + 1) (by omega)
    have e3 := nq (a := o6) (b := M3 + 2) (by omega)
    have e4 := nq (a := o7) (b := M3) (by omega)
    have e5 := nq (a := o7) (b := M3 + 1) (by omega)
    have e6 := nq (a := o7) (b := M3 + 2) (by omega)
    simp -dsimp -implicitDefEqProofs (maxDischargeDepth := 6) [e0, e1, e2, e3, e4, e5, e6]
    exact hK _ _ ⟨rfl, rfl⟩
   rintro a σ ⟨rfl, rfl⟩
   replace H := Option.some.inj H; subst H
   refine AWP_kp [2] [(2, .ptr o6 0 0)] rfl ?_
   refine gDrop AWP_ref [(o6, some ⟨48, 4, [[.sl M3 0 y7.Out.length, .sl (M3 + 1) 0 y7.Items.length, .sl (M3 + 2) 0 y7.Ended.length, .bool y7.Rest]]⟩), (M3, some ⟨3, 1, encL rI y7.Out⟩), (M3 + 1, some ⟨22, 1, encL rL_I_o y7.Items⟩), (M3 + 2, some ⟨4, 1, encL rB y7.Ended⟩)] (hp_skip (AHeap.Sub.trans (hp_skip (hp_skip (hp_skip (AHeap.Sub.refl _)))) (hp_drop rfl (by simp; try omega)))) ?_
   refine gPk AWP_ref (k := y7.Out.length) (o := o6) (ob := ⟨48, 4, [[.sl M3 0 y7.Out.length, .sl (M3 + 1) 0 y7.Items.length, .sl (M3 + 2) 0 y7.Ended.length, .bool y7.Rest]]⟩) (row := [.sl M3 0 y7.Out.length, .sl (M3 + 1) 0 y7.Items.length, .sl (M3 + 2) 0 y7.Ended.length, .bool y7.Rest]) (d := M3) (obd := ⟨3, 1, encL rI y7.Out⟩) (r := 0) (i := 0) [(o6, some ⟨48, 4, [[.osl 3 1 (encL rI y7.Out), .sl (M3 + 1) 0 y7.Items.length, .sl (M3 + 2) 0 y7.Ended.length, .bool y7.Rest]]⟩), (M3 + 1, some ⟨22, 1, encL rL_I_o y7.Items⟩), (M3 + 2, some ⟨4, 1, encL rB y7.Ended⟩)] (by simp (disch := omega)) rfl rfl (by simp (disch := omega)) (by simp (disch := omega)) (by first | omega | simp) (by simp (disch := omega) [List.set_set, app_set] <;> omega) (by simp (disch := omega) [List.set_set, app_set]) ?_
   refine gPk AWP_ref (k := y7.Items.length) (o := o6) (ob := ⟨48, 4, [[.osl 3 1 (encL rI y7.Out), .sl (M3 + 1) 0 y7.Items.length, .sl (M3 + 2) 0 y7.Ended.length, .bool y7.Rest]]⟩) (row := [.osl 3 1 (encL rI y7.Out), .sl (M3 + 1) 0 y7.Items.length, .sl (M3 + 2) 0 y7.Ended.length, .bool y7.Rest]) (d := (M3 + 1)) (obd := ⟨22, 1, encL rL_I_o y7.Items⟩) (r := 0) (i := 1) [(o6, some ⟨48, 4, [[.osl 3 1 (encL rI y7.Out), .osl 22 1 (encL rL_I_o y7.Items), .sl (M3 + 2) 0 y7.Ended.length, .bool y7.Rest]]⟩), (M3 + 2, some ⟨4, 1, encL rB y7.Ended⟩)] (by simp (disch := omega)) rfl rfl (by simp (disch := omega)) (by simp (disch := omega)) (by first | omega | simp) (by simp (disch := omega) [List.set_set, app_set] <;> omega) (by simp (disch := omega) [List.set_set, app_set]) ?_
   refine gPk AWP_ref (k := y7.Ended.length) (o := o6) (ob := ⟨48, 4, [[.osl 3 1 (encL rI y7.Out), .osl 22 1 (encL rL_I_o y7.Items), .sl (M3 + 2) 0 y7.Ended.length, .bool y7.Rest]]⟩) (row := [.osl 3 1 (encL rI y7.Out), .osl 22 1 (encL rL_I_o y7.Items), .sl (M3 + 2) 0 y7.Ended.length, .bool y7.Rest]) (d := (M3 + 2)) (obd := ⟨4, 1, encL rB y7.Ended⟩) (r := 0) (i := 2) [(o6, some ⟨48, 4, [[.osl 3 1 (encL rI y7.Out), .osl 22 1 (encL rL_I_o y7.Items), .osl 4 1 (encL rB y7.Ended), .bool y7.Rest]]⟩)] (by simp (disch := omega)) rfl rfl (by simp (disch := omega)) (by simp (disch := omega)) (by first | omega | simp) (by simp (disch := omega) [List.set_set, app_set] <;> omega) (by simp (disch := omega) [List.set_set, app_set]) ?_
   refine gUnp AWP_ref (ty := 3) (sz := 1) (es := encL rI y7.Out) (o := o6) (ob := ⟨48, 4, [[.osl 3 1 (encL rI y7.Out), .osl 22 1 (encL rL_I_o y7.Items), .osl 4 1 (encL rB y7.Ended), .bool y7.Rest]]⟩) (row := [.osl 3 1 (encL rI y7.Out), .osl 22 1 (encL rL_I_o y7.Items), .osl 4 1 (encL rB y7.Ended), .bool y7.Rest]) (r := 0) (i := 0) [(o6, some ⟨48, 4, [[.sl (M3 + 5) 0 y7.Out.length, .osl 22 1 (encL rL_I_o y7.Items), .osl 4 1 (encL rB y7.Ended), .bool y7.Rest]]⟩), (M3 + 5, some ⟨3, 1, encL rI y7.Out⟩)] (by simp (disch := omega)) rfl rfl (by simp (disch := omega) [List.set_set]) ?_
   refine gUnp AWP_ref (ty := 22) (sz := 1) (es := encL rL_I_o y7.Items) (o := o6) (ob := ⟨48, 4, [[.sl (M3 + 5) 0 y7.Out.length, .osl 22 1 (encL rL_I_o y7.Items), .osl 4 1 (encL rB y7.Ended), .bool y7.Rest]]⟩) (row := [.sl (M3 + 5) 0 y7.Out.length, .osl 22 1 (encL rL_I_o y7.Items), .osl 4 1 (encL rB y7.Ended), .bool y7.Rest]) (r := 0) (i := 1) [(o6, some ⟨48, 4, [[.sl (M3 + 5) 0 y7.Out.length, .sl (M3 + 6) 0 y7.Items.length, .osl 4 1 (encL rB y7.Ended), .bool y7.Rest]]⟩), (M3 + 5, some ⟨3, 1, encL rI y7.Out⟩), (M3 + 6, some ⟨22, 1, encL rL_I_o y7.Items⟩)] (by simp (disch := omega)) rfl rfl (by simp (disch := omega) [List.set_set]) ?_
   refine gUnp AWP_ref (ty := 4) (sz := 1) (es := encL rB y7.Ended) (o := o6) (ob := ⟨48, 4, [[.sl (M3 + 5) 0 y7.Out.length, .sl (M3 + 6) 0 y7.Items.length, .osl 4 1 (encL rB y7.Ended), .bool y7.Rest]]⟩) (row := [.sl (M3 + 5) 0 y7.Out.length, .sl (M3 + 6) 0 y7.Items.length, .osl 4 1 (encL rB y7.Ended), .bool y7.Rest]) (r := 0) (i := 2) [(o6, some ⟨48, 4, [[.sl (M3 + 5) 0 y7.Out.length, .sl (M3 + 6) 0 y7.Items.length, .sl (M3 + 7) 0 y7.Ended.length, .bool y7.Rest]]⟩), (M3 + 5, some ⟨3, 1, encL rI y7.Out⟩), (M3 + 6, some ⟨22, 1, encL rL_I_o y7.Items⟩), (M3 + 7, some ⟨4, 1, encL rB y7.Ended⟩)] (by simp (disch := omega)) rfl rfl (by simp (disch := omega) [List.set_set]) ?_
   have z0 := nq (a := o6) (b := M3 + 5) (by omega)
   have z1 := nq (a := o6) (b := M3 + 6) (by omega)
   have z2 := nq (a := o6) (b := M3 + 7) (by omega)
   refine AWP_ret ?_
   refine ⟨[.agg [.sl (M3 + 5) 0 y7.Out.length, .sl (M3 + 6) 0 y7.Items.length, .sl (M3 + 7) 0 y7.Ended.length, .bool y7.Rest]], by simp [z0, z1, z2], (fun o => [o6].contains o), M3 + 8, M3 + 5, M3 + 6, M3 + 7, by omega, by omega, by omega, by omega, by omega, by omega, by omega, by omega, by omega, by omega, ?_, ?_⟩
   ·
    simp [encL_nil, z0, z1, z2]
   ·
    rw [cutD (L' := [(M3 + 5, some ⟨3, 1, encL rI y7.Out⟩), (M3 + 6, some ⟨22, 1, encL rL_I_o y7.Items⟩), (M3 + 7, some ⟨4, 1, encL rB y7.Ended⟩)]) (by simp [z0, z1, z2])]
    first | done | rfl | simp [List.set_set]
theorem c26_o4_b {p0 : gSquad} {r : gOutcome} (H : i_SquadOutcome_o4 p0 = some r) {σ : AHeap} {args : List AV} (hy : args.map (thawA (fun _ => true) σ 8) = [.agg [.fsl (encL rMachine p0.Harts), .fsl (encL rBox p0.Boxes), .int .i64 p0.Turn, .int .i64 p0.Idle, .fsl (encL rI p0.Out)]]) : ACalls Try.prog G 26 args σ (fun v σ' => ∃ M n0 n1 n2 : Nat, σ.next ≤ M ∧ σ.next ≤ n0 ∧ n0 < M ∧ σ.next ≤ n1 ∧ n1 < M ∧ σ.next ≤ n2 ∧ n2 < M ∧ ¬ n0 = n1 ∧ ¬ n0 = n2 ∧ ¬ n1 = n2 ∧ v = .agg [.sl n0 0 r.Out.length, .sl n1 0 r.Items.length, .sl n2 0 r.Ended.length, .bool r.Rest] ∧ σ' = hp σ.objs [(n0, some ⟨3, 1, encL rI r.Out⟩), (n1, some ⟨22, 1, encL rL_I_o r.Items⟩), (n2, some ⟨4, 1, encL rB r.Ended⟩)] M) := by
 refine borrowQ 8 8 (c26_o4 (σ := ⟨E0, σ.next⟩) H) hy ?_
 rintro _ _ ⟨M, n0, n1, n2, h0, h1, h2, h3, h4, h5, h6, h7, h8, h9, rfl, rfl⟩
 refine ⟨_, M, rfl, by simp [AV.rnf, AV.simp1], fun p hp ob ho => ?_, by simp, M, n0, n1, n2, h0, h1, h2, h3, h4, h5, h6, h7, h8, h9, rfl, rfl⟩
 simp only [List.mem_cons, List.not_mem_nil, or_false] at hp
 rcases hp with rfl | rfl | rfl <;> (cases ho; first | exact encL_nf (fun x => nf_rI 7 x) _ | exact encL_nf (fun x => nf_rL_I_o 6 x) _ | exact encL_nf (fun x => nf_rB 7 x) _ | simp [AV.nf, AV.simp1])
theorem c59_o3 {p0 : (List gMachine)} {r : (List gMachine)} (H : l_toMachineS_o3 p0 = some r) {σ : AHeap} : ACalls Try.prog G 59 [.fsl (encL rMachine p0)] σ (fun v σ' => ∃ M n0 : Nat, σ.next ≤ M ∧ σ.next ≤ n0 ∧ n0 < M ∧ v = .sl n0 0 r.length ∧ σ' = hp σ.objs [(n0, some ⟨28, 3, encL rMachine_oo r⟩)] M) := by
 refine ACalls_fr (L := []) (Q1 := fun v σ' => ∃ M n0 : Nat, σ.next ≤ M ∧ σ.next ≤ n0 ∧ n0 < M ∧ v = .sl n0 0 r.length ∧ σ' = hp E0 [(n0, some ⟨28, 3, encL rMachine_oo r⟩)] M) (by simp []) (fun hlt => ?_) ?_ ⟨_, Try.func59, rfl, rfl⟩
 rotate_left
 ·
  rintro v σ1 ⟨M, n0, h0, h1, h2, rfl, rfl⟩
  exact ⟨_, M, rfl, by simp, by simp; try omega, M, n0, h0, h1, h2, rfl, rfl⟩
 generalize σ.next = N0 at hlt ⊢
 refine ACalls_fn tok Try.func59 (by kernel_rfl) rfl Try.ntmps59 Try.results59 rfl ?_
 simp only [argsA, Nat.reduceAdd, hp_next]
 unfold l_toMachineS_o3 at H
 refine AWP_sr tok [] [0] (fun a σ => a = [(0, .fsl (encL rMachine p0))] ∧ σ = hp E0 [] (N0 + 1)) (fun K hK => ?_) ?_
 ·
  skip
  simp -dsimp -implicitDefEqProofs (maxDischargeDepth := 6)
  exact hK _ _ ⟨rfl, rfl⟩
 rintro a σ ⟨rfl, rfl⟩
 obtain ⟨l1, hl1, H⟩ := bindE H
 refine AWP_sr tok [] [0, 3] (fun a σ => a = [(0, .fsl (encL rMachine p0)), (3, .sl (N0 + 3) 0 l1.length)] ∧ σ = hp E0 [(N0 + 3, some ⟨28, 3, List.replicate (Int.toNat (ilen p0)) [.nilsl, .int .i64 0, .nilsl]⟩)] (N0 + 5)) (fun K hK => ?_) ?_
 ·
  skip
  simp -dsimp -implicitDefEqProofs (maxDischargeDepth := 6) [makr50 hl1]
  exact hK _ _ ⟨rfl, rfl⟩
 rintro a σ ⟨rfl, rfl⟩
 refine AWP_sq [3] fun K1 hK1 => ?_
 refine gRep AWP_ref (o := (N0 + 3)) (ty := 28) (sz := 3) (m := Int.toNat (ilen p0)) (c := [.nilsl, .int .i64 0, .nilsl]) (c' := [.osl 3 1 [], .int .i64 0, .osl 3 1 []]) (.own (.same (.own .nil))) [(N0 + 3, some ⟨28, 3, encL rMachine_oo l1⟩)] (by simp (disch := omega)) (by rw [mak_rep (f := rMachine_oo) (c := [.osl 3 1 [], .int .i64 0, .osl 3 1 []]) hl1 rfl]; simp) ?_
 refine AWP_sr tok [] [0, 3, 4] (fun a σ => a = [(0, .fsl (encL rMachine p0)), (3, .sl (N0 + 3) 0 l1.length), (4, .int .i64 0)] ∧ σ = hp E0 [(N0 + 3, some ⟨28, 3, encL rMachine_oo l1⟩)] (N0 + 6)) (fun K hK => ?_) ?_
 ·
  skip
  simp -dsimp -implicitDefEqProofs (maxDischargeDepth := 6)
  exact hK _ _ ⟨rfl, rfl⟩
 rintro a σ ⟨rfl, rfl⟩
 refine AWP_block (AWP_thenB ?_)
 obtain ⟨e1, hse1, H⟩ := bindE H
 refine AWP_lp [0, 3, 4] (fun s a σ => ∃ M1 o1 : Nat, N0 ≤ M1 ∧ N0 ≤ o1 ∧ o1 < M1 ∧ a = [(0, .fsl (encL rMachine p0)), (3, .sl o1 0 s.2.length), (4, .int .i64 s.1)] ∧ σ = hp E0 [(o1, some ⟨28, 3, encL rMachine_oo s.2⟩)] M1) (fun s x a σ => x = .exit 0 ∧ Rc G 23 N0 (fun a σ => ∃ M2 o2 : Nat, N0 ≤ M2 ∧ N0 ≤ o2 ∧ o2 < M2 ∧ a = [(3, .sl o2 0 s.length)] ∧ σ = hp E0 [(o2, some ⟨28, 3, encL rMachine_oo s⟩)] M2) (AAct.keep a [3]) σ) hse1 ?_ ?_ ?_
 ·
  refine Rc.kp [0, 3, 4] [(0, .fsl (encL rMachine p0)), (3, .sl (N0 + 3) 0 l1.length), (4, .int .i64 0)] rfl ?_
  exact Rc.fin (AHeap.Sub.refl _) ⟨N0 + 6, (N0 + 3), (by omega), (by omega), (by omega), rfl, rfl⟩
 ·
  clear H hse1
  rintro ⟨s2, s3⟩ fl a σ H ⟨M1, o1, fM1_0, fM1_1, fM1_2, rfl, rfl⟩ K2 O2 hK2 hO2
  unfold l_toMachineS_o3_L1 at H; dsimp only at H
  refine AWP_sq [0, 3, 4] fun K3 hK3 => ?_
  refine AWP_sr tok [] [0, 3, 4, 11] (fun a σ => a = [(0, .fsl (encL rMachine p0)), (3, .sl o1 0 s3.length), (4, .int .i64 s2), (11, .bool (ilt s2 (ilen p0)))] ∧ σ = hp E0 [(o1, some ⟨28, 3, encL rMachine_oo s3⟩)] (M1 + 4)) (fun K hK => ?_) ?_
  ·
   skip
   simp -dsimp -implicitDefEqProofs (maxDischargeDepth := 6)
   exact hK _ _ ⟨rfl, rfl⟩
  rintro a σ ⟨rfl, rfl⟩
  refine AWP_cond (ilt s2 (ilen p0)) rfl (fun C1 => ?_) (fun C1 => ?_)
  ·
   replace H := ifT C1 H
   refine AWP_skip ?_
   show K3 _ _
   refine keepE (l := [0, 3, 4]) (x := [(0, .fsl (encL rMachine p0)), (3, .sl o1 0 s3.length), (4, .int .i64 s2)]) rfl fun a' ha => ?_
   refine hK3 _ _ ?_; rw [ha]
   refine Rc.mk ?_
   refine AWP_sq [0, 3, 4] fun K4 hK4 => ?_
   refine AWP_block (AWP_thenB ?_)
   obtain ⟨v5, hv5, H⟩ := bindE H
   obtain ⟨r6, hr6, H⟩ := bindE H
   obtain ⟨v7, hv7, H⟩ := bindE H
   refine AWP_rt tok [] [0, 3, 4] (fun a σ => ∃ M3 o3 o4 : Nat, M1 + 13 ≤ M3 ∧ M1 + 13 ≤ o3 ∧ o3 < M3 ∧ M1 + 13 ≤ o4 ∧ o4 < M3 ∧ ¬ o3 = o4 ∧ a = [(0, .fsl (encL rMachine p0)), (3, .sl o1 0 s3.length), (4, .int .i64 s2)] ∧ σ = hp E0 [(o1, some ⟨28, 3, (encL rMachine_oo s3).set s2.toNat [.sl o3 0 r6.Regs.length, .int .i64 r6.Pc, .sl o4 0 r6.Mem.length]⟩), (o3, some ⟨3, 1, encL rI r6.Regs⟩), (o4, some ⟨3, 1, encL rI r6.Mem⟩)] M3) (fun K hK => ?_) ?_
   ·
    skip
    simp -dsimp -implicitDefEqProofs (maxDischargeDepth := 6) [ix41 hv5, ixo50 hv7, (idx_lt3 hv7).2.2]
    refine (c11_o2 (H := hr6) ).mono ?_; rintro _ _ ⟨M3, o3, o4, fM3_0, fM3_1, fM3_2, fM3_3, fM3_4, fM3_5, rfl, rfl⟩; simp only [hp_next] at fM3_0 fM3_1 fM3_2 fM3_3 fM3_4 fM3_5
    have eM3_0 := nq (a := o3) (b := o1) (by omega)
    have eM3_1 := nq (a := o3) (b := o4) (by omega)
    have eM3_2 := nq (a := o4) (b := o1) (by omega)
    try simp -dsimp -implicitDefEqProofs (maxDischargeDepth := 6) [ix41 hv5, ixo50 hv7, (idx_lt3 hv7).2.2, eM3_0, eM3_1, eM3_2, hp_over_some, hp_over_none]
    exact hK _ _ ⟨M3, o3, o4, (by omega), (by omega), (by omega), (by omega), (by omega), (by omega), rfl, rfl⟩
   rintro a σ ⟨M3, o3, o4, fM3_0, fM3_1, fM3_2, fM3_3, fM3_4, fM3_5, ha, rfl⟩
   refine hK4 _ _ ?_; rw [ha]
   refine Rc.mk ?_
   refine AWP_rt tok [] [0, 3, 4] (fun a σ => a = [(0, .fsl (encL rMachine p0)), (3, .sl o1 0 s3.length), (4, .int .i64 (iadd .i64 s2 1))] ∧ σ = hp E0 [(o1, some ⟨28, 3, (encL rMachine_oo s3).set s2.toNat [.sl o3 0 r6.Regs.length, .int .i64 r6.Pc, .sl o4 0 r6.Mem.length]⟩), (o3, some ⟨3, 1, encL rI r6.Regs⟩), (o4, some ⟨3, 1, encL rI r6.Mem⟩)] (M3 + 3)) (fun K hK => ?_) ?_
   ·
    skip
    have e0 := nq (a := o1) (b := o3) (by omega)
    have e1 := nq (a := o1) (b := o4) (by omega)
    have e2 := nq (a := o3) (b := o4) (by omega)
    simp -dsimp -implicitDefEqProofs (maxDischargeDepth := 6) [e0, e1, e2, (gset hv7 _), List.set_set]
    exact hK _ _ ⟨rfl, rfl⟩
   rintro a σ ⟨ha, rfl⟩
   obtain ⟨l8, hl8, H⟩ := bindE H
   replace H := Option.some.inj H; subst H
   refine hK2 _ _ _ rfl ?_; rw [ha]
   refine gPk Rc_ref (k := r6.Regs.length) (o := o1) (ob := ⟨28, 3, (encL rMachine_oo s3).set s2.toNat [.sl o3 0 r6.Regs.length, .int .i64 r6.Pc, .sl o4 0 r6.Mem.length]⟩) (row := [.sl o3 0 r6.Regs.length, .int .i64 r6.Pc, .sl o4 0 r6.Mem.length]) (d := o3) (obd := ⟨3, 1, encL rI r6.Regs⟩) (r := s2.toNat) (i := 0) [(o1, some ⟨28, 3, (encL rMachine_oo s3).set s2.toNat [.osl 3 1 (encL rI r6.Regs), .int .i64 r6.Pc, .sl o4 0 r6.Mem.length]⟩), (o4, some ⟨3, 1, encL rI r6.Mem⟩)] (by simp (disch := omega)) (gset hv7 _) rfl (by simp (disch := omega)) (by simp (disch := omega)) (by first | omega | simp) (by simp (disch := omega) [List.set_set, app_set] <;> omega) (by simp (disch := omega) [List.set_set, app_set]) ?_
   refine gPk Rc_ref (k := r6.Mem.length) (o := o1) (ob := ⟨28, 3, (encL rMachine_oo s3).set s2.toNat [.osl 3 1 (encL rI r6.Regs), .int .i64 r6.Pc, .sl o4 0 r6.Mem.length]⟩) (row := [.osl 3 1 (encL rI r6.Regs), .int .i64 r6.Pc, .sl o4 0 r6.Mem.length]) (d := o4) (obd := ⟨3, 1, encL rI r6.Mem⟩) (r := s2.toNat) (i := 2) [(o1, some ⟨28, 3, (encL rMachine_oo s3).set s2.toNat [.osl 3 1 (encL rI r6.Regs), .int .i64 r6.Pc, .osl 3 1 (encL rI r6.Mem)]⟩)] (by simp (disch := omega)) (gset hv7 _) rfl (by simp (disch := omega)) (by simp (disch := omega)) (by first | omega | simp) (by simp (disch := omega) [List.set_set, app_set] <;> omega) (by simp (disch := omega) [List.set_set, app_set]) ?_
   rw [show hp E0 [(o1, some ⟨28, 3, (encL rMachine_oo s3).set s2.toNat [.osl 3 1 (encL rI r6.Regs), .int .i64 r6.Pc, .osl 3 1 (encL rI r6.Mem)]⟩)] (M3 + 3) = hp E0 [(o1, some ⟨28, 3, encL rMachine_oo l8⟩)] (M3 + 3) from by rw [(setx_iff.1 hl8).2, ← encL_set]; rfl]; (try rw [← setx_len hl8])
   exact Rc.fin (AHeap.Sub.refl _) ⟨M3 + 3, o1, (by omega), (by omega), (by omega), rfl, rfl⟩
  ·
   replace H := ifF C1 H
   replace H := Option.some.inj H; subst H
   refine AWP_exit (hO2 _ _ _ _ rfl ⟨rfl, ?_⟩)
   refine Rc.rw (l := [3]) (X := [(3, .sl o1 0 s3.length)]) rfl ?_
   exact Rc.fin (AHeap.Sub.refl _) ⟨M1 + 4, o1, (by omega), (by omega), (by omega), rfl, rfl⟩
 ·
  intro x a σ hx
  obtain ⟨y4, rfl⟩ : ∃ x, x = e1 := ⟨_, rfl⟩
  obtain ⟨rfl, b, τ, hr, M2, o2, fM2_0, fM2_1, fM2_2, rfl, rfl⟩ := hx
  dsimp only at H
  show K1 _ _
  refine hK1 _ _ (Rc_ref hr ?_)
  refine Rc.mk ?_
  refine AWP_sr tok [] [2] (fun a σ => a = [(2, .sl o2 0 y4.length)] ∧ σ = hp E0 [(o2, some ⟨28, 3, encL rMachine_oo y4⟩)] (M2 + 2)) (fun K hK => ?_) ?_
  ·
   skip
   simp -dsimp -implicitDefEqProofs (maxDischargeDepth := 6)
   exact hK _ _ ⟨rfl, rfl⟩
  rintro a σ ⟨rfl, rfl⟩
  replace H := Option.some.inj H; subst H
  refine AWP_kp [2] [(2, .sl o2 0 y4.length)] rfl ?_
  refine AWP_ret ?_
  refine ⟨[.sl o2 0 y4.length], by simp, M2 + 2, o2, by omega, by omega, by omega, ?_, ?_⟩
  ·
   simp [encL_nil]
  ·
   first | rfl | simp [List.set_set]
theorem c25_o6 {p0 : gSquad} {r : gSquad} (H : l_toSquad_o6 p0 = some r) {σ : AHeap} : ACalls Try.prog G 25 [.agg [.fsl (encL rMachine p0.Harts), .fsl (encL rBox p0.Boxes), .int .i64 p0.Turn, .int .i64 p0.Idle, .fsl (encL rI p0.Out)]] σ (fun v σ' => ∃ M n0 n1 n2 : Nat, σ.next ≤ M ∧ σ.next ≤ n0 ∧ n0 < M ∧ σ.next ≤ n1 ∧ n1 < M ∧ σ.next ≤ n2 ∧ n2 < M ∧ ¬ n0 = n1 ∧ ¬ n0 = n2 ∧ ¬ n1 = n2 ∧ v = .agg [.sl n0 0 r.Harts.length, .sl n1 0 r.Boxes.length, .int .i64 r.Turn, .int .i64 r.Idle, .sl n2 0 r.Out.length] ∧ σ' = hp σ.objs [(n0, some ⟨28, 3, encL rMachine_oo r.Harts⟩), (n1, some ⟨64, 2, encL rBox_o r.Boxes⟩), (n2, some ⟨3, 1, encL rI r.Out⟩)] M) := by
 refine ACalls_fr (L := []) (Q1 := fun v σ' => ∃ M n0 n1 n2 : Nat, σ.next ≤ M ∧ σ.next ≤ n0 ∧ n0 < M ∧ σ.next ≤ n1 ∧ n1 < M ∧ σ.next ≤ n2 ∧ n2 < M ∧ ¬ n0 = n1 ∧ ¬ n0 = n2 ∧ ¬ n1 = n2 ∧ v = .agg [.sl n0 0 r.Harts.length, .sl n1 0 r.Boxes.length, .int .i64 r.Turn, .int .i64 r.Idle, .sl n2 0 r.Out.length] ∧ σ' = hp E0 [(n0, some ⟨28, 3, encL rMachine_oo r.Harts⟩), (n1, some ⟨64, 2, encL rBox_o r.Boxes⟩), (n2, some ⟨3, 1, encL rI r.Out⟩)] M) (by simp []) (fun hlt => ?_) ?_ ⟨_, Try.func25, rfl, rfl⟩
 rotate_left
 ·
  rintro v σ1 ⟨M, n0, n1, n2, h0, h1, h2, h3, h4, h5, h6, h7, h8, h9, rfl, rfl⟩
  exact ⟨_, M, rfl, by simp, by simp; try omega, M, n0, n1, n2, h0, h1, h2, h3, h4, h5, h6, h7, h8, h9, rfl, rfl⟩
 generalize σ.next = N0 at hlt ⊢
 refine ACalls_thaw 4 ?_
 refine ACalls_fn tok Try.func25 (by kernel_rfl) rfl Try.ntmps25 Try.results25 rfl ?_
 simp only [argsA, Nat.reduceAdd, hp_next]
 unfold l_toSquad_o6 at H
 refine AWP_sr tok [0] [1, 2] (fun a σ => a = [(1, .fptr [.fsl (encL rMachine p0.Harts), .fsl (encL rBox p0.Boxes), .int .i64 p0.Turn, .int .i64 p0.Idle, .fsl (encL rI p0.Out)] 0), (2, .ptr (N0 + 1) 0 0)] ∧ σ = hp E0 [(N0 + 1, some ⟨52, 5, [[.nilsl, .nilsl, .int .i64 0, .int .i64 0, .nilsl]]⟩)] (N0 + 2)) (fun K hK => ?_) ?_
 ·
  skip
  simp -dsimp -implicitDefEqProofs (maxDischargeDepth := 6)
  exact hK _ _ ⟨rfl, rfl⟩
 rintro a σ ⟨rfl, rfl⟩
 refine AWP_sr tok [] [1, 2, 3] (fun a σ => a = [(1, .fptr [.fsl (encL rMachine p0.Harts), .fsl (encL rBox p0.Boxes), .int .i64 p0.Turn, .int .i64 p0.Idle, .fsl (encL rI p0.Out)] 0), (2, .ptr (N0 + 1) 0 0), (3, .ptr (N0 + 2) 0 0)] ∧ σ = hp E0 [(N0 + 1, some ⟨52, 5, [[.nilsl, .nilsl, .int .i64 0, .int .i64 0, .nilsl]]⟩), (N0 + 2, some ⟨52, 5, [[.nilsl, .nilsl, .int .i64 0, .int .i64 0, .nilsl]]⟩)] (N0 + 3)) (fun K hK => ?_) ?_
 ·
  skip
  simp -dsimp -implicitDefEqProofs (maxDischargeDepth := 6)
  exact hK _ _ ⟨rfl, rfl⟩
 rintro a σ ⟨rfl, rfl⟩
 refine gPk0 AWP_ref (o := (N0 + 1)) (ob := ⟨52, 5, [[.nilsl, .nilsl, .int .i64 0, .int .i64 0, .nilsl]]⟩) (row := [.nilsl, .nilsl, .int .i64 0, .int .i64 0, .nilsl]) (r := 0) (i := 0) 28 3 [(N0 + 1, some ⟨52, 5, [[.osl 28 3 (encL rMachine_oo ([] : List gMachine)), .nilsl, .int .i64 0, .int .i64 0, .nilsl]]⟩), (N0 + 2, some ⟨52, 5, [[.nilsl, .nilsl, .int .i64 0, .int .i64 0, .nilsl]]⟩)] (by simp (disch := omega)) rfl rfl (by simp (disch := omega)) (by simp (disch := omega) [encL_nil, List.set_set, app_set]) ?_
 refine gPk0 AWP_ref (o := (N0 + 1)) (ob := ⟨52, 5, [[.osl 28 3 (encL rMachine_oo ([] : List gMachine)), .nilsl, .int .i64 0, .int .i64 0, .nilsl]]⟩) (row := [.osl 28 3 (encL rMachine_oo ([] : List gMachine)), .nilsl, .int .i64 0, .int .i64 0, .nilsl]) (r := 0) (i := 1) 64 2 [(N0 + 1, some ⟨52, 5, [[.osl 28 3 (encL rMachine_oo ([] : List gMachine)), .osl 64 2 (encL rBox_o ([] : List gBox)), .int .i64 0, .int .i64 0, .nilsl]]⟩), (N0 + 2, some ⟨52, 5, [[.nilsl, .nilsl, .int .i64 0, .int .i64 0, .nilsl]]⟩)] (by simp (disch := omega)) rfl rfl (by simp (disch := omega)) (by simp (disch := omega) [encL_nil, List.set_set, app_set]) ?_
 refine gPk0 AWP_ref (o := (N0 + 1)) (ob := ⟨52, 5, [[.osl 28 3 (encL rMachine_oo ([] : List gMachine)), .osl 64 2 (encL rBox_o ([] : List gBox)), .int .i64 0, .int .i64 0, .nilsl]]⟩) (row := [.osl 28 3 (encL rMachine_oo ([] : List gMachine)), .osl 64 2 (encL rBox_o ([] : List gBox)), .int .i64 0, .int .i64 0, .nilsl]) (r := 0) (i := 4) 3 1 [(N0 + 1, some ⟨52, 5, [[.osl 28 3 (encL rMachine_oo ([] : List gMachine)), .osl 64 2 (encL rBox_o ([] : List gBox)), .int .i64 0, .int .i64 0, .osl 3 1 (encL rI ([] : List Int))]]⟩), (N0 + 2, some ⟨52, 5, [[.nilsl, .nilsl, .int .i64 0, .int .i64 0, .nilsl]]⟩)] (by simp (disch := omega)) rfl rfl (by simp (disch := omega)) (by simp (disch := omega) [encL_nil, List.set_set, app_set]) ?_
 refine gPk0 AWP_ref (o := (N0 + 2)) (ob := ⟨52, 5, [[.nilsl, .nilsl, .int .i64 0, .int .i64 0, .nilsl]]⟩) (row := [.nilsl, .nilsl, .int .i64 0, .int .i64 0, .nilsl]) (r := 0) (i := 0) 28 3 [(N0 + 1, some ⟨52, 5, [[.osl 28 3 (encL rMachine_oo ([] : List gMachine)), .osl 64 2 (encL rBox_o ([] : List gBox)), .int .i64 0, .int .i64 0, .osl 3 1 (encL rI ([] : List Int))]]⟩), (N0 + 2, some ⟨52, 5, [[.osl 28 3 (encL rMachine_oo ([] : List gMachine)), .nilsl, .int .i64 0, .int .i64 0, .nilsl]]⟩)] (by simp (disch := omega)) rfl rfl (by simp (disch := omega)) (by simp (disch := omega) [encL_nil, List.set_set, app_set]) ?_
 refine gPk0 AWP_ref (o := (N0 + 2)) (ob := ⟨52, 5, [[.osl 28 3 (encL rMachine_oo ([] : List gMachine)), .nilsl, .int .i64 0, .int .i64 0, .nilsl]]⟩) (row := [.osl 28 3 (encL rMachine_oo ([] : List gMachine)), .nilsl, .int .i64 0, .int .i64 0, .nilsl]) (r := 0) (i := 1) 64 2 [(N0 + 1, some ⟨52, 5, [[.osl 28 3 (encL rMachine_oo ([] : List gMachine)), .osl 64 2 (encL rBox_o ([] : List gBox)), .int .i64 0, .int .i64 0, .osl 3 1 (encL rI ([] : List Int))]]⟩), (N0 + 2, some ⟨52, 5, [[.osl 28 3 (encL rMachine_oo ([] : List gMachine)), .osl 64 2 (encL rBox_o ([] : List gBox)), .int .i64 0, .int .i64 0, .nilsl]]⟩)] (by simp (disch := omega)) rfl rfl (by simp (disch := omega)) (by simp (disch := omega) [encL_nil, List.set_set, app_set]) ?_
 refine gWkC AWP_ref (o := (N0 + 2)) (ob := ⟨52, 5, [[.osl 28 3 (encL rMachine_oo ([] : List gMachine)), .osl 64 2 (encL rBox_o ([] : List gBox)), .int .i64 0, .int .i64 0, .nilsl]]⟩) (row := [.osl 28 3 (encL rMachine_oo ([] : List gMachine)), .osl 64 2 (encL rBox_o ([] : List gBox)), .int .i64 0, .int .i64 0, .nilsl]) (r := 0) (i := 4) [(N0 + 1, some ⟨52, 5, [[.osl 28 3 (encL rMachine_oo ([] : List gMachine)), .osl 64 2 (encL rBox_o ([] : List gBox)), .int .i64 0, .int .i64 0, .osl 3 1 (encL rI ([] : List Int))]]⟩), (N0 + 2, some ⟨52, 5, [[.osl 28 3 (encL rMachine_oo ([] : List gMachine)), .osl 64 2 (encL rBox_o ([] : List gBox)), .int .i64 0, .int .i64 0, .fsl []]]⟩)] (by simp (disch := omega)) rfl rfl (by simp (disch := omega)) (by simp (disch := omega) [encL_nil, List.set_set, app_set]) ?_
 obtain ⟨r1, hr1, H⟩ := bindE H
 refine AWP_sr tok [] [1, 2, 3] (fun a σ => ∃ M1 o1 : Nat, N0 + 8 ≤ M1 ∧ N0 + 8 ≤ o1 ∧ o1 < M1 ∧ a = [(1, .fptr [.fsl (encL rMachine p0.Harts), .fsl (encL rBox p0.Boxes), .int .i64 p0.Turn, .int .i64 p0.Idle, .fsl (encL rI p0.Out)] 0), (2, .ptr (N0 + 1) 0 0), (3, .ptr (N0 + 2) 0 0)] ∧ σ = hp E0 [(N0 + 1, some ⟨52, 5, [[.osl 28 3 (encL rMachine_oo ([] : List gMachine)), .osl 64 2 (encL rBox_o ([] : List gBox)), .int .i64 0, .int .i64 0, .osl 3 1 (encL rI ([] : List Int))]]⟩), (N0 + 2, some ⟨52, 5, [[.sl o1 0 r1.length, .osl 64 2 (encL rBox_o ([] : List gBox)), .int .i64 0, .int .i64 0, .fsl []]]⟩), (o1, some ⟨28, 3, encL rMachine_oo r1⟩)] M1) (fun K hK => ?_) ?_
 ·
  skip
  simp -dsimp -implicitDefEqProofs (maxDischargeDepth := 6)
  refine (c59_o3 (H := hr1) ).mono ?_; rintro _ _ ⟨M1, o1, fM1_0, fM1_1, fM1_2, rfl, rfl⟩; simp only [hp_next] at fM1_0 fM1_1 fM1_2
  have eM1_0 := nq (a := o1) (b := N0 + 1) (by omega)
  have eM1_1 := nq (a := o1) (b := N0 + 2) (by omega)
  try simp -dsimp -implicitDefEqProofs (maxDischargeDepth := 6) [eM1_0, eM1_1, hp_over_some, hp_over_none]
  exact hK _ _ ⟨M1, o1, (by omega), (by omega), (by omega), rfl, rfl⟩
 rintro a σ ⟨M1, o1, fM1_0, fM1_1, fM1_2, rfl, rfl⟩
 refine gPk AWP_ref (k := r1.length) (o := (N0 + 2)) (ob := ⟨52, 5, [[.sl o1 0 r1.length, .osl 64 2 (encL rBox_o ([] : List gBox)), .int .i64 0, .int .i64 0, .fsl []]]⟩) (row := [.sl o1 0 r1.length, .osl 64 2 (encL rBox_o ([] : List gBox)), .int .i64 0, .int .i64 0, .fsl []]) (d := o1) (obd := ⟨28, 3, encL rMachine_oo r1⟩) (r := 0) (i := 0) [(N0 + 1, some ⟨52, 5, [[.osl 28 3 (encL rMachine_oo ([] : List gMachine)), .osl 64 2 (encL rBox_o ([] : List gBox)), .int .i64 0, .int .i64 0, .osl 3 1 (encL rI ([] : List Int))]]⟩), (N0 + 2, some ⟨52, 5, [[.osl 28 3 (encL rMachine_oo r1), .osl 64 2 (encL rBox_o ([] : List gBox)), .int .i64 0, .int .i64 0, .fsl []]]⟩)] (by simp (disch := omega)) rfl rfl (by simp (disch := omega)) (by simp (disch := omega)) (by first | omega | simp) (by simp (disch := omega) [List.set_set, app_set] <;> omega) (by simp (disch := omega) [List.set_set, app_set]) ?_
 obtain ⟨r2, hr2, H⟩ := bindE H
 refine AWP_sr tok [] [1, 2, 3] (fun a σ => ∃ M2 o2 : Nat, M1 + 5 ≤ M2 ∧ M1 + 5 ≤ o2 ∧ o2 < M2 ∧ a = [(1, .fptr [.fsl (encL rMachine p0.Harts), .fsl (encL rBox p0.Boxes), .int .i64 p0.Turn, .int .i64 p0.Idle, .fsl (encL rI p0.Out)] 0), (2, .ptr (N0 + 1) 0 0), (3, .ptr (N0 + 2) 0 0)] ∧ σ = hp E0 [(N0 + 1, some ⟨52, 5, [[.osl 28 3 (encL rMachine_oo ([] : List gMachine)), .osl 64 2 (encL rBox_o ([] : List gBox)), .int .i64 0, .int .i64 0, .osl 3 1 (encL rI ([] : List Int))]]⟩), (N0 + 2, some ⟨52, 5, [[.osl 28 3 (encL rMachine_oo r1), .sl o2 0 r2.length, .int .i64 0, .int .i64 0, .fsl []]]⟩), (o2, some ⟨64, 2, encL rBox_o r2⟩)] M2) (fun K hK => ?_) ?_
 ·
  skip
  simp -dsimp -implicitDefEqProofs (maxDischargeDepth := 6)
  refine (c12_o2 (H := hr2) ).mono ?_; rintro _ _ ⟨M2, o2, fM2_0, fM2_1, fM2_2, rfl, rfl⟩; simp only [hp_next] at fM2_0 fM2_1 fM2_2
  have eM2_0 := nq (a := o2) (b := N0 + 1) (by omega)
  have eM2_1 := nq (a := o2) (b := N0 + 2) (by omega)
  try simp -dsimp -implicitDefEqProofs (maxDischargeDepth := 6) [eM2_0, eM2_1, hp_over_some, hp_over_none]
  exact hK _ _ ⟨M2, o2, (by omega), (by omega), (by omega), rfl, rfl⟩
 rintro a σ ⟨M2, o2, fM2_0, fM2_1, fM2_2, rfl, rfl⟩
 refine AWP_sr tok [] [1, 2, 3] (fun a σ => a = [(1, .fptr [.fsl (encL rMachine p0.Harts), .fsl (encL rBox p0.Boxes), .int .i64 p0.Turn, .int .i64 p0.Idle, .fsl (encL rI p0.Out)] 0), (2, .ptr (N0 + 1) 0 0), (3, .ptr (N0 + 2) 0 0)] ∧ σ = hp E0 [(N0 + 1, some ⟨52, 5, [[.osl 28 3 (encL rMachine_oo ([] : List gMachine)), .osl 64 2 (encL rBox_o ([] : List gBox)), .int .i64 0, .int .i64 0, .osl 3 1 (encL rI ([] : List Int))]]⟩), (N0 + 2, some ⟨52, 5, [[.osl 28 3 (encL rMachine_oo r1), .sl o2 0 r2.length, .int .i64 p0.Turn, .int .i64 0, .fsl []]]⟩), (o2, some ⟨64, 2, encL rBox_o r2⟩)] (M2 + 4)) (fun K hK => ?_) ?_
 ·
  skip
  have e0 := nq (a := N0 + 1) (b := o2) (by omega)
  have e1 := nq (a := N0 + 2) (b := o2) (by omega)
  simp -dsimp -implicitDefEqProofs (maxDischargeDepth := 6) [e0, e1]
  exact hK _ _ ⟨rfl, rfl⟩
 rintro a σ ⟨rfl, rfl⟩
 refine AWP_sr tok [] [1, 2, 3] (fun a σ => a = [(1, .fptr [.fsl (encL rMachine p0.Harts), .fsl (encL rBox p0.Boxes), .int .i64 p0.Turn, .int .i64 p0.Idle, .fsl (encL rI p0.Out)] 0), (2, .ptr (N0 + 1) 0 0), (3, .ptr (N0 + 2) 0 0)] ∧ σ = hp E0 [(N0 + 1, some ⟨52, 5, [[.osl 28 3 (encL rMachine_oo ([] : List gMachine)), .osl 64 2 (encL rBox_o ([] : List gBox)), .int .i64 0, .int .i64 0, .osl 3 1 (encL rI ([] : List Int))]]⟩), (N0 + 2, some ⟨52, 5, [[.osl 28 3 (encL rMachine_oo r1), .sl o2 0 r2.length, .int .i64 p0.Turn, .int .i64 p0.Idle, .fsl []]]⟩), (o2, some ⟨64, 2, encL rBox_o r2⟩)] (M2 + 8)) (fun K hK => ?_) ?_
 ·
  skip
  have e0 := nq (a := N0 + 1) (b := o2) (by omega)
  have e1 := nq (a := N0 + 2) (b := o2) (by omega)
  simp -dsimp -implicitDefEqProofs (maxDischargeDepth := 6) [e0, e1]
  exact hK _ _ ⟨rfl, rfl⟩
 rintro a σ ⟨rfl, rfl⟩
 refine gPk AWP_ref (k := r2.length) (o := (N0 + 2)) (ob := ⟨52, 5, [[.osl 28 3 (encL rMachine_oo r1), .sl o2 0 r2.length, .int .i64 p0.Turn, .int .i64 p0.Idle, .fsl []]]⟩) (row := [.osl 28 3 (encL rMachine_oo r1), .sl o2 0 r2.length, .int .i64 p0.Turn, .int .i64 p0.Idle, .fsl []]) (d := o2) (obd := ⟨64, 2, encL rBox_o r2⟩) (r := 0) (i := 1) [(N0 + 1, some ⟨52, 5, [[.osl 28 3 (encL rMachine_oo ([] : List gMachine)), .osl 64 2 (encL rBox_o ([] : List gBox)), .int .i64 0, .int .i64 0, .osl 3 1 (encL rI ([] : List Int))]]⟩), (N0 + 2, some ⟨52, 5, [[.osl 28 3 (encL rMachine_oo r1), .osl 64 2 (encL rBox_o r2), .int .i64 p0.Turn, .int .i64 p0.Idle, .fsl []]]⟩)] (by simp (disch := omega)) rfl rfl (by simp (disch := omega)) (by simp (disch := omega)) (by first | omega | simp) (by simp (disch := omega) [List.set_set, app_set] <;> omega) (by simp (disch := omega) [List.set_set, app_set]) ?_
 obtain ⟨r3, hr3, H⟩ := bindE H
 refine AWP_sr tok [] [2, 3] (fun a σ => ∃ M3 o3 : Nat, M2 + 13 ≤ M3 ∧ M2 + 13 ≤ o3 ∧ o3 < M3 ∧ a = [(2, .ptr (N0 + 1) 0 0), (3, .ptr (N0 + 2) 0 0)] ∧ σ = hp E0 [(N0 + 1, some ⟨52, 5, [[.osl 28 3 (encL rMachine_oo ([] : List gMachine)), .osl 64 2 (encL rBox_o ([] : List gBox)), .int .i64 0, .int .i64 0, .osl 3 1 (encL rI ([] : List Int))]]⟩), (N0 + 2, some ⟨52, 5, [[.osl 28 3 (encL rMachine_oo r1), .osl 64 2 (encL rBox_o r2), .int .i64 p0.Turn, .int .i64 p0.Idle, .sl o3 0 r3.length]]⟩), (o3, some ⟨3, 1, encL rI r3⟩)] M3) (fun K hK => ?_) ?_
 ·
  skip
  simp -dsimp -implicitDefEqProofs (maxDischargeDepth := 6)
  refine (c48_o (H := hr3) ).mono ?_; rintro _ _ ⟨M3, o3, fM3_0, fM3_1, fM3_2, rfl, rfl⟩; simp only [hp_next] at fM3_0 fM3_1 fM3_2
  have eM3_0 := nq (a := o3) (b := N0 + 1) (by omega)
  have eM3_1 := nq (a := o3) (b := N0 + 2) (by omega)
  try simp -dsimp -implicitDefEqProofs (maxDischargeDepth := 6) [eM3_0, eM3_1, hp_over_some, hp_over_none]
  exact hK _ _ ⟨M3, o3, (by omega), (by omega), (by omega), rfl, rfl⟩
 rintro a σ ⟨M3, o3, fM3_0, fM3_1, fM3_2, rfl, rfl⟩
 refine gUnp AWP_ref (ty := 28) (sz := 3) (es := encL rMachine_oo r1) (o := (N0 + 2)) (ob := ⟨52, 5, [[.osl 28 3 (encL rMachine_oo r1), .osl 64 2 (encL rBox_o r2), .int .i64 p0.Turn, .int .i64 p0.Idle, .sl o3 0 r3.length]]⟩) (row := [.osl 28 3 (encL rMachine_oo r1), .osl 64 2 (encL rBox_o r2), .int .i64 p0.Turn, .int .i64 p0.Idle, .sl o3 0 r3.length]) (r := 0) (i := 0) [(N0 + 1, some ⟨52, 5, [[.osl 28 3 (encL rMachine_oo ([] : List gMachine)), .osl 64 2 (encL rBox_o ([] : List gBox)), .int .i64 0, .int .i64 0, .osl 3 1 (encL rI ([] : List Int))]]⟩), (N0 + 2, some ⟨52, 5, [[.sl M3 0 r1.length, .osl 64 2 (encL rBox_o r2), .int .i64 p0.Turn, .int .i64 p0.Idle, .sl o3 0 r3.length]]⟩), (o3, some ⟨3, 1, encL rI r3⟩), (M3, some ⟨28, 3, encL rMachine_oo r1⟩)] (by simp (disch := omega)) rfl rfl (by simp (disch := omega) [List.set_set]) ?_
 refine gUnp AWP_ref (ty := 64) (sz := 2) (es := encL rBox_o r2) (o := (N0 + 2)) (ob := ⟨52, 5, [[.sl M3 0 r1.length, .osl 64 2 (encL rBox_o r2), .int .i64 p0.Turn, .int .i64 p0.Idle, .sl o3 0 r3.length]]⟩) (row := [.sl M3 0 r1.length, .osl 64 2 (encL rBox_o r2), .int .i64 p0.Turn, .int .i64 p0.Idle, .sl o3 0 r3.length]) (r := 0) (i := 1) [(N0 + 1, some ⟨52, 5, [[.osl 28 3 (encL rMachine_oo ([] : List gMachine)), .osl 64 2 (encL rBox_o ([] : List gBox)), .int .i64 0, .int .i64 0, .osl 3 1 (encL rI ([] : List Int))]]⟩), (N0 + 2, some ⟨52, 5, [[.sl M3 0 r1.length, .sl (M3 + 1) 0 r2.length, .int .i64 p0.Turn, .int .i64 p0.Idle, .sl o3 0 r3.length]]⟩), (o3, some ⟨3, 1, encL rI r3⟩), (M3, some ⟨28, 3, encL rMachine_oo r1⟩), (M3 + 1, some ⟨64, 2, encL rBox_o r2⟩)] (by simp (disch := omega)) rfl rfl (by simp (disch := omega) [List.set_set]) ?_
 refine AWP_sr tok [] [2] (fun a σ => a = [(2, .ptr (N0 + 1) 0 0)] ∧ σ = hp E0 [(N0 + 1, some ⟨52, 5, [[.sl M3 0 r1.length, .sl (M3 + 1) 0 r2.length, .int .i64 p0.Turn, .int .i64 p0.Idle, .sl o3 0 r3.length]]⟩), (N0 + 2, some ⟨52, 5, [[.sl M3 0 r1.length, .sl (M3 + 1) 0 r2.length, .int .i64 p0.Turn, .int .i64 p0.Idle, .sl o3 0 r3.length]]⟩), (o3, some ⟨3, 1, encL rI r3⟩), (M3, some ⟨28, 3, encL rMachine_oo r1⟩), (M3 + 1, some ⟨64, 2, encL rBox_o r2⟩)] (M3 + 4)) (fun K hK => ?_) ?_
 ·
  skip
  have e0 := nq (a := N0 + 1) (b := o3) (by omega)
  have e1 := nq (a := N0 + 1) (b := M3) (by omega)
  have e2 := nq (a := N0 + 1) (b := M3 + 1) (by omega)
  have e3 := nq (a := N0) (b := M3) (by omega)
  have e4 := nq (a := N0 + 2) (b := o3) (by omega)
  have e5 := nq (a := N0 + 2) (b := M3) (by omega)
  have e6 := nq (a := N0 + 2) (b := M3 + 1) (by omega)
  have e7 := nq (a := o3) (b := M3) (by omega)
  have e8 := nq (a := o3) (b := M3 + 1) (by omega)
  simp -dsimp -implicitDefEqProofs (maxDischargeDepth := 6) [e0, e1, e2, e3, e4, e5, e6, e7, e8]
  exact hK _ _ ⟨rfl, rfl⟩
 rintro a σ ⟨rfl, rfl⟩
 replace H := Option.some.inj H; subst H
 refine AWP_kp [2] [(2, .ptr (N0 + 1) 0 0)] rfl ?_
 refine gDrop AWP_ref [(N0 + 1, some ⟨52, 5, [[.sl M3 0 r1.length, .sl (M3 + 1) 0 r2.length, .int .i64 p0.Turn, .int .i64 p0.Idle, .sl o3 0 r3.length]]⟩), (o3, some ⟨3, 1, encL rI r3⟩), (M3, some ⟨28, 3, encL rMachine_oo r1⟩), (M3 + 1, some ⟨64, 2, encL rBox_o r2⟩)] (hp_skip (AHeap.Sub.trans (hp_skip (hp_skip (hp_skip (AHeap.Sub.refl _)))) (hp_drop rfl (by simp; try omega)))) ?_
 refine gPk AWP_ref (k := r1.length) (o := (N0 + 1)) (ob := ⟨52, 5, [[.sl M3 0 r1.length, .sl (M3 + 1) 0 r2.length, .int .i64 p0.Turn, .int .i64 p0.Idle, .sl o3 0 r3.length]]⟩) (row := [.sl M3 0 r1.length, .sl (M3 + 1) 0 r2.length, .int .i64 p0.Turn, .int .i64 p0.Idle, .sl o3 0 r3.length]) (d := M3) (obd := ⟨28, 3, encL rMachine_oo r1⟩) (r := 0) (i := 0) [(N0 + 1, some ⟨52, 5, [[.osl 28 3 (encL rMachine_oo r1), .sl (M3 + 1) 0 r2.length, .int .i64 p0.Turn, .int .i64 p0.Idle, .sl o3 0 r3.length]]⟩), (o3, some ⟨3, 1, encL rI r3⟩), (M3 + 1, some ⟨64, 2, encL rBox_o r2⟩)] (by simp (disch := omega)) rfl rfl (by simp (disch := omega)) (by simp (disch := omega)) (by first | omega | simp) (by simp (disch := omega) [List.set_set, app_set] <;> omega) (by simp (disch := omega) [List.set_set, app_set]) ?_
 refine gPk AWP_ref (k := r2.length) (o := (N0 + 1)) (ob := ⟨52, 5, [[.osl 28 3 (encL rMachine_oo r1), .sl (M3 + 1) 0 r2.length, .int .i64 p0.Turn, .int .i64 p0.Idle, .sl o3 0 r3.length]]⟩) (row := [.osl 28 3 (encL rMachine_oo r1), .sl (M3 + 1) 0 r2.length, .int .i64 p0.Turn, .int .i64 p0.Idle, .sl o3 0 r3.length]) (d := (M3 + 1)) (obd := ⟨64, 2, encL rBox_o r2⟩) (r := 0) (i := 1) [(N0 + 1, some ⟨52, 5, [[.osl 28 3 (encL rMachine_oo r1), .osl 64 2 (encL rBox_o r2), .int .i64 p0.Turn, .int .i64 p0.Idle, .sl o3 0 r3.length]]⟩), (o3, some ⟨3, 1, encL rI r3⟩)] (by simp (disch := omega)) rfl rfl (by simp (disch := omega)) (by simp (disch := omega)) (by first | omega | simp) (by simp (disch := omega) [List.set_set, app_set] <;> omega) (by simp (disch := omega) [List.set_set, app_set]) ?_
 refine gPk AWP_ref (k := r3.length) (o := (N0 + 1)) (ob := ⟨52, 5, [[.osl 28 3 (encL rMachine_oo r1), .osl 64 2 (encL rBox_o r2), .int .i64 p0.Turn, .int .i64 p0.Idle, .sl o3 0 r3.length]]⟩) (row := [.osl 28 3 (encL rMachine_oo r1), .osl 64 2 (encL rBox_o r2), .int .i64 p0.Turn, .int .i64 p0.Idle, .sl o3 0 r3.length]) (d := o3) (obd := ⟨3, 1, encL rI r3⟩) (r := 0) (i := 4) [(N0 + 1, some ⟨52, 5, [[.osl 28 3 (encL rMachine_oo r1), .osl 64 2 (encL rBox_o r2), .int .i64 p0.Turn, .int .i64 p0.Idle, .osl 3 1 (encL rI r3)]]⟩)] (by simp (disch := omega)) rfl rfl (by simp (disch := omega)) (by simp (disch := omega)) (by first | omega | simp) (by simp (disch := omega) [List.set_set, app_set] <;> omega) (by simp (disch := omega) [List.set_set, app_set]) ?_
 refine gUnp AWP_ref (ty := 28) (sz := 3) (es := encL rMachine_oo r1) (o := (N0 + 1)) (ob := ⟨52, 5, [[.osl 28 3 (encL rMachine_oo r1), .osl 64 2 (encL rBox_o r2), .int .i64 p0.Turn, .int .i64 p0.Idle, .osl 3 1 (encL rI r3)]]⟩) (row := [.osl 28 3 (encL rMachine_oo r1), .osl 64 2 (encL rBox_o r2), .int .i64 p0.Turn, .int .i64 p0.Idle, .osl 3 1 (encL rI r3)]) (r := 0) (i := 0) [(N0 + 1, some ⟨52, 5, [[.sl (M3 + 4) 0 r1.length, .osl 64 2 (encL rBox_o r2), .int .i64 p0.Turn, .int .i64 p0.Idle, .osl 3 1 (encL rI r3)]]⟩), (M3 + 4, some ⟨28, 3, encL rMachine_oo r1⟩)] (by simp (disch := omega)) rfl rfl (by simp (disch := omega) [List.set_set]) ?_
 refine gUnp AWP_ref (ty := 64) (sz := 2) (es := encL rBox_o r2) (o := (N0 + 1)) (ob := ⟨52, 5, [[.sl (M3 + 4) 0 r1.length, .osl 64 2 (encL rBox_o r2), .int .i64 p0.Turn, .int .i64 p0.Idle, .osl 3 1 (encL rI r3)]]⟩) (row := [.sl (M3 + 4) 0 r1.length, .osl 64 2 (encL rBox_o r2), .int .i64 p0.Turn, .int .i64 p0.Idle, .osl 3 1 (encL rI r3)]) (r := 0) (i := 1) [(N0 + 1, some ⟨52, 5, [[.sl (M3 + 4) 0 r1.length, .sl (M3 + 5) 0 r2.length, .int .i64 p0.Turn, .int .i64 p0.Idle, .osl 3 1 (encL rI r3)]]⟩), (M3 + 4, some ⟨28, 3, encL rMachine_oo r1⟩), (M3 + 5, some ⟨64, 2, encL rBox_o r2⟩)] (by simp (disch := omega)) rfl rfl (by simp (disch := omega) [List.set_set]) ?_
 refine gUnp AWP_ref (ty := 3) (sz := 1) (es := encL rI r3) (o := (N0 + 1)) (ob := ⟨52, 5, [[.sl (M3 + 4) 0 r1.length, .sl (M3 + 5) 0 r2.length, .int .i64 p0.Turn, .int .i64 p0.Idle, .osl 3 1 (encL rI r3)]]⟩) (row := [.sl (M3 + 4) 0 r1.length, .sl (M3 + 5) 0 r2.length, .int .i64 p0.Turn, .int .i64 p0.Idle, .osl 3 1 (encL rI r3)]) (r := 0) (i := 4) [(N0 + 1, some ⟨52, 5, [[.sl (M3 + 4) 0 r1.length, .sl (M3 + 5) 0 r2.length, .int .i64 p0.Turn, .int .i64 p0.Idle, .sl (M3 + 6) 0 r3.length]]⟩), (M3 + 4, some ⟨28, 3, encL rMachine_oo r1⟩), (M3 + 5, some ⟨64, 2, encL rBox_o r2⟩), (M3 + 6, some ⟨3, 1, encL rI r3⟩)] (by simp (disch := omega)) rfl rfl (by simp (disch := omega) [List.set_set]) ?_
 have z0 := nq (a := N0 + 1) (b := M3 + 4) (by omega)
 have z1 := nq (a := N0) (b := M3 + 3) (by omega)
 have z2 := nq (a := N0 + 1) (b := M3 + 5) (by omega)
 have z3 := nq (a := N0) (b := M3 + 4) (by omega)
 have z4 := nq (a := N0 + 1) (b := M3 + 6) (by omega)
 have z5 := nq (a := N0) (b := M3 + 5) (by omega)
 refine AWP_ret ?_
 refine ⟨[.agg [.sl (M3 + 4) 0 r1.length, .sl (M3 + 5) 0 r2.length, .int .i64 p0.Turn, .int .i64 p0.Idle, .sl (M3 + 6) 0 r3.length]], by simp [z0, z1, z2, z3, z4, z5], (fun o => [N0 + 1].contains o), M3 + 7, M3 + 4, M3 + 5, M3 + 6, by omega, by omega, by omega, by omega, by omega, by omega, by omega, by omega, by omega, by omega, ?_, ?_⟩
 ·
  simp [encL_nil, z0, z1, z2, z3, z4, z5]
 ·
  rw [cutD (L' := [(M3 + 4, some ⟨28, 3, encL rMachine_oo r1⟩), (M3 + 5, some ⟨64, 2, encL rBox_o r2⟩), (M3 + 6, some ⟨3, 1, encL rI r3⟩)]) (by simp [z0, z1, z2, z3, z4, z5])]
  first | done | rfl | simp [List.set_set]
theorem c66 {p0 : (List (List Int))} {p1 : Int} {r : Int × (List (List Int))} (H : l_markIntSS p0 p1 = some r) {σ : AHeap} {w0 : Nat} (q0 : σ.objs w0 = some ⟨22, 1, encL rL_I_o p0⟩) : ACalls Try.prog G 66 [.sl w0 0 p0.length, .int .i64 p1] σ (fun v σ' => ∃ M : Nat, σ.next ≤ M ∧ r.2.length = p0.length ∧ v = .int .i64 r.1 ∧ σ' = hp σ.objs [(w0, some ⟨22, 1, encL rL_I_o r.2⟩)] M) := by
 refine ACalls_fr (L := [(w0, some ⟨22, 1, encL rL_I_o p0⟩)]) (Q1 := fun v σ' => ∃ M : Nat, σ.next ≤ M ∧ r.2.length = p0.length ∧ v = .int .i64 r.1 ∧ σ' = hp E0 [(w0, some ⟨22, 1, encL rL_I_o r.2⟩)] M) (by simp [q0]) (fun hlt => ?_) ?_ ⟨_, Try.func66, rfl, rfl⟩
 rotate_left
 ·
  rintro v σ1 ⟨M, h0, h1, rfl, rfl⟩
  exact ⟨_, M, rfl, by simp, by simp; try omega, M, h0, h1, rfl, rfl⟩
 generalize σ.next = N0 at hlt ⊢
 have lw0 : w0 < N0 := hlt _ (.head _) rfl
 refine ACalls_fn tok Try.func66 (by kernel_rfl) rfl Try.ntmps66 Try.results66 rfl ?_
 simp only [argsA, Nat.reduceAdd, hp_next]
 unfold l_markIntSS at H
 refine AWP_sr tok [] [0, 1] (fun a σ => a = [(0, .sl w0 0 p0.length), (1, .int .i64 p1)] ∧ σ = hp E0 [(w0, some ⟨22, 1, encL rL_I_o p0⟩)] (N0 + 1)) (fun K hK => ?_) ?_
 ·
  skip
  simp -dsimp -implicitDefEqProofs (maxDischargeDepth := 6)
  exact hK _ _ ⟨rfl, rfl⟩
 rintro a σ ⟨rfl, rfl⟩
 refine AWP_sq [1] fun K1 hK1 => ?_
 refine AWP_sr tok [] [0, 1, 5] (fun a σ => a = [(0, .sl w0 0 p0.length), (1, .int .i64 p1), (5, .int .i64 0)] ∧ σ = hp E0 [(w0, some ⟨22, 1, encL rL_I_o p0⟩)] (N0 + 2)) (fun K hK => ?_) ?_
 ·
  skip
  simp -dsimp -implicitDefEqProofs (maxDischargeDepth := 6)
  exact hK _ _ ⟨rfl, rfl⟩
 rintro a σ ⟨rfl, rfl⟩
 refine AWP_block (AWP_thenB ?_)
 obtain ⟨e1, hse1, H⟩ := bindE H
 refine AWP_lp [0, 1, 5] (fun s a σ => ∃ M1 : Nat, N0 ≤ M1 ∧ s.2.2.length = p0.length ∧ a = [(0, .sl w0 0 s.2.2.length), (1, .int .i64 s.1), (5, .int .i64 s.2.1)] ∧ σ = hp E0 [(w0, some ⟨22, 1, encL rL_I_o s.2.2⟩)] M1) (fun s x a σ => x = .exit 0 ∧ Rc G 19 N0 (fun a σ => ∃ M2 : Nat, N0 ≤ M2 ∧ s.2.length = p0.length ∧ a = [(1, .int .i64 s.1)] ∧ σ = hp E0 [(w0, some ⟨22, 1, encL rL_I_o s.2⟩)] M2) (AAct.keep a [1]) σ) hse1 ?_ ?_ ?_
 ·
  refine Rc.kp [0, 1, 5] [(0, .sl w0 0 p0.length), (1, .int .i64 p1), (5, .int .i64 0)] rfl ?_
  exact Rc.fin (AHeap.Sub.refl _) ⟨N0 + 2, (by omega), (by first | rfl | exact rfl | omega), rfl, rfl⟩
 ·
  clear H hse1
  rintro ⟨s1, s2, s3⟩ fl a σ H ⟨M1, fM1_0, fM1_1, rfl, rfl⟩ K2 O2 hK2 hO2
  unfold l_markIntSS_L1 at H; dsimp only at H
  refine AWP_sq [0, 1, 5] fun K3 hK3 => ?_
  refine AWP_sr tok [] [0, 1, 5, 9] (fun a σ => a = [(0, .sl w0 0 s3.length), (1, .int .i64 s1), (5, .int .i64 s2), (9, .bool (ilt s2 (ilen s3)))] ∧ σ = hp E0 [(w0, some ⟨22, 1, encL rL_I_o s3⟩)] (M1 + 4)) (fun K hK => ?_) ?_
  ·
   skip
   simp -dsimp -implicitDefEqProofs (maxDischargeDepth := 6)
   exact hK _ _ ⟨rfl, rfl⟩
  rintro a σ ⟨rfl, rfl⟩
  refine AWP_cond (ilt s2 (ilen s3)) rfl (fun C1 => ?_) (fun C1 => ?_)
  ·
   replace H := ifT C1 H
   refine AWP_skip ?_
   show K3 _ _
   refine keepE (l := [0, 1, 5]) (x := [(0, .sl w0 0 s3.length), (1, .int .i64 s1), (5, .int .i64 s2)]) rfl fun a' ha => ?_
   refine hK3 _ _ ?_; rw [ha]
   refine Rc.mk ?_
   refine AWP_sq [0, 1, 5] fun K4 hK4 => ?_
   refine AWP_block (AWP_thenB ?_)
   obtain ⟨v6, hv6, H⟩ := bindE H
   refine gUnp AWP_ref (ty := 3) (sz := 1) (es := encL rI v6) (o := w0) (ob := ⟨22, 1, encL rL_I_o s3⟩) (row := [.osl 3 1 (encL rI v6)]) (r := s2.toNat) (i := 0) [(w0, some ⟨22, 1, (encL rL_I_o s3).set s2.toNat [.sl (M1 + 4) 0 v6.length]⟩), (M1 + 4, some ⟨3, 1, encL rI v6⟩)] (by simp (disch := omega)) (encL_at rL_I_o hv6) rfl (by simp (disch := omega) [List.set_set]) ?_
   obtain ⟨r7, hr7, H⟩ := bindE H
   refine AWP_rt tok [] [0, 1, 5] (fun a σ => ∃ M3 : Nat, M1 + 12 ≤ M3 ∧ r7.2.length = v6.length ∧ a = [(0, .sl w0 0 s3.length), (1, .int .i64 r7.1), (5, .int .i64 s2)] ∧ σ = hp E0 [(w0, some ⟨22, 1, (encL rL_I_o s3).set s2.toNat [.sl (M1 + 4) 0 v6.length]⟩), (M1 + 4, some ⟨3, 1, encL rI r7.2⟩)] M3) (fun K hK => ?_) ?_
   ·
    skip
    have e0 := nq (a := w0) (b := M1 + 4) (by omega)
    simp -dsimp -implicitDefEqProofs (maxDischargeDepth := 6) [e0, (gset hv6 _), List.set_set, ixo45 hv6, (idx_lt3 hv6).2.2]
    refine (c19 (H := hr7) (by simp [e0, (gset hv6 _), List.set_set, ixo45 hv6, (idx_lt3 hv6).2.2])).mono ?_; rintro _ _ ⟨M3, fM3_0, fM3_1, rfl, rfl⟩; simp only [hp_next] at fM3_0
    try simp -dsimp -implicitDefEqProofs (maxDischargeDepth := 6) [e0, (gset hv6 _), List.set_set, ixo45 hv6, (idx_lt3 hv6).2.2, hp_over_some, hp_over_none]
    exact hK _ _ ⟨M3, (by omega), fM3_1, rfl, rfl⟩
   rintro a σ ⟨M3, fM3_0, fM3_1, ha, rfl⟩
   (try rw [← fM3_1] at ha); (try rw [← fM3_1])
   refine hK4 _ _ ?_; rw [ha]
   refine Rc.mk ?_
   refine AWP_rt tok [] [0, 1, 5] (fun a σ => a = [(0, .sl w0 0 s3.length), (1, .int .i64 r7.1), (5, .int .i64 (iadd .i64 s2 1))] ∧ σ = hp E0 [(w0, some ⟨22, 1, (encL rL_I_o s3).set s2.toNat [.sl (M1 + 4) 0 r7.2.length]⟩), (M1 + 4, some ⟨3, 1, encL rI r7.2⟩)] (M3 + 3)) (fun K hK => ?_) ?_
   ·
    skip
    have e0 := nq (a := w0) (b := M1 + 4) (by omega)
    simp -dsimp -implicitDefEqProofs (maxDischargeDepth := 6) [e0, (gset hv6 _), List.set_set]
    exact hK _ _ ⟨rfl, rfl⟩
   rintro a σ ⟨ha, rfl⟩
   obtain ⟨l8, hl8, H⟩ := bindE H
   replace H := Option.some.inj H; subst H
   refine hK2 _ _ _ rfl ?_; rw [ha]
   refine gPk Rc_ref (k := r7.2.length) (o := w0) (ob := ⟨22, 1, (encL rL_I_o s3).set s2.toNat [.sl (M1 + 4) 0 r7.2.length]⟩) (row := [.sl (M1 + 4) 0 r7.2.length]) (d := (M1 + 4)) (obd := ⟨3, 1, encL rI r7.2⟩) (r := s2.toNat) (i := 0) [(w0, some ⟨22, 1, (encL rL_I_o s3).set s2.toNat [.osl 3 1 (encL rI r7.2)]⟩)] (by simp (disch := omega)) (gset hv6 _) rfl (by simp (disch := omega)) (by simp (disch := omega)) (by first | omega | simp) (by simp (disch := omega) [List.set_set, app_set] <;> omega) (by simp (disch := omega) [List.set_set, app_set]) ?_
   rw [show hp E0 [(w0, some ⟨22, 1, (encL rL_I_o s3).set s2.toNat [.osl 3 1 (encL rI r7.2)]⟩)] (M3 + 3) = hp E0 [(w0, some ⟨22, 1, encL rL_I_o l8⟩)] (M3 + 3) from by rw [(setx_iff.1 hl8).2, ← encL_set]; rfl]; (try rw [← setx_len hl8])
   exact Rc.fin (AHeap.Sub.refl _) ⟨M3 + 3, (by omega), (by first | rfl | exact ((setx_len hl8).trans fM1_1) | omega), rfl, rfl⟩
  ·
   replace H := ifF C1 H
   replace H := Option.some.inj H; subst H
   refine AWP_exit (hO2 _ _ _ _ rfl ⟨rfl, ?_⟩)
   refine Rc.rw (l := [1]) (X := [(1, .int .i64 s1)]) rfl ?_
   exact Rc.fin (AHeap.Sub.refl _) ⟨M1 + 4, (by omega), (by first | rfl | exact fM1_1 | omega), rfl, rfl⟩
 ·
  intro x a σ hx
  obtain ⟨y4, y5⟩ := e1
  obtain ⟨rfl, b, τ, hr, M2, fM2_0, fM2_1, rfl, rfl⟩ := hx
  dsimp only at H
  show K1 _ _
  refine hK1 _ _ (Rc_ref hr ?_)
  refine Rc.mk ?_
  refine AWP_sr tok [] [4] (fun a σ => a = [(4, .int .i64 y4)] ∧ σ = hp E0 [(w0, some ⟨22, 1, encL rL_I_o y5⟩)] (M2 + 2)) (fun K hK => ?_) ?_
  ·
   skip
   simp -dsimp -implicitDefEqProofs (maxDischargeDepth := 6)
   exact hK _ _ ⟨rfl, rfl⟩
  rintro a σ ⟨rfl, rfl⟩
  replace H := Option.some.inj H; subst H
  refine AWP_kp [4] [(4, .int .i64 y4)] rfl ?_
  refine AWP_ret ?_
  refine ⟨[.int .i64 y4], by simp, M2 + 2, by omega, by first | rfl | exact fM2_1 | omega, ?_, ?_⟩
  ·
   simp [encL_nil]
  ·
   first | rfl | simp [List.set_set]
theorem c67 {p0 : (List Bool)} {p1 : Int} {r : Int × (List Bool)} (H : l_markBoolS p0 p1 = some r) {σ : AHeap} {w0 : Nat} (q0 : σ.objs w0 = some ⟨4, 1, encL rB p0⟩) : ACalls Try.prog G 67 [.sl w0 0 p0.length, .int .i64 p1] σ (fun v σ' => ∃ M : Nat, σ.next ≤ M ∧ r.2.length = p0.length ∧ v = .int .i64 r.1 ∧ σ' = hp σ.objs [(w0, some ⟨4, 1, encL rB r.2⟩)] M) := by
 refine ACalls_fr (L := [(w0, some ⟨4, 1, encL rB p0⟩)]) (Q1 := fun v σ' => ∃ M : Nat, σ.next ≤ M ∧ r.2.length = p0.length ∧ v = .int .i64 r.1 ∧ σ' = hp E0 [(w0, some ⟨4, 1, encL rB r.2⟩)] M) (by simp [q0]) (fun hlt => ?_) ?_ ⟨_, Try.func67, rfl, rfl⟩
 rotate_left
 ·
  rintro v σ1 ⟨M, h0, h1, rfl, rfl⟩
  exact ⟨_, M, rfl, by simp, by simp; try omega, M, h0, h1, rfl, rfl⟩
 generalize σ.next = N0 at hlt ⊢
 have lw0 : w0 < N0 := hlt _ (.head _) rfl
 refine ACalls_fn tok Try.func67 (by kernel_rfl) rfl Try.ntmps67 Try.results67 rfl ?_
 simp only [argsA, Nat.reduceAdd, hp_next]
 unfold l_markBoolS at H
 refine AWP_sr tok [] [0, 1] (fun a σ => a = [(0, .sl w0 0 p0.length), (1, .int .i64 p1)] ∧ σ = hp E0 [(w0, some ⟨4, 1, encL rB p0⟩)] (N0 + 1)) (fun K hK => ?_) ?_
 ·
  skip
  simp -dsimp -implicitDefEqProofs (maxDischargeDepth := 6)
  exact hK _ _ ⟨rfl, rfl⟩
 rintro a σ ⟨rfl, rfl⟩
 refine AWP_sq [1] fun K1 hK1 => ?_
 refine AWP_sr tok [] [0, 1, 5] (fun a σ => a = [(0, .sl w0 0 p0.length), (1, .int .i64 p1), (5, .int .i64 0)] ∧ σ = hp E0 [(w0, some ⟨4, 1, encL rB p0⟩)] (N0 + 2)) (fun K hK => ?_) ?_
 ·
  skip
  simp -dsimp -implicitDefEqProofs (maxDischargeDepth := 6)
  exact hK _ _ ⟨rfl, rfl⟩
 rintro a σ ⟨rfl, rfl⟩
 refine AWP_block (AWP_thenB ?_)
 obtain ⟨e1, hse1, H⟩ := bindE H
 refine AWP_lp [0, 1, 5] (fun s a σ => ∃ M1 : Nat, N0 ≤ M1 ∧ s.2.2.length = p0.length ∧ a = [(0, .sl w0 0 s.2.2.length), (1, .int .i64 s.1), (5, .int .i64 s.2.1)] ∧ σ = hp E0 [(w0, some ⟨4, 1, encL rB s.2.2⟩)] M1) (fun s x a σ => x = .exit 0 ∧ Rc G 21 N0 (fun a σ => ∃ M2 : Nat, N0 ≤ M2 ∧ s.2.length = p0.length ∧ a = [(1, .int .i64 s.1)] ∧ σ = hp E0 [(w0, some ⟨4, 1, encL rB s.2⟩)] M2) (AAct.keep a [1]) σ) hse1 ?_ ?_ ?_
 ·
  refine Rc.kp [0, 1, 5] [(0, .sl w0 0 p0.length), (1, .int .i64 p1), (5, .int .i64 0)] rfl ?_
  exact Rc.fin (AHeap.Sub.refl _) ⟨N0 + 2, (by omega), (by first | rfl | exact rfl | omega), rfl, rfl⟩
 ·
  clear H hse1
  rintro ⟨s1, s2, s3⟩ fl a σ H ⟨M1, fM1_0, fM1_1, rfl, rfl⟩ K2 O2 hK2 hO2
  unfold l_markBoolS_L1 at H; dsimp only at H
  refine AWP_sq [0, 1, 5] fun K3 hK3 => ?_
  refine AWP_sr tok [] [0, 1, 5, 9] (fun a σ => a = [(0, .sl w0 0 s3.length), (1, .int .i64 s1), (5, .int .i64 s2), (9, .bool (ilt s2 (ilen s3)))] ∧ σ = hp E0 [(w0, some ⟨4, 1, encL rB s3⟩)] (M1 + 4)) (fun K hK => ?_) ?_
  ·
   skip
   simp -dsimp -implicitDefEqProofs (maxDischargeDepth := 6)
   exact hK _ _ ⟨rfl, rfl⟩
  rintro a σ ⟨rfl, rfl⟩
  refine AWP_cond (ilt s2 (ilen s3)) rfl (fun C1 => ?_) (fun C1 => ?_)
  ·
   replace H := ifT C1 H
   refine AWP_skip ?_
   show K3 _ _
   refine keepE (l := [0, 1, 5]) (x := [(0, .sl w0 0 s3.length), (1, .int .i64 s1), (5, .int .i64 s2)]) rfl fun a' ha => ?_
   refine hK3 _ _ ?_; rw [ha]
   refine Rc.mk ?_
   refine AWP_sq [0, 1, 5] fun K4 hK4 => ?_
   refine AWP_block (AWP_thenB ?_)
   obtain ⟨v6, hv6, H⟩ := bindE H
   obtain ⟨v7, hv7, H⟩ := bindE H
   obtain ⟨l8, hl8, H⟩ := bindE H
   refine AWP_sr tok [] [0, 1, 5] (fun a σ => a = [(0, .sl w0 0 s3.length), (1, .int .i64 s1), (5, .int .i64 s2)] ∧ σ = hp E0 [(w0, some ⟨4, 1, encL rB l8⟩)] (M1 + 11)) (fun K hK => ?_) ?_
   ·
    skip
    simp -dsimp -implicitDefEqProofs (maxDischargeDepth := 6) [hv6, ixo46 hv7, (idx_lt3 hv7).2.2, (setx_iff.1 hl8).2.symm]
    exact hK _ _ ⟨rfl, rfl⟩
   rintro a σ ⟨rfl, rfl⟩
   try rw [← setx_len hl8]
   refine AWP_rt tok [] [0, 1, 5] (fun a σ => a = [(0, .sl w0 0 l8.length), (1, .int .i64 (iadd .i64 s1 1)), (5, .int .i64 s2)] ∧ σ = hp E0 [(w0, some ⟨4, 1, encL rB l8⟩)] (M1 + 14)) (fun K hK => ?_) ?_
   ·
    skip
    simp -dsimp -implicitDefEqProofs (maxDischargeDepth := 6)
    exact hK _ _ ⟨rfl, rfl⟩
   rintro a σ ⟨ha, rfl⟩
   refine hK4 _ _ ?_; rw [ha]
   refine Rc.mk ?_
   refine AWP_rt tok [] [0, 1, 5] (fun a σ => a = [(0, .sl w0 0 l8.length), (1, .int .i64 (iadd .i64 s1 1)), (5, .int .i64 (iadd .i64 s2 1))] ∧ σ = hp E0 [(w0, some ⟨4, 1, encL rB l8⟩)] (M1 + 17)) (fun K hK => ?_) ?_
   ·
    skip
    simp -dsimp -implicitDefEqProofs (maxDischargeDepth := 6)
    exact hK _ _ ⟨rfl, rfl⟩
   rintro a σ ⟨ha, rfl⟩
   replace H := Option.some.inj H; subst H
   refine hK2 _ _ _ rfl ?_; rw [ha]
   exact Rc.fin (AHeap.Sub.refl _) ⟨M1 + 17, (by omega), (by first | rfl | exact ((setx_len hl8).trans fM1_1) | omega), rfl, rfl⟩
  ·
   replace H := ifF C1 H
   replace H := Option.some.inj H; subst H
   refine AWP_exit (hO2 _ _ _ _ rfl ⟨rfl, ?_⟩)
   refine Rc.rw (l := [1]) (X := [(1, .int .i64 s1)]) rfl ?_
   exact Rc.fin (AHeap.Sub.refl _) ⟨M1 + 4, (by omega), (by first | rfl | exact fM1_1 | omega), rfl, rfl⟩
 ·
  intro x a σ hx
  obtain ⟨y4, y5⟩ := e1
  obtain ⟨rfl, b, τ, hr, M2, fM2_0, fM2_1, rfl, rfl⟩ := hx
  dsimp only at H
  show K1 _ _
  refine hK1 _ _ (Rc_ref hr ?_)
  refine Rc.mk ?_
  refine AWP_sr tok [] [4] (fun a σ => a = [(4, .int .i64 y4)] ∧ σ = hp E0 [(w0, some ⟨4, 1, encL rB y5⟩)] (M2 + 2)) (fun K hK => ?_) ?_
  ·
   skip
   simp -dsimp -implicitDefEqProofs (maxDischargeDepth := 6)
   exact hK _ _ ⟨rfl, rfl⟩
  rintro a σ ⟨rfl, rfl⟩
  replace H := Option.some.inj H; subst H
  refine AWP_kp [4] [(4, .int .i64 y4)] rfl ?_
  refine AWP_ret ?_
  refine ⟨[.int .i64 y4], by simp, M2 + 2, by omega, by first | rfl | exact fM2_1 | omega, ?_, ?_⟩
  ·
   simp [encL_nil]
  ·
   first | rfl | simp [List.set_set]
theorem c30 {p0 : gOutcome} {p1 : Int} {r : Int × gOutcome} (H : l_markOutcome p0 p1 = some r) {σ : AHeap} {w0_0 : Nat} {w0_1 : Nat} {w0_2 : Nat} (q0_0 : σ.objs w0_0 = some ⟨3, 1, encL rI p0.Out⟩) (q0_1 : σ.objs w0_1 = some ⟨22, 1, encL rL_I_o p0.Items⟩) (q0_2 : σ.objs w0_2 = some ⟨4, 1, encL rB p0.Ended⟩) (d0_1 : ¬ w0_0 = w0_1) (d0_2 : ¬ w0_0 = w0_2) (d1_2 : ¬ w0_1 = w0_2) : ACalls Try.prog G 30 [.agg [.sl w0_0 0 p0.Out.length, .sl w0_1 0 p0.Items.length, .sl w0_2 0 p0.Ended.length, .bool p0.Rest], .int .i64 p1] σ (fun v σ' => ∃ M : Nat, σ.next ≤ M ∧ r.2.Out.length = p0.Out.length ∧ r.2.Items.length = p0.Items.length ∧ r.2.Ended.length = p0.Ended.length ∧ v = .int .i64 r.1 ∧ σ' = hp σ.objs [(w0_0, some ⟨3, 1, encL rI r.2.Out⟩), (w0_1, some ⟨22, 1, encL rL_I_o r.2.Items⟩), (w0_2, some ⟨4, 1, encL rB r.2.Ended⟩)] M) := by
 refine ACalls_fr (L := [(w0_0, some ⟨3, 1, encL rI p0.Out⟩), (w0_1, some ⟨22, 1, encL rL_I_o p0.Items⟩), (w0_2, some ⟨4, 1, encL rB p0.Ended⟩)]) (Q1 := fun v σ' => ∃ M : Nat, σ.next ≤ M ∧ r.2.Out.length = p0.Out.length ∧ r.2.Items.length = p0.Items.length ∧ r.2.Ended.length = p0.Ended.length ∧ v = .int .i64 r.1 ∧ σ' = hp E0 [(w0_0, some ⟨3, 1, encL rI r.2.Out⟩), (w0_1, some ⟨22, 1, encL rL_I_o r.2.Items⟩), (w0_2, some ⟨4, 1, encL rB r.2.Ended⟩)] M) (by simp [q0_0, q0_1, q0_2]) (fun hlt => ?_) ?_ ⟨_, Try.func30, rfl, rfl⟩
 rotate_left
 ·
  rintro v σ1 ⟨M, h0, h1, h2, h3, rfl, rfl⟩
  exact ⟨_, M, rfl, by simp, by simp; try omega, M, h0, h1, h2, h3, rfl, rfl⟩
 generalize σ.next = N0 at hlt ⊢
 have lw0_0 : w0_0 < N0 := hlt _ (.head _) rfl
 have lw0_1 : w0_1 < N0 := hlt _ (.tail _ (.head _)) rfl
 have lw0_2 : w0_2 < N0 := hlt _ (.tail _ (.tail _ (.head _))) rfl
 refine ACalls_fn tok Try.func30 (by kernel_rfl) rfl Try.ntmps30 Try.results30 rfl ?_
 simp only [argsA, Nat.reduceAdd, hp_next]
 unfold l_markOutcome at H
 refine AWP_sr tok [0] [1, 2] (fun a σ => a = [(1, .int .i64 p1), (2, .fptr [.sl w0_0 0 p0.Out.length, .sl w0_1 0 p0.Items.length, .sl w0_2 0 p0.Ended.length, .bool p0.Rest] 0)] ∧ σ = hp E0 [(w0_0, some ⟨3, 1, encL rI p0.Out⟩), (w0_1, some ⟨22, 1, encL rL_I_o p0.Items⟩), (w0_2, some ⟨4, 1, encL rB p0.Ended⟩)] (N0 + 2)) (fun K hK => ?_) ?_
 ·
  skip
  have e0 := nq (a := w0_0) (b := w0_1) (by omega)
  have e1 := nq (a := w0_0) (b := w0_2) (by omega)
  have e2 := nq (a := w0_1) (b := w0_2) (by omega)
  simp -dsimp -implicitDefEqProofs (maxDischargeDepth := 6) [e0, e1, e2]
  exact hK _ _ ⟨rfl, rfl⟩
 rintro a σ ⟨rfl, rfl⟩
 obtain ⟨r1, hr1, H⟩ := bindE H
 refine AWP_sr tok [] [1, 2] (fun a σ => ∃ M1 : Nat, N0 + 7 ≤ M1 ∧ r1.2.length = p0.Out.length ∧ a = [(1, .int .i64 r1.1), (2, .fptr [.sl w0_0 0 p0.Out.length, .sl w0_1 0 p0.Items.length, .sl w0_2 0 p0.Ended.length, .bool p0.Rest] 0)] ∧ σ = hp E0 [(w0_0, some ⟨3, 1, encL rI r1.2⟩), (w0_1, some ⟨22, 1, encL rL_I_o p0.Items⟩), (w0_2, some ⟨4, 1, encL rB p0.Ended⟩)] M1) (fun K hK => ?_) ?_
 ·
  skip
  have e0 := nq (a := w0_0) (b := w0_1) (by omega)
  have e1 := nq (a := w0_0) (b := w0_2) (by omega)
  have e2 := nq (a := w0_1) (b := w0_2) (by omega)
  simp -dsimp -implicitDefEqProofs (maxDischargeDepth := 6) [e0, e1, e2]
  refine (c19 (H := hr1) (by simp [e0, e1, e2])).mono ?_; rintro _ _ ⟨M1, fM1_0, fM1_1, rfl, rfl⟩; simp only [hp_next] at fM1_0
  try simp -dsimp -implicitDefEqProofs (maxDischargeDepth := 6) [e0, e1, e2, hp_over_some, hp_over_none]
  exact hK _ _ ⟨M1, (by omega), fM1_1, rfl, rfl⟩
 rintro a σ ⟨M1, fM1_0, fM1_1, rfl, rfl⟩
 try rw [← fM1_1]
 obtain ⟨r2, hr2, H⟩ := bindE H
 refine AWP_sr tok [] [1, 2] (fun a σ => ∃ M2 : Nat, M1 + 5 ≤ M2 ∧ r2.2.length = p0.Items.length ∧ a = [(1, .int .i64 r2.1), (2, .fptr [.sl w0_0 0 r1.2.length, .sl w0_1 0 p0.Items.length, .sl w0_2 0 p0.Ended.length, .bool p0.Rest] 0)] ∧ σ = hp E0 [(w0_0, some ⟨3, 1, encL rI r1.2⟩), (w0_1, some ⟨22, 1, encL rL_I_o r2.2⟩), (w0_2, some ⟨4, 1, encL rB p0.Ended⟩)] M2) (fun K hK => ?_) ?_
 ·
  skip
  have e0 := nq (a := w0_0) (b := w0_1) (by omega)
  have e1 := nq (a := w0_0) (b := w0_2) (by omega)
  have e2 := nq (a := w0_1) (b := w0_2) (by omega)
  simp -dsimp -implicitDefEqProofs (maxDischargeDepth := 6) [e0, e1, e2]
  refine (c66 (H := hr2) (by simp [e0, e1, e2])).mono ?_; rintro _ _ ⟨M2, fM2_0, fM2_1, rfl, rfl⟩; simp only [hp_next] at fM2_0
  try simp -dsimp -implicitDefEqProofs (maxDischargeDepth := 6) [e0, e1, e2, hp_over_some, hp_over_none]
  exact hK _ _ ⟨M2, (by omega), fM2_1, rfl, rfl⟩
 rintro a σ ⟨M2, fM2_0, fM2_1, rfl, rfl⟩
 try rw [← fM2_1]
 obtain ⟨r3, hr3, H⟩ := bindE H
 refine AWP_sr tok [] [1] (fun a σ => ∃ M3 : Nat, M2 + 5 ≤ M3 ∧ r3.2.length = p0.Ended.length ∧ a = [(1, .int .i64 r3.1)] ∧ σ = hp E0 [(w0_0, some ⟨3, 1, encL rI r1.2⟩), (w0_1, some ⟨22, 1, encL rL_I_o r2.2⟩), (w0_2, some ⟨4, 1, encL rB r3.2⟩)] M3) (fun K hK => ?_) ?_
 ·
  skip
  have e0 := nq (a := w0_0) (b := w0_1) (by omega)
  have e1 := nq (a := w0_0) (b := w0_2) (by omega)
  have e2 := nq (a := w0_1) (b := w0_2) (by omega)
  simp -dsimp -implicitDefEqProofs (maxDischargeDepth := 6) [e0, e1, e2]
  refine (c67 (H := hr3) (by simp [e0, e1, e2])).mono ?_; rintro _ _ ⟨M3, fM3_0, fM3_1, rfl, rfl⟩; simp only [hp_next] at fM3_0
  try simp -dsimp -implicitDefEqProofs (maxDischargeDepth := 6) [e0, e1, e2, hp_over_some, hp_over_none]
  exact hK _ _ ⟨M3, (by omega), fM3_1, rfl, rfl⟩
 rintro a σ ⟨M3, fM3_0, fM3_1, rfl, rfl⟩
 try rw [← fM3_1]
 refine AWP_sr tok [] [4] (fun a σ => a = [(4, .int .i64 r3.1)] ∧ σ = hp E0 [(w0_0, some ⟨3, 1, encL rI r1.2⟩), (w0_1, some ⟨22, 1, encL rL_I_o r2.2⟩), (w0_2, some ⟨4, 1, encL rB r3.2⟩)] (M3 + 2)) (fun K hK => ?_) ?_
 ·
  skip
  have e0 := nq (a := w0_0) (b := w0_1) (by omega)
  have e1 := nq (a := w0_0) (b := w0_2) (by omega)
  have e2 := nq (a := w0_1) (b := w0_2) (by omega)
  simp -dsimp -implicitDefEqProofs (maxDischargeDepth := 6) [e0, e1, e2]
  exact hK _ _ ⟨rfl, rfl⟩
 rintro a σ ⟨rfl, rfl⟩
 replace H := Option.some.inj H; subst H
 refine AWP_kp [4] [(4, .int .i64 r3.1)] rfl ?_
 have z0 := nq (a := w0_0) (b := w0_1) (by omega)
 have z1 := nq (a := w0_0) (b := w0_2) (by omega)
 have z2 := nq (a := w0_1) (b := w0_2) (by omega)
 refine AWP_ret ?_
 refine ⟨[.int .i64 r3.1], by simp [z0, z1, z2], M3 + 2, by omega, by first | rfl | exact (fM1_1) | omega, by first | rfl | exact (fM2_1) | omega, by first | rfl | exact (fM3_1) | omega, ?_, ?_⟩
 ·
  simp [encL_nil]
 ·
  first | rfl | simp [List.set_set]
theorem c68 {p0 : (List (List Int))} {p1 : Int} {r : Int} (H : l_heldIntSS p0 p1 = some r) : APure Try.prog G 68 [.fsl (encL rL_I p0), .int .i64 p1] (.int .i64 r) := by
 refine APure_fn (fun N0 => ?_) (by simp)
 refine ACalls_fn tok Try.func68 (by kernel_rfl) rfl Try.ntmps68 Try.results68 rfl ?_
 simp only [argsA, Nat.reduceAdd, hp_next]
 unfold l_heldIntSS at H
 refine AWP_sr tok [] [0, 1] (fun a σ => a = [(0, .fsl (encL rL_I p0)), (1, .int .i64 p1)] ∧ σ = hp E0 [] (N0 + 1)) (fun K hK => ?_) ?_
 ·
  skip
  simp -dsimp -implicitDefEqProofs (maxDischargeDepth := 6)
  exact hK _ _ ⟨rfl, rfl⟩
 rintro a σ ⟨rfl, rfl⟩
 refine AWP_sq [1] fun K1 hK1 => ?_
 refine AWP_sr tok [] [0, 1, 5] (fun a σ => a = [(0, .fsl (encL rL_I p0)), (1, .int .i64 p1), (5, .int .i64 0)] ∧ σ = hp E0 [] (N0 + 2)) (fun K hK => ?_) ?_
 ·
  skip
  simp -dsimp -implicitDefEqProofs (maxDischargeDepth := 6)
  exact hK _ _ ⟨rfl, rfl⟩
 rintro a σ ⟨rfl, rfl⟩
 refine AWP_block (AWP_thenB ?_)
 obtain ⟨e1, hse1, H⟩ := bindE H
 refine AWP_lp [0, 1, 5] (fun s a σ => ∃ M1 : Nat, N0 ≤ M1 ∧ a = [(0, .fsl (encL rL_I p0)), (1, .int .i64 s.1), (5, .int .i64 s.2)] ∧ σ = hp E0 [] M1) (fun e x a σ => match e with | .inl s => x = .exit 0 ∧ Rc G 21 N0 (fun a σ => ∃ M2 : Nat, N0 ≤ M2 ∧ a = [(1, .int .i64 s)] ∧ σ = hp E0 [] M2) (AAct.keep a [1]) σ | .inr s => x = .ret ∧ ∃ vs, resA T σ a [.tmp 4] = some vs ∧ ∃ d, thawA (fun _ => true) σ d (tupA vs) = .int .i64 s) hse1 ?_ ?_ ?_
 ·
  refine Rc.kp [0, 1, 5] [(0, .fsl (encL rL_I p0)), (1, .int .i64 p1), (5, .int .i64 0)] rfl ?_
  exact Rc.fin (AHeap.Sub.refl _) ⟨N0 + 2, (by omega), rfl, rfl⟩
 ·
  clear H hse1
  rintro ⟨s1, s2⟩ fl a σ H ⟨M1, fM1_0, rfl, rfl⟩ K2 O2 hK2 hO2
  unfold l_heldIntSS_L1 at H; dsimp only at H
  refine AWP_sq [0, 1, 5] fun K3 hK3 => ?_
  refine AWP_sr tok [] [0, 1, 5, 9] (fun a σ => a = [(0, .fsl (encL rL_I p0)), (1, .int .i64 s1), (5, .int .i64 s2), (9, .bool (ilt s2 (ilen p0)))] ∧ σ = hp E0 [] (M1 + 4)) (fun K hK => ?_) ?_
  ·
   skip
   simp -dsimp -implicitDefEqProofs (maxDischargeDepth := 6)
   exact hK _ _ ⟨rfl, rfl⟩
  rintro a σ ⟨rfl, rfl⟩
  refine AWP_cond (ilt s2 (ilen p0)) rfl (fun C1 => ?_) (fun C1 => ?_)
  ·
   replace H := ifT C1 H
   refine AWP_skip ?_
   show K3 _ _
   refine keepE (l := [0, 1, 5]) (x := [(0, .fsl (encL rL_I p0)), (1, .int .i64 s1), (5, .int .i64 s2)]) rfl fun a' ha => ?_
   refine hK3 _ _ ?_; rw [ha]
   refine Rc.mk ?_
   refine AWP_sq [0, 1, 5] fun K4 hK4 => ?_
   refine AWP_block (AWP_thenB ?_)
   obtain ⟨v4, hv4, H⟩ := bindE H
   obtain ⟨r5, hr5, H⟩ := bindE H
   refine AWP_sr tok [] [0, 1, 5] (fun a σ => a = [(0, .fsl (encL rL_I p0)), (1, .int .i64 r5), (5, .int .i64 s2)] ∧ σ = hp E0 [] (M1 + 11)) (fun K hK => ?_) ?_
   ·
    skip
    simp -dsimp -implicitDefEqProofs (maxDischargeDepth := 6) [ix45 hv4]
    refine (c22 hr5).app ?_; try simp -dsimp -implicitDefEqProofs (maxDischargeDepth := 6) [ix45 hv4]
    exact hK _ _ ⟨rfl, rfl⟩
   rintro a σ ⟨rfl, rfl⟩
   refine AWP_sr tok [] [0, 1, 5, 19] (fun a σ => a = [(0, .fsl (encL rL_I p0)), (1, .int .i64 r5), (5, .int .i64 s2), (19, .bool (ilt r5 0))] ∧ σ = hp E0 [] (M1 + 13)) (fun K hK => ?_) ?_
   ·
    skip
    simp -dsimp -implicitDefEqProofs (maxDischargeDepth := 6)
    exact hK _ _ ⟨rfl, rfl⟩
   rintro a σ ⟨rfl, rfl⟩
   refine AWP_cond (ilt r5 0) rfl (fun C2 => ?_) (fun C2 => ?_)
   ·
    replace H := ifT C2 H
    refine AWP_sr tok [] [4] (fun a σ => a = [(4, .int .i64 (-1))] ∧ σ = hp E0 [] (M1 + 14)) (fun K hK => ?_) ?_
    ·
     skip
     simp -dsimp -implicitDefEqProofs (maxDischargeDepth := 6)
     exact hK _ _ ⟨rfl, rfl⟩
    rintro a σ ⟨rfl, rfl⟩
    replace H := Option.some.inj H; subst H
    refine AWP_kp [4] [(4, .int .i64 (-1))] rfl ?_
    refine AWP_ret (hO2 _ _ _ _ rfl ⟨rfl, ?_⟩)
    exact ⟨[.int .i64 (-1)], by simp, 4, by simp [encL_nil]⟩
   ·
    replace H := ifF C2 H
    refine AWP_skip ?_
    show K4 _ _
    refine keepE (l := [0, 1, 5]) (x := [(0, .fsl (encL rL_I p0)), (1, .int .i64 r5), (5, .int .i64 s2)]) rfl fun a' ha => ?_
    refine hK4 _ _ ?_; rw [ha]
    refine Rc.mk ?_
    refine AWP_rt tok [] [0, 1, 5] (fun a σ => a = [(0, .fsl (encL rL_I p0)), (1, .int .i64 r5), (5, .int .i64 (iadd .i64 s2 1))] ∧ σ = hp E0 [] (M1 + 16)) (fun K hK => ?_) ?_
    ·
     skip
     simp -dsimp -implicitDefEqProofs (maxDischargeDepth := 6)
     exact hK _ _ ⟨rfl, rfl⟩
    rintro a σ ⟨ha, rfl⟩
    replace H := Option.some.inj H; subst H
    refine hK2 _ _ _ rfl ?_; rw [ha]
    exact Rc.fin (AHeap.Sub.refl _) ⟨M1 + 16, (by omega), rfl, rfl⟩
  ·
   replace H := ifF C1 H
   replace H := Option.some.inj H; subst H
   refine AWP_exit (hO2 _ _ _ _ rfl ⟨rfl, ?_⟩)
   refine Rc.rw (l := [1]) (X := [(1, .int .i64 s1)]) rfl ?_
   exact Rc.fin (AHeap.Sub.refl _) ⟨M1 + 4, (by omega), rfl, rfl⟩
 ·
  intro x a σ hx
  rcases e1 with y3 | r0
  ·
   obtain ⟨rfl, b, τ, hr, M2, fM2_0, rfl, rfl⟩ := hx
   dsimp only at H
   show K1 _ _
   refine hK1 _ _ (Rc_ref hr ?_)
   refine Rc.mk ?_
   refine AWP_sr tok [] [4] (fun a σ => a = [(4, .int .i64 y3)] ∧ σ = hp E0 [] (M2 + 2)) (fun K hK => ?_) ?_
   ·
    skip
    simp -dsimp -implicitDefEqProofs (maxDischargeDepth := 6)
    exact hK _ _ ⟨rfl, rfl⟩
   rintro a σ ⟨rfl, rfl⟩
   replace H := Option.some.inj H; subst H
   refine AWP_kp [4] [(4, .int .i64 y3)] rfl ?_
   refine AWP_ret ?_
   exact ⟨[.int .i64 y3], by simp, 4, by simp [encL_nil]⟩
  ·
   obtain ⟨rfl, hx2⟩ := hx
   dsimp only at H
   replace H := Option.some.inj H; subst H; exact hx2
theorem c69 {p0 : (List Bool)} {p1 : Int} {r : Int} (H : l_heldBoolS p0 p1 = some r) : APure Try.prog G 69 [.fsl (encL rB p0), .int .i64 p1] (.int .i64 r) := by
 refine APure_fn (fun N0 => ?_) (by simp)
 refine ACalls_fn tok Try.func69 (by kernel_rfl) rfl Try.ntmps69 Try.results69 rfl ?_
 simp only [argsA, Nat.reduceAdd, hp_next]
 unfold l_heldBoolS at H
 refine AWP_sr tok [] [0, 1] (fun a σ => a = [(0, .fsl (encL rB p0)), (1, .int .i64 p1)] ∧ σ = hp E0 [] (N0 + 1)) (fun K hK => ?_) ?_
 ·
  skip
  simp -dsimp -implicitDefEqProofs (maxDischargeDepth := 6)
  exact hK _ _ ⟨rfl, rfl⟩
 rintro a σ ⟨rfl, rfl⟩
 refine AWP_sq [1] fun K1 hK1 => ?_
 refine AWP_sr tok [] [0, 1, 5] (fun a σ => a = [(0, .fsl (encL rB p0)), (1, .int .i64 p1), (5, .int .i64 0)] ∧ σ = hp E0 [] (N0 + 2)) (fun K hK => ?_) ?_
 ·
  skip
  simp -dsimp -implicitDefEqProofs (maxDischargeDepth := 6)
  exact hK _ _ ⟨rfl, rfl⟩
 rintro a σ ⟨rfl, rfl⟩
 refine AWP_block (AWP_thenB ?_)
 obtain ⟨e1, hse1, H⟩ := bindE H
 refine AWP_lp [0, 1, 5] (fun s a σ => ∃ M1 : Nat, N0 ≤ M1 ∧ a = [(0, .fsl (encL rB p0)), (1, .int .i64 s.1), (5, .int .i64 s.2)] ∧ σ = hp E0 [] M1) (fun e x a σ => match e with | .inl s => x = .exit 0 ∧ Rc G 23 N0 (fun a σ => ∃ M2 : Nat, N0 ≤ M2 ∧ a = [(1, .int .i64 s)] ∧ σ = hp E0 [] M2) (AAct.keep a [1]) σ | .inr s => x = .ret ∧ ∃ vs, resA T σ a [.tmp 4] = some vs ∧ ∃ d, thawA (fun _ => true) σ d (tupA vs) = .int .i64 s) hse1 ?_ ?_ ?_
 ·
  refine Rc.kp [0, 1, 5] [(0, .fsl (encL rB p0)), (1, .int .i64 p1), (5, .int .i64 0)] rfl ?_
  exact Rc.fin (AHeap.Sub.refl _) ⟨N0 + 2, (by omega), rfl, rfl⟩
 ·
  clear H hse1
  rintro ⟨s1, s2⟩ fl a σ H ⟨M1, fM1_0, rfl, rfl⟩ K2 O2 hK2 hO2
  unfold l_heldBoolS_L1 at H; dsimp only at H
  refine AWP_sq [0, 1, 5] fun K3 hK3 => ?_
  refine AWP_sr tok [] [0, 1, 5, 9] (fun a σ => a = [(0, .fsl (encL rB p0)), (1, .int .i64 s1), (5, .int .i64 s2), (9, .bool (ilt s2 (ilen p0)))] ∧ σ = hp E0 [] (M1 + 4)) (fun K hK => ?_) ?_
  ·
   skip
   simp -dsimp -implicitDefEqProofs (maxDischargeDepth := 6)
   exact hK _ _ ⟨rfl, rfl⟩
  rintro a σ ⟨rfl, rfl⟩
  refine AWP_cond (ilt s2 (ilen p0)) rfl (fun C1 => ?_) (fun C1 => ?_)
  ·
   replace H := ifT C1 H
   refine AWP_skip ?_
   show K3 _ _
   refine keepE (l := [0, 1, 5]) (x := [(0, .fsl (encL rB p0)), (1, .int .i64 s1), (5, .int .i64 s2)]) rfl fun a' ha => ?_
   refine hK3 _ _ ?_; rw [ha]
   refine Rc.mk ?_
   refine AWP_sq [0, 1, 5] fun K4 hK4 => ?_
   refine AWP_block (AWP_thenB ?_)
   refine AWP_sq [0, 1, 5] fun K5 hK5 => ?_
   obtain ⟨v4, hv4, H⟩ := bindE H
   obtain ⟨v5, hv5, H⟩ := bindE H
   refine AWP_sr tok [] [0, 1, 5, 19] (fun a σ => a = [(0, .fsl (encL rB p0)), (1, .int .i64 s1), (5, .int .i64 s2), (19, .bool (bneb v4 (ieq v5 0)))] ∧ σ = hp E0 [] (M1 + 12)) (fun K hK => ?_) ?_
   ·
    skip
    simp -dsimp -implicitDefEqProofs (maxDischargeDepth := 6) [ix46 hv4, hv5]
    exact hK _ _ ⟨rfl, rfl⟩
   rintro a σ ⟨rfl, rfl⟩
   refine AWP_cond (bneb v4 (ieq v5 0)) rfl (fun C2 => ?_) (fun C2 => ?_)
   ·
    replace H := ifT C2 H
    refine AWP_sr tok [] [4] (fun a σ => a = [(4, .int .i64 (-1))] ∧ σ = hp E0 [] (M1 + 13)) (fun K hK => ?_) ?_
    ·
     skip
     simp -dsimp -implicitDefEqProofs (maxDischargeDepth := 6)
     exact hK _ _ ⟨rfl, rfl⟩
    rintro a σ ⟨rfl, rfl⟩
    replace H := Option.some.inj H; subst H
    refine AWP_kp [4] [(4, .int .i64 (-1))] rfl ?_
    refine AWP_ret (hO2 _ _ _ _ rfl ⟨rfl, ?_⟩)
    exact ⟨[.int .i64 (-1)], by simp, 4, by simp [encL_nil]⟩
   ·
    replace H := ifF C2 H
    refine AWP_skip ?_
    show K5 _ _
    refine keepE (l := [0, 1, 5]) (x := [(0, .fsl (encL rB p0)), (1, .int .i64 s1), (5, .int .i64 s2)]) rfl fun a' ha => ?_
    refine hK5 _ _ ?_; rw [ha]
    refine Rc.mk ?_
    refine AWP_rt tok [] [0, 1, 5] (fun a σ => a = [(0, .fsl (encL rB p0)), (1, .int .i64 (iadd .i64 s1 1)), (5, .int .i64 s2)] ∧ σ = hp E0 [] (M1 + 15)) (fun K hK => ?_) ?_
    ·
     skip
     simp -dsimp -implicitDefEqProofs (maxDischargeDepth := 6)
     exact hK _ _ ⟨rfl, rfl⟩
    rintro a σ ⟨ha, rfl⟩
    refine hK4 _ _ ?_; rw [ha]
    refine Rc.mk ?_
    refine AWP_rt tok [] [0, 1, 5] (fun a σ => a = [(0, .fsl (encL rB p0)), (1, .int .i64 (iadd .i64 s1 1)), (5, .int .i64 (iadd .i64 s2 1))] ∧ σ = hp E0 [] (M1 + 18)) (fun K hK => ?_) ?_
    ·
     skip
     simp -dsimp -implicitDefEqProofs (maxDischargeDepth := 6)
     exact hK _ _ ⟨rfl, rfl⟩
    rintro a σ ⟨ha, rfl⟩
    replace H := Option.some.inj H; subst H
    refine hK2 _ _ _ rfl ?_; rw [ha]
    exact Rc.fin (AHeap.Sub.refl _) ⟨M1 + 18, (by omega), rfl, rfl⟩
  ·
   replace H := ifF C1 H
   replace H := Option.some.inj H; subst H
   refine AWP_exit (hO2 _ _ _ _ rfl ⟨rfl, ?_⟩)
   refine Rc.rw (l := [1]) (X := [(1, .int .i64 s1)]) rfl ?_
   exact Rc.fin (AHeap.Sub.refl _) ⟨M1 + 4, (by omega), rfl, rfl⟩
 ·
  intro x a σ hx
  rcases e1 with y3 | r0
  ·
   obtain ⟨rfl, b, τ, hr, M2, fM2_0, rfl, rfl⟩ := hx
   dsimp only at H
   show K1 _ _
   refine hK1 _ _ (Rc_ref hr ?_)
   refine Rc.mk ?_
   refine AWP_sr tok [] [4] (fun a σ => a = [(4, .int .i64 y3)] ∧ σ = hp E0 [] (M2 + 2)) (fun K hK => ?_) ?_
   ·
    skip
    simp -dsimp -implicitDefEqProofs (maxDischargeDepth := 6)
    exact hK _ _ ⟨rfl, rfl⟩
   rintro a σ ⟨rfl, rfl⟩
   replace H := Option.some.inj H; subst H
   refine AWP_kp [4] [(4, .int .i64 y3)] rfl ?_
   refine AWP_ret ?_
   exact ⟨[.int .i64 y3], by simp, 4, by simp [encL_nil]⟩
  ·
   obtain ⟨rfl, hx2⟩ := hx
   dsimp only at H
   replace H := Option.some.inj H; subst H; exact hx2
theorem c31 {p0 : gOutcome} {p1 : Int} {r : Int} (H : l_heldOutcome p0 p1 = some r) : APure Try.prog G 31 [.agg [.fsl (encL rI p0.Out), .fsl (encL rL_I p0.Items), .fsl (encL rB p0.Ended), .bool p0.Rest], .int .i64 p1] (.int .i64 r) := by
 refine APure_fn (fun N0 => ?_) (by simp)
 refine ACalls_fn tok Try.func31 (by kernel_rfl) rfl Try.ntmps31 Try.results31 rfl ?_
 simp only [argsA, Nat.reduceAdd, hp_next]
 unfold l_heldOutcome at H
 refine AWP_sr tok [0] [1, 2] (fun a σ => a = [(1, .int .i64 p1), (2, .fptr [.fsl (encL rI p0.Out), .fsl (encL rL_I p0.Items), .fsl (encL rB p0.Ended), .bool p0.Rest] 0)] ∧ σ = hp E0 [] (N0 + 2)) (fun K hK => ?_) ?_
 ·
  skip
  simp -dsimp -implicitDefEqProofs (maxDischargeDepth := 6)
  exact hK _ _ ⟨rfl, rfl⟩
 rintro a σ ⟨rfl, rfl⟩
 obtain ⟨r1, hr1, H⟩ := bindE H
 refine AWP_sr tok [] [1, 2] (fun a σ => a = [(1, .int .i64 r1), (2, .fptr [.fsl (encL rI p0.Out), .fsl (encL rL_I p0.Items), .fsl (encL rB p0.Ended), .bool p0.Rest] 0)] ∧ σ = hp E0 [] (N0 + 7)) (fun K hK => ?_) ?_
 ·
  skip
  simp -dsimp -implicitDefEqProofs (maxDischargeDepth := 6)
  refine (c22 hr1).app ?_; try simp -dsimp -implicitDefEqProofs (maxDischargeDepth := 6)
  exact hK _ _ ⟨rfl, rfl⟩
 rintro a σ ⟨rfl, rfl⟩
 refine AWP_sq [1, 2] fun K1 hK1 => ?_
 refine AWP_sr tok [] [1, 2, 10] (fun a σ => a = [(1, .int .i64 r1), (2, .fptr [.fsl (encL rI p0.Out), .fsl (encL rL_I p0.Items), .fsl (encL rB p0.Ended), .bool p0.Rest] 0), (10, .bool (ilt r1 0))] ∧ σ = hp E0 [] (N0 + 9)) (fun K hK => ?_) ?_
 ·
  skip
  simp -dsimp -implicitDefEqProofs (maxDischargeDepth := 6)
  exact hK _ _ ⟨rfl, rfl⟩
 rintro a σ ⟨rfl, rfl⟩
 refine AWP_cond (ilt r1 0) rfl (fun C1 => ?_) (fun C1 => ?_)
 ·
  replace H := ifT C1 H
  refine AWP_sr tok [] [4] (fun a σ => a = [(4, .int .i64 (-1))] ∧ σ = hp E0 [] (N0 + 10)) (fun K hK => ?_) ?_
  ·
   skip
   simp -dsimp -implicitDefEqProofs (maxDischargeDepth := 6)
   exact hK _ _ ⟨rfl, rfl⟩
  rintro a σ ⟨rfl, rfl⟩
  replace H := Option.some.inj H; subst H
  refine AWP_kp [4] [(4, .int .i64 (-1))] rfl ?_
  refine AWP_ret ?_
  exact ⟨[.int .i64 (-1)], by simp, 4, by simp [encL_nil]⟩
 ·
  replace H := ifF C1 H
  refine AWP_skip ?_
  show K1 _ _
  refine keepE (l := [1, 2]) (x := [(1, .int .i64 r1), (2, .fptr [.fsl (encL rI p0.Out), .fsl (encL rL_I p0.Items), .fsl (encL rB p0.Ended), .bool p0.Rest] 0)]) rfl fun a' ha => ?_
  refine hK1 _ _ ?_; rw [ha]
  refine Rc.mk ?_
  obtain ⟨r2, hr2, H⟩ := bindE H
  refine AWP_sr tok [] [1, 2] (fun a σ => a = [(1, .int .i64 r2), (2, .fptr [.fsl (encL rI p0.Out), .fsl (encL rL_I p0.Items), .fsl (encL rB p0.Ended), .bool p0.Rest] 0)] ∧ σ = hp E0 [] (N0 + 14)) (fun K hK => ?_) ?_
  ·
   skip
   simp -dsimp -implicitDefEqProofs (maxDischargeDepth := 6)
   refine (c68 hr2).app ?_; try simp -dsimp -implicitDefEqProofs (maxDischargeDepth := 6)
   exact hK _ _ ⟨rfl, rfl⟩
  rintro a σ ⟨rfl, rfl⟩
  refine AWP_sq [1, 2] fun K2 hK2 => ?_
  refine AWP_sr tok [] [1, 2, 16] (fun a σ => a = [(1, .int .i64 r2), (2, .fptr [.fsl (encL rI p0.Out), .fsl (encL rL_I p0.Items), .fsl (encL rB p0.Ended), .bool p0.Rest] 0), (16, .bool (ilt r2 0))] ∧ σ = hp E0 [] (N0 + 16)) (fun K hK => ?_) ?_
  ·
   skip
   simp -dsimp -implicitDefEqProofs (maxDischargeDepth := 6)
   exact hK _ _ ⟨rfl, rfl⟩
  rintro a σ ⟨rfl, rfl⟩
  refine AWP_cond (ilt r2 0) rfl (fun C2 => ?_) (fun C2 => ?_)
  ·
   replace H := ifT C2 H
   refine AWP_sr tok [] [4] (fun a σ => a = [(4, .int .i64 (-1))] ∧ σ = hp E0 [] (N0 + 17)) (fun K hK => ?_) ?_
   ·
    skip
    simp -dsimp -implicitDefEqProofs (maxDischargeDepth := 6)
    exact hK _ _ ⟨rfl, rfl⟩
   rintro a σ ⟨rfl, rfl⟩
   replace H := Option.some.inj H; subst H
   refine AWP_kp [4] [(4, .int .i64 (-1))] rfl ?_
   refine AWP_ret ?_
   exact ⟨[.int .i64 (-1)], by simp, 4, by simp [encL_nil]⟩
  ·
   replace H := ifF C2 H
   refine AWP_skip ?_
   show K2 _ _
   refine keepE (l := [1, 2]) (x := [(1, .int .i64 r2), (2, .fptr [.fsl (encL rI p0.Out), .fsl (encL rL_I p0.Items), .fsl (encL rB p0.Ended), .bool p0.Rest] 0)]) rfl fun a' ha => ?_
   refine hK2 _ _ ?_; rw [ha]
   refine Rc.mk ?_
   obtain ⟨r3, hr3, H⟩ := bindE H
   refine AWP_sr tok [] [1] (fun a σ => a = [(1, .int .i64 r3)] ∧ σ = hp E0 [] (N0 + 21)) (fun K hK => ?_) ?_
   ·
    skip
    simp -dsimp -implicitDefEqProofs (maxDischargeDepth := 6)
    refine (c69 hr3).app ?_; try simp -dsimp -implicitDefEqProofs (maxDischargeDepth := 6)
    exact hK _ _ ⟨rfl, rfl⟩
   rintro a σ ⟨rfl, rfl⟩
   refine AWP_sq [1] fun K3 hK3 => ?_
   refine AWP_sr tok [] [1, 22] (fun a σ => a = [(1, .int .i64 r3), (22, .bool (ilt r3 0))] ∧ σ = hp E0 [] (N0 + 23)) (fun K hK => ?_) ?_
   ·
    skip
    simp -dsimp -implicitDefEqProofs (maxDischargeDepth := 6)
    exact hK _ _ ⟨rfl, rfl⟩
   rintro a σ ⟨rfl, rfl⟩
   refine AWP_cond (ilt r3 0) rfl (fun C3 => ?_) (fun C3 => ?_)
   ·
    replace H := ifT C3 H
    refine AWP_sr tok [] [4] (fun a σ => a = [(4, .int .i64 (-1))] ∧ σ = hp E0 [] (N0 + 24)) (fun K hK => ?_) ?_
    ·
     skip
     simp -dsimp -implicitDefEqProofs (maxDischargeDepth := 6)
     exact hK _ _ ⟨rfl, rfl⟩
    rintro a σ ⟨rfl, rfl⟩
    replace H := Option.some.inj H; subst H
    refine AWP_kp [4] [(4, .int .i64 (-1))] rfl ?_
    refine AWP_ret ?_
    exact ⟨[.int .i64 (-1)], by simp, 4, by simp [encL_nil]⟩
   ·
    replace H := ifF C3 H
    refine AWP_skip ?_
    show K3 _ _
    refine keepE (l := [1]) (x := [(1, .int .i64 r3)]) rfl fun a' ha => ?_
    refine hK3 _ _ ?_; rw [ha]
    refine Rc.mk ?_
    refine AWP_sr tok [] [4] (fun a σ => a = [(4, .int .i64 r3)] ∧ σ = hp E0 [] (N0 + 25)) (fun K hK => ?_) ?_
    ·
     skip
     simp -dsimp -implicitDefEqProofs (maxDischargeDepth := 6)
     exact hK _ _ ⟨rfl, rfl⟩
    rintro a σ ⟨rfl, rfl⟩
    replace H := Option.some.inj H; subst H
    refine AWP_kp [4] [(4, .int .i64 r3)] rfl ?_
    refine AWP_ret ?_
    exact ⟨[.int .i64 r3], by simp, 4, by simp [encL_nil]⟩
theorem c4 {p0 : gSquad} {r : Bool} (H : l_FnExactSquadOutcome p0 = some r) : APure Try.prog G 4 [.agg [.fsl (encL rMachine p0.Harts), .fsl (encL rBox p0.Boxes), .int .i64 p0.Turn, .int .i64 p0.Idle, .fsl (encL rI p0.Out)]] (.bool r) := by
 refine APure_fn (fun N0 => ?_) (by simp)
 refine ACalls_fn tok Try.func4 (by kernel_rfl) rfl Try.ntmps4 Try.results4 rfl ?_
 simp only [argsA, Nat.reduceAdd, hp_next]
 unfold l_FnExactSquadOutcome at H
 refine AWP_sr tok [0] [1] (fun a σ => a = [(1, .fptr [.fsl (encL rMachine p0.Harts), .fsl (encL rBox p0.Boxes), .int .i64 p0.Turn, .int .i64 p0.Idle, .fsl (encL rI p0.Out)] 0)] ∧ σ = hp E0 [] (N0 + 2)) (fun K hK => ?_) ?_
 ·
  skip
  simp -dsimp -implicitDefEqProofs (maxDischargeDepth := 6)
  exact hK _ _ ⟨rfl, rfl⟩
 rintro a σ ⟨rfl, rfl⟩
 refine AWP_sr tok [] [1, 3] (fun a σ => a = [(1, .fptr [.fsl (encL rMachine p0.Harts), .fsl (encL rBox p0.Boxes), .int .i64 p0.Turn, .int .i64 p0.Idle, .fsl (encL rI p0.Out)] 0), (3, .int .i64 1048576)] ∧ σ = hp E0 [] (N0 + 3)) (fun K hK => ?_) ?_
 ·
  skip
  simp -dsimp -implicitDefEqProofs (maxDischargeDepth := 6)
  exact hK _ _ ⟨rfl, rfl⟩
 rintro a σ ⟨rfl, rfl⟩
 obtain ⟨r1, hr1, H⟩ := bindE H
 refine AWP_sr tok [] [1, 3] (fun a σ => a = [(1, .fptr [.fsl (encL rMachine p0.Harts), .fsl (encL rBox p0.Boxes), .int .i64 p0.Turn, .int .i64 p0.Idle, .fsl (encL rI p0.Out)] 0), (3, .int .i64 r1)] ∧ σ = hp E0 [] (N0 + 7)) (fun K hK => ?_) ?_
 ·
  skip
  simp -dsimp -implicitDefEqProofs (maxDischargeDepth := 6)
  refine (c23 hr1).app ?_; try simp -dsimp -implicitDefEqProofs (maxDischargeDepth := 6)
  exact hK _ _ ⟨rfl, rfl⟩
 rintro a σ ⟨rfl, rfl⟩
 refine AWP_sq [1] fun K1 hK1 => ?_
 refine AWP_sr tok [] [1, 15] (fun a σ => a = [(1, .fptr [.fsl (encL rMachine p0.Harts), .fsl (encL rBox p0.Boxes), .int .i64 p0.Turn, .int .i64 p0.Idle, .fsl (encL rI p0.Out)] 0), (15, .bool (ilt r1 0))] ∧ σ = hp E0 [] (N0 + 9)) (fun K hK => ?_) ?_
 ·
  skip
  simp -dsimp -implicitDefEqProofs (maxDischargeDepth := 6)
  exact hK _ _ ⟨rfl, rfl⟩
 rintro a σ ⟨rfl, rfl⟩
 refine AWP_cond (ilt r1 0) rfl (fun C1 => ?_) (fun C1 => ?_)
 ·
  replace H := ifT C1 H
  refine AWP_sr tok [] [2] (fun a σ => a = [(2, .bool true)] ∧ σ = hp E0 [] (N0 + 10)) (fun K hK => ?_) ?_
  ·
   skip
   simp -dsimp -implicitDefEqProofs (maxDischargeDepth := 6)
   exact hK _ _ ⟨rfl, rfl⟩
  rintro a σ ⟨rfl, rfl⟩
  replace H := Option.some.inj H; subst H
  refine AWP_kp [2] [(2, .bool true)] rfl ?_
  refine AWP_ret ?_
  exact ⟨[.bool true], by simp, 4, by simp [encL_nil]⟩
 ·
  replace H := ifF C1 H
  refine AWP_skip ?_
  show K1 _ _
  refine keepE (l := [1]) (x := [(1, .fptr [.fsl (encL rMachine p0.Harts), .fsl (encL rBox p0.Boxes), .int .i64 p0.Turn, .int .i64 p0.Idle, .fsl (encL rI p0.Out)] 0)]) rfl fun a' ha => ?_
  refine hK1 _ _ ?_; rw [ha]
  refine Rc.mk ?_
  obtain ⟨r2, hr2, H⟩ := bindE H
  obtain ⟨r3, hr3, H⟩ := bindE H
  refine AWP_sr tok [] [1, 4] (fun a σ => a = [(1, .fptr [.fsl (encL rMachine p0.Harts), .fsl (encL rBox p0.Boxes), .int .i64 p0.Turn, .int .i64 p0.Idle, .fsl (encL rI p0.Out)] 0), (4, .ptr (N0 + 12) 0 0)] ∧ σ = hp E0 [(N0 + 12, some ⟨48, 4, [[.fsl (encL rI r3.Out), .fsl (encL rL_I r3.Items), .fsl (encL rB r3.Ended), .bool r3.Rest]]⟩)] (N0 + 14)) (fun K hK => ?_) ?_
  ·
   skip
   simp -dsimp -implicitDefEqProofs (maxDischargeDepth := 6)
   refine (c25 hr2).app ?_; try simp -dsimp -implicitDefEqProofs (maxDischargeDepth := 6)
   refine (c24 hr3).app ?_; try simp -dsimp -implicitDefEqProofs (maxDischargeDepth := 6)
   exact hK _ _ ⟨rfl, rfl⟩
  rintro a σ ⟨rfl, rfl⟩
  obtain ⟨r4, hr4, H⟩ := bindE H
  refine AWP_sr tok [] [1, 4, 5] (fun a σ => ∃ M1 o1 o2 o3 : Nat, N0 + 18 ≤ M1 ∧ N0 + 18 ≤ o1 ∧ o1 < M1 ∧ N0 + 18 ≤ o2 ∧ o2 < M1 ∧ N0 + 18 ≤ o3 ∧ o3 < M1 ∧ ¬ o1 = o2 ∧ ¬ o1 = o3 ∧ ¬ o2 = o3 ∧ a = [(1, .fptr [.fsl (encL rMachine p0.Harts), .fsl (encL rBox p0.Boxes), .int .i64 p0.Turn, .int .i64 p0.Idle, .fsl (encL rI p0.Out)] 0), (4, .ptr (N0 + 12) 0 0), (5, .ptr (N0 + 16) 0 0)] ∧ σ = hp E0 [(N0 + 12, some ⟨48, 4, [[.fsl (encL rI r3.Out), .fsl (encL rL_I r3.Items), .fsl (encL rB r3.Ended), .bool r3.Rest]]⟩), (o1, some ⟨28, 3, encL rMachine_oo r4.Harts⟩), (o2, some ⟨64, 2, encL rBox_o r4.Boxes⟩), (o3, some ⟨3, 1, encL rI r4.Out⟩), (N0 + 16, some ⟨52, 5, [[.sl o1 0 r4.Harts.length, .sl o2 0 r4.Boxes.length, .int .i64 r4.Turn, .int .i64 r4.Idle, .sl o3 0 r4.Out.length]]⟩)] M1) (fun K hK => ?_) ?_
  ·
   skip
   simp -dsimp -implicitDefEqProofs (maxDischargeDepth := 6)
   refine (c25_o6 (H := hr4) ).mono ?_; rintro _ _ ⟨M1, o1, o2, o3, fM1_0, fM1_1, fM1_2, fM1_3, fM1_4, fM1_5, fM1_6, fM1_7, fM1_8, fM1_9, rfl, rfl⟩; simp only [hp_next] at fM1_0 fM1_1 fM1_2 fM1_3 fM1_4 fM1_5 fM1_6 fM1_7 fM1_8 fM1_9
   have eM1_0 := nq (a := o1) (b := N0 + 12) (by omega)
   have eM1_1 := nq (a := o1) (b := N0 + 16) (by omega)
   have eM1_2 := nq (a := o1) (b := o2) (by omega)
   have eM1_3 := nq (a := o1) (b := o3) (by omega)
   have eM1_4 := nq (a := o2) (b := N0 + 12) (by omega)
   have eM1_5 := nq (a := o2) (b := N0 + 16) (by omega)
   have eM1_6 := nq (a := o2) (b := o3) (by omega)
   have eM1_7 := nq (a := o3) (b := N0 + 12) (by omega)
   have eM1_8 := nq (a := o3) (b := N0 + 16) (by omega)
   try simp -dsimp -implicitDefEqProofs (maxDischargeDepth := 6) [eM1_0, eM1_1, eM1_2, eM1_3, eM1_4, eM1_5, eM1_6, eM1_7, eM1_8, hp_over_some, hp_over_none]
   exact hK _ _ ⟨M1, o1, o2, o3, (by omega), (by omega), (by omega), (by omega), (by omega), (by omega), (by omega), (by omega), (by omega), (by omega), rfl, rfl⟩
  rintro a σ ⟨M1, o1, o2, o3, fM1_0, fM1_1, fM1_2, fM1_3, fM1_4, fM1_5, fM1_6, fM1_7, fM1_8, fM1_9, rfl, rfl⟩
  refine gPk AWP_ref (k := r4.Harts.length) (o := (N0 + 16)) (ob := ⟨52, 5, [[.sl o1 0 r4.Harts.length, .sl o2 0 r4.Boxes.length, .int .i64 r4.Turn, .int .i64 r4.Idle, .sl o3 0 r4.Out.length]]⟩) (row := [.sl o1 0 r4.Harts.length, .sl o2 0 r4.Boxes.length, .int .i64 r4.Turn, .int .i64 r4.Idle, .sl o3 0 r4.Out.length]) (d := o1) (obd := ⟨28, 3, encL rMachine_oo r4.Harts⟩) (r := 0) (i := 0) [(N0 + 12, some ⟨48, 4, [[.fsl (encL rI r3.Out), .fsl (encL rL_I r3.Items), .fsl (encL rB r3.Ended), .bool r3.Rest]]⟩), (o2, some ⟨64, 2, encL rBox_o r4.Boxes⟩), (o3, some ⟨3, 1, encL rI r4.Out⟩), (N0 + 16, some ⟨52, 5, [[.osl 28 3 (encL rMachine_oo r4.Harts), .sl o2 0 r4.Boxes.length, .int .i64 r4.Turn, .int .i64 r4.Idle, .sl o3 0 r4.Out.length]]⟩)] (by simp (disch := omega)) rfl rfl (by simp (disch := omega)) (by simp (disch := omega)) (by first | omega | simp) (by simp (disch := omega) [List.set_set, app_set] <;> omega) (by simp (disch := omega) [List.set_set, app_set]) ?_
  refine gPk AWP_ref (k := r4.Boxes.length) (o := (N0 + 16)) (ob := ⟨52, 5, [[.osl 28 3 (encL rMachine_oo r4.Harts), .sl o2 0 r4.Boxes.length, .int .i64 r4.Turn, .int .i64 r4.Idle, .sl o3 0 r4.Out.length]]⟩) (row := [.osl 28 3 (encL rMachine_oo r4.Harts), .sl o2 0 r4.Boxes.length, .int .i64 r4.Turn, .int .i64 r4.Idle, .sl o3 0 r4.Out.length]) (d := o2) (obd := ⟨64, 2, encL rBox_o r4.Boxes⟩) (r := 0) (i := 1) [(N0 + 12, some ⟨48, 4, [[.fsl (encL rI r3.Out), .fsl (encL rL_I r3.Items), .fsl (encL rB r3.Ended), .bool r3.Rest]]⟩), (o3, some ⟨3, 1, encL rI r4.Out⟩), (N0 + 16, some ⟨52, 5, [[.osl 28 3 (encL rMachine_oo r4.Harts), .osl 64 2 (encL rBox_o r4.Boxes), .int .i64 r4.Turn, .int .i64 r4.Idle, .sl o3 0 r4.Out.length]]⟩)] (by simp (disch := omega)) rfl rfl (by simp (disch := omega)) (by simp (disch := omega)) (by first | omega | simp) (by simp (disch := omega) [List.set_set, app_set] <;> omega) (by simp (disch := omega) [List.set_set, app_set]) ?_
  refine gPk AWP_ref (k := r4.Out.length) (o := (N0 + 16)) (ob := ⟨52, 5, [[.osl 28 3 (encL rMachine_oo r4.Harts), .osl 64 2 (encL rBox_o r4.Boxes), .int .i64 r4.Turn, .int .i64 r4.Idle, .sl o3 0 r4.Out.length]]⟩) (row := [.osl 28 3 (encL rMachine_oo r4.Harts), .osl 64 2 (encL rBox_o r4.Boxes), .int .i64 r4.Turn, .int .i64 r4.Idle, .sl o3 0 r4.Out.length]) (d := o3) (obd := ⟨3, 1, encL rI r4.Out⟩) (r := 0) (i := 4) [(N0 + 12, some ⟨48, 4, [[.fsl (encL rI r3.Out), .fsl (encL rL_I r3.Items), .fsl (encL rB r3.Ended), .bool r3.Rest]]⟩), (N0 + 16, some ⟨52, 5, [[.osl 28 3 (encL rMachine_oo r4.Harts), .osl 64 2 (encL rBox_o r4.Boxes), .int .i64 r4.Turn, .int .i64 r4.Idle, .osl 3 1 (encL rI r4.Out)]]⟩)] (by simp (disch := omega)) rfl rfl (by simp (disch := omega)) (by simp (disch := omega)) (by first | omega | simp) (by simp (disch := omega) [List.set_set, app_set] <;> omega) (by simp (disch := omega) [List.set_set, app_set]) ?_
  refine gUnp AWP_ref (ty := 28) (sz := 3) (es := encL rMachine_oo r4.Harts) (o := (N0 + 16)) (ob := ⟨52, 5, [[.osl 28 3 (encL rMachine_oo r4.Harts), .osl 64 2 (encL rBox_o r4.Boxes), .int .i64 r4.Turn, .int .i64 r4.Idle, .osl 3 1 (encL rI r4.Out)]]⟩) (row := [.osl 28 3 (encL rMachine_oo r4.Harts), .osl 64 2 (encL rBox_o r4.Boxes), .int .i64 r4.Turn, .int .i64 r4.Idle, .osl 3 1 (encL rI r4.Out)]) (r := 0) (i := 0) [(N0 + 12, some ⟨48, 4, [[.fsl (encL rI r3.Out), .fsl (encL rL_I r3.Items), .fsl (encL rB r3.Ended), .bool r3.Rest]]⟩), (N0 + 16, some ⟨52, 5, [[.sl M1 0 r4.Harts.length, .osl 64 2 (encL rBox_o r4.Boxes), .int .i64 r4.Turn, .int .i64 r4.Idle, .osl 3 1 (encL rI r4.Out)]]⟩), (M1, some ⟨28, 3, encL rMachine_oo r4.Harts⟩)] (by simp (disch := omega)) rfl rfl (by simp (disch := omega) [List.set_set]) ?_
  refine gUnp AWP_ref (ty := 64) (sz := 2) (es := encL rBox_o r4.Boxes) (o := (N0 + 16)) (ob := ⟨52, 5, [[.sl M1 0 r4.Harts.length, .osl 64 2 (encL rBox_o r4.Boxes), .int .i64 r4.Turn, .int .i64 r4.Idle, .osl 3 1 (encL rI r4.Out)]]⟩) (row := [.sl M1 0 r4.Harts.length, .osl 64 2 (encL rBox_o r4.Boxes), .int .i64 r4.Turn, .int .i64 r4.Idle, .osl 3 1 (encL rI r4.Out)]) (r := 0) (i := 1) [(N0 + 12, some ⟨48, 4, [[.fsl (encL rI r3.Out), .fsl (encL rL_I r3.Items), .fsl (encL rB r3.Ended), .bool r3.Rest]]⟩), (N0 + 16, some ⟨52, 5, [[.sl M1 0 r4.Harts.length, .sl (M1 + 1) 0 r4.Boxes.length, .int .i64 r4.Turn, .int .i64 r4.Idle, .osl 3 1 (encL rI r4.Out)]]⟩), (M1, some ⟨28, 3, encL rMachine_oo r4.Harts⟩), (M1 + 1, some ⟨64, 2, encL rBox_o r4.Boxes⟩)] (by simp (disch := omega)) rfl rfl (by simp (disch := omega) [List.set_set]) ?_
  refine gUnp AWP_ref (ty := 3) (sz := 1) (es := encL rI r4.Out) (o := (N0 + 16)) (ob := ⟨52, 5, [[.sl M1 0 r4.Harts.length, .sl (M1 + 1) 0 r4.Boxes.length, .int .i64 r4.Turn, .int .i64 r4.Idle, .osl 3 1 (encL rI r4.Out)]]⟩) (row := [.sl M1 0 r4.Harts.length, .sl (M1 + 1) 0 r4.Boxes.length, .int .i64 r4.Turn, .int .i64 r4.Idle, .osl 3 1 (encL rI r4.Out)]) (r := 0) (i := 4) [(N0 + 12, some ⟨48, 4, [[.fsl (encL rI r3.Out), .fsl (encL rL_I r3.Items), .fsl (encL rB r3.Ended), .bool r3.Rest]]⟩), (N0 + 16, some ⟨52, 5, [[.sl M1 0 r4.Harts.length, .sl (M1 + 1) 0 r4.Boxes.length, .int .i64 r4.Turn, .int .i64 r4.Idle, .sl (M1 + 2) 0 r4.Out.length]]⟩), (M1, some ⟨28, 3, encL rMachine_oo r4.Harts⟩), (M1 + 1, some ⟨64, 2, encL rBox_o r4.Boxes⟩), (M1 + 2, some ⟨3, 1, encL rI r4.Out⟩)] (by simp (disch := omega)) rfl rfl (by simp (disch := omega) [List.set_set]) ?_
  obtain ⟨r5, hr5, H⟩ := bindE H
  refine AWP_sr tok [] [1, 4, 5, 6] (fun a σ => ∃ M2 o4 o5 o6 : Nat, M1 + 7 ≤ M2 ∧ M1 + 7 ≤ o4 ∧ o4 < M2 ∧ M1 + 7 ≤ o5 ∧ o5 < M2 ∧ M1 + 7 ≤ o6 ∧ o6 < M2 ∧ ¬ o4 = o5 ∧ ¬ o4 = o6 ∧ ¬ o5 = o6 ∧ a = [(1, .fptr [.fsl (encL rMachine p0.Harts), .fsl (encL rBox p0.Boxes), .int .i64 p0.Turn, .int .i64 p0.Idle, .fsl (encL rI p0.Out)] 0), (4, .ptr (N0 + 12) 0 0), (5, .ptr (N0 + 16) 0 0), (6, .ptr (M1 + 5) 0 0)] ∧ σ = hp E0 [(N0 + 12, some ⟨48, 4, [[.fsl (encL rI r3.Out), .fsl (encL rL_I r3.Items), .fsl (encL rB r3.Ended), .bool r3.Rest]]⟩), (N0 + 16, some ⟨52, 5, [[.sl M1 0 r4.Harts.length, .sl (M1 + 1) 0 r4.Boxes.length, .int .i64 r4.Turn, .int .i64 r4.Idle, .sl (M1 + 2) 0 r4.Out.length]]⟩), (M1, some ⟨28, 3, encL rMachine_oo r4.Harts⟩), (M1 + 1, some ⟨64, 2, encL rBox_o r4.Boxes⟩), (M1 + 2, some ⟨3, 1, encL rI r4.Out⟩), (o4, some ⟨3, 1, encL rI r5.Out⟩), (o5, some ⟨22, 1, encL rL_I_o r5.Items⟩), (o6, some ⟨4, 1, encL rB r5.Ended⟩), (M1 + 5, some ⟨48, 4, [[.sl o4 0 r5.Out.length, .sl o5 0 r5.Items.length, .sl o6 0 r5.Ended.length, .bool r5.Rest]]⟩)] M2) (fun K hK => ?_) ?_
  ·
   skip
   have e0 := nq (a := N0 + 12) (b := M1) (by omega)
   have e1 := nq (a := N0 + 12) (b := M1 + 1) (by omega)
   have e2 := nq (a := N0 + 11) (b := M1) (by omega)
   have e3 := nq (a := N0 + 12) (b := M1 + 2) (by omega)
   have e4 := nq (a := N0 + 10) (b := M1) (by omega)
   have e5 := nq (a := N0 + 12) (b := M1 + 5) (by omega)
   have e6 := nq (a := N0 + 7) (b := M1) (by omega)
   have e7 := nq (a := N0 + 16) (b := M1) (by omega)
   have e8 := nq (a := N0 + 16) (b := M1 + 1) (by omega)
   have e9 := nq (a := N0 + 15) (b := M1) (by omega)
   have e10 := nq (a := N0 + 16) (b := M1 + 2) (by omega)
   have e11 := nq (a := N0 + 14) (b := M1) (by omega)
   have e12 := nq (a := N0 + 16) (b := M1 + 5) (by omega)
   simp -dsimp -implicitDefEqProofs (maxDischargeDepth := 6) [e0, e1, e2, e3, e4, e5, e6, e7, e8, e9, e10, e11, e12]
   refine (c26_o4_b (H := hr5) (by simp [e0, e1, e2, e3, e4, e5, e6, e7, e8, e9, e10, e11, e12])).mono ?_; rintro _ _ ⟨M2, o4, o5, o6, fM2_0, fM2_1, fM2_2, fM2_3, fM2_4, fM2_5, fM2_6, fM2_7, fM2_8, fM2_9, rfl, rfl⟩; simp only [hp_next] at fM2_0 fM2_1 fM2_2 fM2_3 fM2_4 fM2_5 fM2_6 fM2_7 fM2_8 fM2_9
   have eM2_0 := nq (a := o4) (b := N0 + 12) (by omega)
   have eM2_1 := nq (a := o4) (b := N0 + 16) (by omega)
   have eM2_2 := nq (a := o4) (b := M1) (by omega)
   have eM2_3 := nq (a := o4) (b := M1 + 1) (by omega)
   have eM2_4 := nq (a := o4) (b := M1 + 2) (by omega)
   have eM2_5 := nq (a := o4) (b := M1 + 5) (by omega)
   have eM2_6 := nq (a := o4) (b := o5) (by omega)
   have eM2_7 := nq (a := o4) (b := o6) (by omega)
   have eM2_8 := nq (a := o5) (b := N0 + 12) (by omega)
   have eM2_9 := nq (a := o5) (b := N0 + 16) (by omega)
   have eM2_10 := nq (a := o5) (b := M1) (by omega)
   have eM2_11 := nq (a := o5) (b := M1 + 1) (by omega)
   have eM2_12 := nq (a := o5) (b := M1 + 2) (by omega)
   have eM2_13 := nq (a := o5) (b := M1 + 5) (by omega)
   have eM2_14 := nq (a := o5) (b := o6) (by omega)
   have eM2_15 := nq (a := o6) (b := N0 + 12) (by omega)
   have eM2_16 := nq (a := o6) (b := N0 + 16) (by omega)
   have eM2_17 := nq (a := o6) (b := M1) (by omega)
   have eM2_18 := nq (a := o6) (b := M1 + 1) (by omega)
   have eM2_19 := nq (a := o6) (b := M1 + 2) (by omega)
   have eM2_20 := nq (a := o6) (b := M1 + 5) (by omega)
   try simp -dsimp -implicitDefEqProofs (maxDischargeDepth := 6) [e0, e1, e2, e3, e4, e5, e6, e7, e8, e9, e10, e11, e12, eM2_0, eM2_1, eM2_2, eM2_3, eM2_4, eM2_5, eM2_6, eM2_7, eM2_8, eM2_9, eM2_10, eM2_11, eM2_12, eM2_13, eM2_14, eM2_15, eM2_16, eM2_17, eM2_18, eM2_19, eM2_20, hp_over_some, hp_over_none]
   exact hK _ _ ⟨M2, o4, o5, o6, (by omega), (by omega), (by omega), (by omega), (by omega), (by omega), (by omega), (by omega), (by omega), (by omega), rfl, rfl⟩
  rintro a σ ⟨M2, o4, o5, o6, fM2_0, fM2_1, fM2_2, fM2_3, fM2_4, fM2_5, fM2_6, fM2_7, fM2_8, fM2_9, rfl, rfl⟩
  refine AWP_sq [1, 4, 5, 6] fun K2 hK2 => ?_
  refine gPk AWP_ref (k := r4.Harts.length) (o := (N0 + 16)) (ob := ⟨52, 5, [[.sl M1 0 r4.Harts.length, .sl (M1 + 1) 0 r4.Boxes.length, .int .i64 r4.Turn, .int .i64 r4.Idle, .sl (M1 + 2) 0 r4.Out.length]]⟩) (row := [.sl M1 0 r4.Harts.length, .sl (M1 + 1) 0 r4.Boxes.length, .int .i64 r4.Turn, .int .i64 r4.Idle, .sl (M1 + 2) 0 r4.Out.length]) (d := M1) (obd := ⟨28, 3, encL rMachine_oo r4.Harts⟩) (r := 0) (i := 0) [(N0 + 12, some ⟨48, 4, [[.fsl (encL rI r3.Out), .fsl (encL rL_I r3.Items), .fsl (encL rB r3.Ended), .bool r3.Rest]]⟩), (N0 + 16, some ⟨52, 5, [[.osl 28 3 (encL rMachine_oo r4.Harts), .sl (M1 + 1) 0 r4.Boxes.length, .int .i64 r4.Turn, .int .i64 r4.Idle, .sl (M1 + 2) 0 r4.Out.length]]⟩), (M1 + 1, some ⟨64, 2, encL rBox_o r4.Boxes⟩), (M1 + 2, some ⟨3, 1, encL rI r4.Out⟩), (o4, some ⟨3, 1, encL rI r5.Out⟩), (o5, some ⟨22, 1, encL rL_I_o r5.Items⟩), (o6, some ⟨4, 1, encL rB r5.Ended⟩), (M1 + 5, some ⟨48, 4, [[.sl o4 0 r5.Out.length, .sl o5 0 r5.Items.length, .sl o6 0 r5.Ended.length, .bool r5.Rest]]⟩)] (by simp (disch := omega)) rfl rfl (by simp (disch := omega)) (by simp (disch := omega)) (by first | omega | simp) (by simp (disch := omega) [List.set_set, app_set] <;> omega) (by simp (disch := omega) [List.set_set, app_set]) ?_
  refine gPk AWP_ref (k := r4.Boxes.length) (o := (N0 + 16)) (ob := ⟨52, 5, [[.osl 28 3 (encL rMachine_oo r4.Harts), .sl (M1 + 1) 0 r4.Boxes.length, .int .i64 r4.Turn, .int .i64 r4.Idle, .sl (M1 + 2) 0 r4.Out.length]]⟩) (row := [.osl 28 3 (encL rMachine_oo r4.Harts), .sl (M1 + 1) 0 r4.Boxes.length, .int .i64 r4.Turn, .int .i64 r4.Idle, .sl (M1 + 2) 0 r4.Out.length]) (d := (M1 + 1)) (obd := ⟨64, 2, encL rBox_o r4.Boxes⟩) (r := 0) (i := 1) [(N0 + 12, some ⟨48, 4, [[.fsl (encL rI r3.Out), .fsl (encL rL_I r3.Items), .fsl (encL rB r3.Ended), .bool r3.Rest]]⟩), (N0 + 16, some ⟨52, 5, [[.osl 28 3 (encL rMachine_oo r4.Harts), .osl 64 2 (encL rBox_o r4.Boxes), .int .i64 r4.Turn, .int .i64 r4.Idle, .sl (M1 + 2) 0 r4.Out.length]]⟩), (M1 + 2, some ⟨3, 1, encL rI r4.Out⟩), (o4, some ⟨3, 1, encL rI r5.Out⟩), (o5, some ⟨22, 1, encL rL_I_o r5.Items⟩), (o6, some ⟨4, 1, encL rB r5.Ended⟩), (M1 + 5, some ⟨48, 4, [[.sl o4 0 r5.Out.length, .sl o5 0 r5.Items.length, .sl o6 0 r5.Ended.length, .bool r5.Rest]]⟩)] (by simp (disch := omega)) rfl rfl (by simp (disch := omega)) (by simp (disch := omega)) (by first | omega | simp) (by simp (disch := omega) [List.set_set, app_set] <;> omega) (by simp (disch := omega) [List.set_set, app_set]) ?_
  refine gPk AWP_ref (k := r4.Out.length) (o := (N0 + 16)) (ob := ⟨52, 5, [[.osl 28 3 (encL rMachine_oo r4.Harts), .osl 64 2 (encL rBox_o r4.Boxes), .int .i64 r4.Turn, .int .i64 r4.Idle, .sl (M1 + 2) 0 r4.Out.length]]⟩) (row := [.osl 28 3 (encL rMachine_oo r4.Harts), .osl 64 2 (encL rBox_o r4.Boxes), .int .i64 r4.Turn, .int .i64 r4.Idle, .sl (M1 + 2) 0 r4.Out.length]) (d := (M1 + 2)) (obd := ⟨3, 1, encL rI r4.Out⟩) (r := 0) (i := 4) [(N0 + 12, some ⟨48, 4, [[.fsl (encL rI r3.Out), .fsl (encL rL_I r3.Items), .fsl (encL rB r3.Ended), .bool r3.Rest]]⟩), (N0 + 16, some ⟨52, 5, [[.osl 28 3 (encL rMachine_oo r4.Harts), .osl 64 2 (encL rBox_o r4.Boxes), .int .i64 r4.Turn, .int .i64 r4.Idle, .osl 3 1 (encL rI r4.Out)]]⟩), (o4, some ⟨3, 1, encL rI r5.Out⟩), (o5, some ⟨22, 1, encL rL_I_o r5.Items⟩), (o6, some ⟨4, 1, encL rB r5.Ended⟩), (M1 + 5, some ⟨48, 4, [[.sl o4 0 r5.Out.length, .sl o5 0 r5.Items.length, .sl o6 0 r5.Ended.length, .bool r5.Rest]]⟩)] (by simp (disch := omega)) rfl rfl (by simp (disch := omega)) (by simp (disch := omega)) (by first | omega | simp) (by simp (disch := omega) [List.set_set, app_set] <;> omega) (by simp (disch := omega) [List.set_set, app_set]) ?_
  refine gPk AWP_ref (k := r5.Out.length) (o := (M1 + 5)) (ob := ⟨48, 4, [[.sl o4 0 r5.Out.length, .sl o5 0 r5.Items.length, .sl o6 0 r5.Ended.length, .bool r5.Rest]]⟩) (row := [.sl o4 0 r5.Out.length, .sl o5 0 r5.Items.length, .sl o6 0 r5.Ended.length, .bool r5.Rest]) (d := o4) (obd := ⟨3, 1, encL rI r5.Out⟩) (r := 0) (i := 0) [(N0 + 12, some ⟨48, 4, [[.fsl (encL rI r3.Out), .fsl (encL rL_I r3.Items), .fsl (encL rB r3.Ended), .bool r3.Rest]]⟩), (N0 + 16, some ⟨52, 5, [[.osl 28 3 (encL rMachine_oo r4.Harts), .osl 64 2 (encL rBox_o r4.Boxes), .int .i64 r4.Turn, .int .i64 r4.Idle, .osl 3 1 (encL rI r4.Out)]]⟩), (o5, some ⟨22, 1, encL rL_I_o r5.Items⟩), (o6, some ⟨4, 1, encL rB r5.Ended⟩), (M1 + 5, some ⟨48, 4, [[.osl 3 1 (encL rI r5.Out), .sl o5 0 r5.Items.length, .sl o6 0 r5.Ended.length, .bool r5.Rest]]⟩)] (by simp (disch := omega)) rfl rfl (by simp (disch := omega)) (by simp (disch := omega)) (by first | omega | simp) (by simp (disch := omega) [List.set_set, app_set] <;> omega) (by simp (disch := omega) [List.set_set, app_set]) ?_
  refine gPk AWP_ref (k := r5.Items.length) (o := (M1 + 5)) (ob := ⟨48, 4, [[.osl 3 1 (encL rI r5.Out), .sl o5 0 r5.Items.length, .sl o6 0 r5.Ended.length, .bool r5.Rest]]⟩) (row := [.osl 3 1 (encL rI r5.Out), .sl o5 0 r5.Items.length, .sl o6 0 r5.Ended.length, .bool r5.Rest]) (d := o5) (obd := ⟨22, 1, encL rL_I_o r5.Items⟩) (r := 0) (i := 1) [(N0 + 12, some ⟨48, 4, [[.fsl (encL rI r3.Out), .fsl (encL rL_I r3.Items), .fsl (encL rB r3.Ended), .bool r3.Rest]]⟩), (N0 + 16, some ⟨52, 5, [[.osl 28 3 (encL rMachine_oo r4.Harts), .osl 64 2 (encL rBox_o r4.Boxes), .int .i64 r4.Turn, .int .i64 r4.Idle, .osl 3 1 (encL rI r4.Out)]]⟩), (o6, some ⟨4, 1, encL rB r5.Ended⟩), (M1 + 5, some ⟨48, 4, [[.osl 3 1 (encL rI r5.Out), .osl 22 1 (encL rL_I_o r5.Items), .sl o6 0 r5.Ended.length, .bool r5.Rest]]⟩)] (by simp (disch := omega)) rfl rfl (by simp (disch := omega)) (by simp (disch := omega)) (by first | omega | simp) (by simp (disch := omega) [List.set_set, app_set] <;> omega) (by simp (disch := omega) [List.set_set, app_set]) ?_
  refine gPk AWP_ref (k := r5.Ended.length) (o := (M1 + 5)) (ob := ⟨48, 4, [[.osl 3 1 (encL rI r5.Out), .osl 22 1 (encL rL_I_o r5.Items), .sl o6 0 r5.Ended.length, .bool r5.Rest]]⟩) (row := [.osl 3 1 (encL rI r5.Out), .osl 22 1 (encL rL_I_o r5.Items), .sl o6 0 r5.Ended.length, .bool r5.Rest]) (d := o6) (obd := ⟨4, 1, encL rB r5.Ended⟩) (r := 0) (i := 2) [(N0 + 12, some ⟨48, 4, [[.fsl (encL rI r3.Out), .fsl (encL rL_I r3.Items), .fsl (encL rB r3.Ended), .bool r3.Rest]]⟩), (N0 + 16, some ⟨52, 5, [[.osl 28 3 (encL rMachine_oo r4.Harts), .osl 64 2 (encL rBox_o r4.Boxes), .int .i64 r4.Turn, .int .i64 r4.Idle, .osl 3 1 (encL rI r4.Out)]]⟩), (M1 + 5, some ⟨48, 4, [[.osl 3 1 (encL rI r5.Out), .osl 22 1 (encL rL_I_o r5.Items), .osl 4 1 (encL rB r5.Ended), .bool r5.Rest]]⟩)] (by simp (disch := omega)) rfl rfl (by simp (disch := omega)) (by simp (disch := omega)) (by first | omega | simp) (by simp (disch := omega) [List.set_set, app_set] <;> omega) (by simp (disch := omega) [List.set_set, app_set]) ?_
  refine gUnp AWP_ref (ty := 3) (sz := 1) (es := encL rI r5.Out) (o := (M1 + 5)) (ob := ⟨48, 4, [[.osl 3 1 (encL rI r5.Out), .osl 22 1 (encL rL_I_o r5.Items), .osl 4 1 (encL rB r5.Ended), .bool r5.Rest]]⟩) (row := [.osl 3 1 (encL rI r5.Out), .osl 22 1 (encL rL_I_o r5.Items), .osl 4 1 (encL rB r5.Ended), .bool r5.Rest]) (r := 0) (i := 0) [(N0 + 12, some ⟨48, 4, [[.fsl (encL rI r3.Out), .fsl (encL rL_I r3.Items), .fsl (encL rB r3.Ended), .bool r3.Rest]]⟩), (N0 + 16, some ⟨52, 5, [[.osl 28 3 (encL rMachine_oo r4.Harts), .osl 64 2 (encL rBox_o r4.Boxes), .int .i64 r4.Turn, .int .i64 r4.Idle, .osl 3 1 (encL rI r4.Out)]]⟩), (M1 + 5, some ⟨48, 4, [[.sl M2 0 r5.Out.length, .osl 22 1 (encL rL_I_o r5.Items), .osl 4 1 (encL rB r5.Ended), .bool r5.Rest]]⟩), (M2, some ⟨3, 1, encL rI r5.Out⟩)] (by simp (disch := omega)) rfl rfl (by simp (disch := omega) [List.set_set]) ?_
  refine gUnp AWP_ref (ty := 22) (sz := 1) (es := encL rL_I_o r5.Items) (o := (M1 + 5)) (ob := ⟨48, 4, [[.sl M2 0 r5.Out.length, .osl 22 1 (encL rL_I_o r5.Items), .osl 4 1 (encL rB r5.Ended), .bool r5.Rest]]⟩) (row := [.sl M2 0 r5.Out.length, .osl 22 1 (encL rL_I_o r5.Items), .osl 4 1 (encL rB r5.Ended), .bool r5.Rest]) (r := 0) (i := 1) [(N0 + 12, some ⟨48, 4, [[.fsl (encL rI r3.Out), .fsl (encL rL_I r3.Items), .fsl (encL rB r3.Ended), .bool r3.Rest]]⟩), (N0 + 16, some ⟨52, 5, [[.osl 28 3 (encL rMachine_oo r4.Harts), .osl 64 2 (encL rBox_o r4.Boxes), .int .i64 r4.Turn, .int .i64 r4.Idle, .osl 3 1 (encL rI r4.Out)]]⟩), (M1 + 5, some ⟨48, 4, [[.sl M2 0 r5.Out.length, .sl (M2 + 1) 0 r5.Items.length, .osl 4 1 (encL rB r5.Ended), .bool r5.Rest]]⟩), (M2, some ⟨3, 1, encL rI r5.Out⟩), (M2 + 1, some ⟨22, 1, encL rL_I_o r5.Items⟩)] (by simp (disch := omega)) rfl rfl (by simp (disch := omega) [List.set_set]) ?_
  refine gUnp AWP_ref (ty := 4) (sz := 1) (es := encL rB r5.Ended) (o := (M1 + 5)) (ob := ⟨48, 4, [[.sl M2 0 r5.Out.length, .sl (M2 + 1) 0 r5.Items.length, .osl 4 1 (encL rB r5.Ended), .bool r5.Rest]]⟩) (row := [.sl M2 0 r5.Out.length, .sl (M2 + 1) 0 r5.Items.length, .osl 4 1 (encL rB r5.Ended), .bool r5.Rest]) (r := 0) (i := 2) [(N0 + 12, some ⟨48, 4, [[.fsl (encL rI r3.Out), .fsl (encL rL_I r3.Items), .fsl (encL rB r3.Ended), .bool r3.Rest]]⟩), (N0 + 16, some ⟨52, 5, [[.osl 28 3 (encL rMachine_oo r4.Harts), .osl 64 2 (encL rBox_o r4.Boxes), .int .i64 r4.Turn, .int .i64 r4.Idle, .osl 3 1 (encL rI r4.Out)]]⟩), (M1 + 5, some ⟨48, 4, [[.sl M2 0 r5.Out.length, .sl (M2 + 1) 0 r5.Items.length, .sl (M2 + 2) 0 r5.Ended.length, .bool r5.Rest]]⟩), (M2, some ⟨3, 1, encL rI r5.Out⟩), (M2 + 1, some ⟨22, 1, encL rL_I_o r5.Items⟩), (M2 + 2, some ⟨4, 1, encL rB r5.Ended⟩)] (by simp (disch := omega)) rfl rfl (by simp (disch := omega) [List.set_set]) ?_
  obtain ⟨r6, hr6, H⟩ := bindE H
  refine AWP_sr tok [] [1, 4, 5, 6, 26] (fun a σ => a = [(1, .fptr [.fsl (encL rMachine p0.Harts), .fsl (encL rBox p0.Boxes), .int .i64 p0.Turn, .int .i64 p0.Idle, .fsl (encL rI p0.Out)] 0), (4, .ptr (N0 + 12) 0 0), (5, .ptr (N0 + 16) 0 0), (6, .ptr (M1 + 5) 0 0), (26, .bool (bnot r6))] ∧ σ = hp E0 [(N0 + 12, some ⟨48, 4, [[.fsl (encL rI r3.Out), .fsl (encL rL_I r3.Items), .fsl (encL rB r3.Ended), .bool r3.Rest]]⟩), (N0 + 16, some ⟨52, 5, [[.osl 28 3 (encL rMachine_oo r4.Harts), .osl 64 2 (encL rBox_o r4.Boxes), .int .i64 r4.Turn, .int .i64 r4.Idle, .osl 3 1 (encL rI r4.Out)]]⟩), (M1 + 5, some ⟨48, 4, [[.sl M2 0 r5.Out.length, .sl (M2 + 1) 0 r5.Items.length, .sl (M2 + 2) 0 r5.Ended.length, .bool r5.Rest]]⟩), (M2, some ⟨3, 1, encL rI r5.Out⟩), (M2 + 1, some ⟨22, 1, encL rL_I_o r5.Items⟩), (M2 + 2, some ⟨4, 1, encL rB r5.Ended⟩)] (M2 + 7)) (fun K hK => ?_) ?_
  ·
   skip
   have e0 := nq (a := N0 + 12) (b := M1 + 5) (by omega)
   have e1 := nq (a := N0 + 7) (b := M1) (by omega)
   have e2 := nq (a := N0 + 12) (b := M2) (by omega)
   have e3 := nq (a := N0 + 12) (b := M2 + 1) (by omega)
   have e4 := nq (a := N0 + 11) (b := M2) (by omega)
   have e5 := nq (a := N0 + 12) (b := M2 + 2) (by omega)
   have e6 := nq (a := N0 + 10) (b := M2) (by omega)
   have e7 := nq (a := N0 + 16) (b := M1 + 5) (by omega)
   have e8 := nq (a := N0 + 11) (b := M1) (by omega)
   have e9 := nq (a := N0 + 16) (b := M2) (by omega)
   have e10 := nq (a := N0 + 16) (b := M2 + 1) (by omega)
   have e11 := nq (a := N0 + 15) (b := M2) (by omega)
   have e12 := nq (a := N0 + 16) (b := M2 + 2) (by omega)
   have e13 := nq (a := N0 + 14) (b := M2) (by omega)
   have e14 := nq (a := M1 + 5) (b := M2) (by omega)
   have e15 := nq (a := M1 + 5) (b := M2 + 1) (by omega)
   have e16 := nq (a := M1 + 4) (b := M2) (by omega)
   have e17 := nq (a := M1 + 5) (b := M2 + 2) (by omega)
   have e18 := nq (a := M1 + 3) (b := M2) (by omega)
   simp -dsimp -implicitDefEqProofs (maxDischargeDepth := 6) [e0, e1, e2, e3, e4, e5, e6, e7, e8, e9, e10, e11, e12, e13, e14, e15, e16, e17, e18]
   refine (borrow 8 (c27 hr6) (by simp [e0, e1, e2, e3, e4, e5, e6, e7, e8, e9, e10, e11, e12, e13, e14, e15, e16, e17, e18]) rfl).mono ?_; rintro _ _ ⟨rfl, rfl⟩; try simp -dsimp -implicitDefEqProofs (maxDischargeDepth := 6) [e0, e1, e2, e3, e4, e5, e6, e7, e8, e9, e10, e11, e12, e13, e14, e15, e16, e17, e18]
   exact hK _ _ ⟨rfl, rfl⟩
  rintro a σ ⟨rfl, rfl⟩
  refine AWP_cond (bnot r6) rfl (fun C2 => ?_) (fun C2 => ?_)
  ·
   replace H := ifT C2 H
   refine AWP_sr tok [] [2] (fun a σ => a = [(2, .bool false)] ∧ σ = hp E0 [(N0 + 12, some ⟨48, 4, [[.fsl (encL rI r3.Out), .fsl (encL rL_I r3.Items), .fsl (encL rB r3.Ended), .bool r3.Rest]]⟩), (N0 + 16, some ⟨52, 5, [[.osl 28 3 (encL rMachine_oo r4.Harts), .osl 64 2 (encL rBox_o r4.Boxes), .int .i64 r4.Turn, .int .i64 r4.Idle, .osl 3 1 (encL rI r4.Out)]]⟩), (M1 + 5, some ⟨48, 4, [[.sl M2 0 r5.Out.length, .sl (M2 + 1) 0 r5.Items.length, .sl (M2 + 2) 0 r5.Ended.length, .bool r5.Rest]]⟩), (M2, some ⟨3, 1, encL rI r5.Out⟩), (M2 + 1, some ⟨22, 1, encL rL_I_o r5.Items⟩), (M2 + 2, some ⟨4, 1, encL rB r5.Ended⟩)] (M2 + 8)) (fun K hK => ?_) ?_
   ·
    skip
    have e0 := nq (a := N0 + 12) (b := M1 + 5) (by omega)
    have e1 := nq (a := N0 + 7) (b := M1) (by omega)
    have e2 := nq (a := N0 + 12) (b := M2) (by omega)
    have e3 := nq (a := N0 + 12) (b := M2 + 1) (by omega)
    have e4 := nq (a := N0 + 11) (b := M2) (by omega)
    have e5 := nq (a := N0 + 12) (b := M2 + 2) (by omega)
    have e6 := nq (a := N0 + 10) (b := M2) (by omega)
    have e7 := nq (a := N0 + 16) (b := M1 + 5) (by omega)
    have e8 := nq (a := N0 + 11) (b := M1) (by omega)
    have e9 := nq (a := N0 + 16) (b := M2) (by omega)
    have e10 := nq (a := N0 + 16) (b := M2 + 1) (by omega)
    have e11 := nq (a := N0 + 15) (b := M2) (by omega)
    have e12 := nq (a := N0 + 16) (b := M2 + 2) (by omega)
    have e13 := nq (a := N0 + 14) (b := M2) (by omega)
    have e14 := nq (a := M1 + 5) (b := M2) (by omega)
    have e15 := nq (a := M1 + 5) (b := M2 + 1) (by omega)
    have e16 := nq (a := M1 + 4) (b := M2) (by omega)
    have e17 := nq (a := M1 + 5) (b := M2 + 2) (by omega)
    have e18 := nq (a := M1 + 3) (b := M2) (by omega)
    simp -dsimp -implicitDefEqProofs (maxDischargeDepth := 6) [e0, e1, e2, e3, e4, e5, e6, e7, e8, e9, e10, e11, e12, e13, e14, e15, e16, e17, e18]
    exact hK _ _ ⟨rfl, rfl⟩
   rintro a σ ⟨rfl, rfl⟩
   replace H := Option.some.inj H; subst H
   refine AWP_kp [2] [(2, .bool false)] rfl ?_
   have z0 := nq (a := N0 + 12) (b := M1 + 5) (by omega)
   have z1 := nq (a := N0 + 7) (b := M1) (by omega)
   have z2 := nq (a := N0 + 12) (b := M2) (by omega)
   have z3 := nq (a := N0 + 12) (b := M2 + 1) (by omega)
   have z4 := nq (a := N0 + 11) (b := M2) (by omega)
   have z5 := nq (a := N0 + 12) (b := M2 + 2) (by omega)
   have z6 := nq (a := N0 + 10) (b := M2) (by omega)
   have z7 := nq (a := N0 + 16) (b := M1 + 5) (by omega)
   have z8 := nq (a := N0 + 11) (b := M1) (by omega)
   have z9 := nq (a := N0 + 16) (b := M2) (by omega)
   have z10 := nq (a := N0 + 16) (b := M2 + 1) (by omega)
   have z11 := nq (a := N0 + 15) (b := M2) (by omega)
   have z12 := nq (a := N0 + 16) (b := M2 + 2) (by omega)
   have z13 := nq (a := N0 + 14) (b := M2) (by omega)
   have z14 := nq (a := M1 + 5) (b := M2) (by omega)
   have z15 := nq (a := M1 + 5) (b := M2 + 1) (by omega)
   have z16 := nq (a := M1 + 4) (b := M2) (by omega)
   have z17 := nq (a := M1 + 5) (b := M2 + 2) (by omega)
   have z18 := nq (a := M1 + 3) (b := M2) (by omega)
   refine AWP_ret ?_
   exact ⟨[.bool false], by simp [z0, z1, z2, z3, z4, z5, z6, z7, z8, z9, z10, z11, z12, z13, z14, z15, z16, z17, z18], 4, by simp [encL_nil, z0, z1, z2, z3, z4, z5, z6, z7, z8, z9, z10, z11, z12, z13, z14, z15, z16, z17, z18]⟩
  ·
   replace H := ifF C2 H
   refine AWP_skip ?_
   show K2 _ _
   refine keepE (l := [1, 4, 5, 6]) (x := [(1, .fptr [.fsl (encL rMachine p0.Harts), .fsl (encL rBox p0.Boxes), .int .i64 p0.Turn, .int .i64 p0.Idle, .fsl (encL rI p0.Out)] 0), (4, .ptr (N0 + 12) 0 0), (5, .ptr (N0 + 16) 0 0), (6, .ptr (M1 + 5) 0 0)]) rfl fun a' ha => ?_
   refine hK2 _ _ ?_; rw [ha]
   refine Rc.mk ?_
   refine AWP_sq [1, 4, 5, 6] fun K3 hK3 => ?_
   refine gPk AWP_ref (k := r5.Out.length) (o := (M1 + 5)) (ob := ⟨48, 4, [[.sl M2 0 r5.Out.length, .sl (M2 + 1) 0 r5.Items.length, .sl (M2 + 2) 0 r5.Ended.length, .bool r5.Rest]]⟩) (row := [.sl M2 0 r5.Out.length, .sl (M2 + 1) 0 r5.Items.length, .sl (M2 + 2) 0 r5.Ended.length, .bool r5.Rest]) (d := M2) (obd := ⟨3, 1, encL rI r5.Out⟩) (r := 0) (i := 0) [(N0 + 12, some ⟨48, 4, [[.fsl (encL rI r3.Out), .fsl (encL rL_I r3.Items), .fsl (encL rB r3.Ended), .bool r3.Rest]]⟩), (N0 + 16, some ⟨52, 5, [[.osl 28 3 (encL rMachine_oo r4.Harts), .osl 64 2 (encL rBox_o r4.Boxes), .int .i64 r4.Turn, .int .i64 r4.Idle, .osl 3 1 (encL rI r4.Out)]]⟩), (M1 + 5, some ⟨48, 4, [[.osl 3 1 (encL rI r5.Out), .sl (M2 + 1) 0 r5.Items.length, .sl (M2 + 2) 0 r5.Ended.length, .bool r5.Rest]]⟩), (M2 + 1, some ⟨22, 1, encL rL_I_o r5.Items⟩), (M2 + 2, some ⟨4, 1, encL rB r5.Ended⟩)] (by simp (disch := omega)) rfl rfl (by simp (disch := omega)) (by simp (disch := omega)) (by first | omega | simp) (by simp (disch := omega) [List.set_set, app_set] <;> omega) (by simp (disch := omega) [List.set_set, app_set]) ?_
   refine gPk AWP_ref (k := r5.Items.length) (o := (M1 + 5)) (ob := ⟨48, 4, [[.osl 3 1 (encL rI r5.Out), .sl (M2 + 1) 0 r5.Items.length, .sl (M2 + 2) 0 r5.Ended.length, .bool r5.Rest]]⟩) (row := [.osl 3 1 (encL rI r5.Out), .sl (M2 + 1) 0 r5.Items.length, .sl (M2 + 2) 0 r5.Ended.length, .bool r5.Rest]) (d := (M2 + 1)) (obd := ⟨22, 1, encL rL_I_o r5.Items⟩) (r := 0) (i := 1) [(N0 + 12, some ⟨48, 4, [[.fsl (encL rI r3.Out), .fsl (encL rL_I r3.Items), .fsl (encL rB r3.Ended), .bool r3.Rest]]⟩), (N0 + 16, some ⟨52, 5, [[.osl 28 3 (encL rMachine_oo r4.Harts), .osl 64 2 (encL rBox_o r4.Boxes), .int .i64 r4.Turn, .int .i64 r4.Idle, .osl 3 1 (encL rI r4.Out)]]⟩), (M1 + 5, some ⟨48, 4, [[.osl 3 1 (encL rI r5.Out), .osl 22 1 (encL rL_I_o r5.Items), .sl (M2 + 2) 0 r5.Ended.length, .bool r5.Rest]]⟩), (M2 + 2, some ⟨4, 1, encL rB r5.Ended⟩)] (by simp (disch := omega)) rfl rfl (by simp (disch := omega)) (by simp (disch := omega)) (by first | omega | simp) (by simp (disch := omega) [List.set_set, app_set] <;> omega) (by simp (disch := omega) [List.set_set, app_set]) ?_
   refine gPk AWP_ref (k := r5.Ended.length) (o := (M1 + 5)) (ob := ⟨48, 4, [[.osl 3 1 (encL rI r5.Out), .osl 22 1 (encL rL_I_o r5.Items), .sl (M2 + 2) 0 r5.Ended.length, .bool r5.Rest]]⟩) (row := [.osl 3 1 (encL rI r5.Out), .osl 22 1 (encL rL_I_o r5.Items), .sl (M2 + 2) 0 r5.Ended.length, .bool r5.Rest]) (d := (M2 + 2)) (obd := ⟨4, 1, encL rB r5.Ended⟩) (r := 0) (i := 2) [(N0 + 12, some ⟨48, 4, [[.fsl (encL rI r3.Out), .fsl (encL rL_I r3.Items), .fsl (encL rB r3.Ended), .bool r3.Rest]]⟩), (N0 + 16, some ⟨52, 5, [[.osl 28 3 (encL rMachine_oo r4.Harts), .osl 64 2 (encL rBox_o r4.Boxes), .int .i64 r4.Turn, .int .i64 r4.Idle, .osl 3 1 (encL rI r4.Out)]]⟩), (M1 + 5, some ⟨48, 4, [[.osl 3 1 (encL rI r5.Out), .osl 22 1 (encL rL_I_o r5.Items), .osl 4 1 (encL rB r5.Ended), .bool r5.Rest]]⟩)] (by simp (disch := omega)) rfl rfl (by simp (disch := omega)) (by simp (disch := omega)) (by first | omega | simp) (by simp (disch := omega) [List.set_set, app_set] <;> omega) (by simp (disch := omega) [List.set_set, app_set]) ?_
   refine gUnp AWP_ref (ty := 28) (sz := 3) (es := encL rMachine_oo r4.Harts) (o := (N0 + 16)) (ob := ⟨52, 5, [[.osl 28 3 (encL rMachine_oo r4.Harts), .osl 64 2 (encL rBox_o r4.Boxes), .int .i64 r4.Turn, .int .i64 r4.Idle, .osl 3 1 (encL rI r4.Out)]]⟩) (row := [.osl 28 3 (encL rMachine_oo r4.Harts), .osl 64 2 (encL rBox_o r4.Boxes), .int .i64 r4.Turn, .int .i64 r4.Idle, .osl 3 1 (encL rI r4.Out)]) (r := 0) (i := 0) [(N0 + 12, some ⟨48, 4, [[.fsl (encL rI r3.Out), .fsl (encL rL_I r3.Items), .fsl (encL rB r3.Ended), .bool r3.Rest]]⟩), (N0 + 16, some ⟨52, 5, [[.sl (M2 + 7) 0 r4.Harts.length, .osl 64 2 (encL rBox_o r4.Boxes), .int .i64 r4.Turn, .int .i64 r4.Idle, .osl 3 1 (encL rI r4.Out)]]⟩), (M1 + 5, some ⟨48, 4, [[.osl 3 1 (encL rI r5.Out), .osl 22 1 (encL rL_I_o r5.Items), .osl 4 1 (encL rB r5.Ended), .bool r5.Rest]]⟩), (M2 + 7, some ⟨28, 3, encL rMachine_oo r4.Harts⟩)] (by simp (disch := omega)) rfl rfl (by simp (disch := omega) [List.set_set]) ?_
   refine gUnp AWP_ref (ty := 64) (sz := 2) (es := encL rBox_o r4.Boxes) (o := (N0 + 16)) (ob := ⟨52, 5, [[.sl (M2 + 7) 0 r4.Harts.length, .osl 64 2 (encL rBox_o r4.Boxes), .int .i64 r4.Turn, .int .i64 r4.Idle, .osl 3 1 (encL rI r4.Out)]]⟩) (row := [.sl (M2 + 7) 0 r4.Harts.length, .osl 64 2 (encL rBox_o r4.Boxes), .int .i64 r4.Turn, .int .i64 r4.Idle, .osl 3 1 (encL rI r4.Out)]) (r := 0) (i := 1) [(N0 + 12, some ⟨48, 4, [[.fsl (encL rI r3.Out), .fsl (encL rL_I r3.Items), .fsl (encL rB r3.Ended), .bool r3.Rest]]⟩), (N0 + 16, some ⟨52, 5, [[.sl (M2 + 7) 0 r4.Harts.length, .sl (M2 + 8) 0 r4.Boxes.length, .int .i64 r4.Turn, .int .i64 r4.Idle, .osl 3 1 (encL rI r4.Out)]]⟩), (M1 + 5, some ⟨48, 4, [[.osl 3 1 (encL rI r5.Out), .osl 22 1 (encL rL_I_o r5.Items), .osl 4 1 (encL rB r5.Ended), .bool r5.Rest]]⟩), (M2 + 7, some ⟨28, 3, encL rMachine_oo r4.Harts⟩), (M2 + 8, some ⟨64, 2, encL rBox_o r4.Boxes⟩)] (by simp (disch := omega)) rfl rfl (by simp (disch := omega) [List.set_set]) ?_
   refine gUnp AWP_ref (ty := 3) (sz := 1) (es := encL rI r4.Out) (o := (N0 + 16)) (ob := ⟨52, 5, [[.sl (M2 + 7) 0 r4.Harts.length, .sl (M2 + 8) 0 r4.Boxes.length, .int .i64 r4.Turn, .int .i64 r4.Idle, .osl 3 1 (encL rI r4.Out)]]⟩) (row := [.sl (M2 + 7) 0 r4.Harts.length, .sl (M2 + 8) 0 r4.Boxes.length, .int .i64 r4.Turn, .int .i64 r4.Idle, .osl 3 1 (encL rI r4.Out)]) (r := 0) (i := 4) [(N0 + 12, some ⟨48, 4, [[.fsl (encL rI r3.Out), .fsl (encL rL_I r3.Items), .fsl (encL rB r3.Ended), .bool r3.Rest]]⟩), (N0 + 16, some ⟨52, 5, [[.sl (M2 + 7) 0 r4.Harts.length, .sl (M2 + 8) 0 r4.Boxes.length, .int .i64 r4.Turn, .int .i64 r4.Idle, .sl (M2 + 9) 0 r4.Out.length]]⟩), (M1 + 5, some ⟨48, 4, [[.osl 3 1 (encL rI r5.Out), .osl 22 1 (encL rL_I_o r5.Items), .osl 4 1 (encL rB r5.Ended), .bool r5.Rest]]⟩), (M2 + 7, some ⟨28, 3, encL rMachine_oo r4.Harts⟩), (M2 + 8, some ⟨64, 2, encL rBox_o r4.Boxes⟩), (M2 + 9, some ⟨3, 1, encL rI r4.Out⟩)] (by simp (disch := omega)) rfl rfl (by simp (disch := omega) [List.set_set]) ?_
   obtain ⟨r7, hr7, H⟩ := bindE H
   refine AWP_sd tok tokM [] [0, 3] [1, 2, 0, 3, 4] [1, 4, 5, 6, 31] (fun a σ => a = [(1, .fptr [.fsl (encL rMachine p0.Harts), .fsl (encL rBox p0.Boxes), .int .i64 p0.Turn, .int .i64 p0.Idle, .fsl (encL rI p0.Out)] 0), (4, .ptr (N0 + 12) 0 0), (5, .ptr (N0 + 16) 0 0), (6, .ptr (M1 + 5) 0 0), (31, .bool (bnot r7))] ∧ σ = hp E0 [(N0 + 12, some ⟨48, 4, [[.fsl (encL rI r3.Out), .fsl (encL rL_I r3.Items), .fsl (encL rB r3.Ended), .bool r3.Rest]]⟩), (N0 + 16, some ⟨52, 5, [[.sl (M2 + 7) 0 r4.Harts.length, .sl (M2 + 8) 0 r4.Boxes.length, .int .i64 r4.Turn, .int .i64 r4.Idle, .sl (M2 + 9) 0 r4.Out.length]]⟩), (M1 + 5, some ⟨48, 4, [[.osl 3 1 (encL rI r5.Out), .osl 22 1 (encL rL_I_o r5.Items), .osl 4 1 (encL rB r5.Ended), .bool r5.Rest]]⟩), (M2 + 7, some ⟨28, 3, encL rMachine_oo r4.Harts⟩), (M2 + 8, some ⟨64, 2, encL rBox_o r4.Boxes⟩), (M2 + 9, some ⟨3, 1, encL rI r4.Out⟩)] (M2 + 15)) (by decide) (fun K hK => ?_) ?_
   ·
    simp only [pickL, nthO_succ, nthO_zero]
    have e0 := nq (a := N0 + 12) (b := M1 + 5) (by omega)
    have e1 := nq (a := N0 + 7) (b := M1) (by omega)
    have e2 := nq (a := N0 + 12) (b := M2 + 7) (by omega)
    have e3 := nq (a := N0 + 5) (b := M2) (by omega)
    have e4 := nq (a := N0 + 12) (b := M2 + 8) (by omega)
    have e5 := nq (a := N0 + 4) (b := M2) (by omega)
    have e6 := nq (a := N0 + 12) (b := M2 + 9) (by omega)
    have e7 := nq (a := N0 + 3) (b := M2) (by omega)
    have e8 := nq (a := N0 + 16) (b := M1 + 5) (by omega)
    have e9 := nq (a := N0 + 11) (b := M1) (by omega)
    have e10 := nq (a := N0 + 16) (b := M2 + 7) (by omega)
    have e11 := nq (a := N0 + 9) (b := M2) (by omega)
    have e12 := nq (a := N0 + 16) (b := M2 + 8) (by omega)
    have e13 := nq (a := N0 + 8) (b := M2) (by omega)
    have e14 := nq (a := N0 + 16) (b := M2 + 9) (by omega)
    have e15 := nq (a := N0 + 7) (b := M2) (by omega)
    have e16 := nq (a := M1 + 5) (b := M2 + 7) (by omega)
    have e17 := nq (a := M1) (b := M2 + 2) (by omega)
    have e18 := nq (a := M1 + 5) (b := M2 + 8) (by omega)
    have e19 := nq (a := M1) (b := M2 + 3) (by omega)
    have e20 := nq (a := M1 + 5) (b := M2 + 9) (by omega)
    have e21 := nq (a := M1) (b := M2 + 4) (by omega)
    simp -dsimp -implicitDefEqProofs (maxDischargeDepth := 6) [e0, e1, e2, e3, e4, e5, e6, e7, e8, e9, e10, e11, e12, e13, e14, e15, e16, e17, e18, e19, e20, e21]
    refine Pc.mk (c25 hr2) ?_; try simp -dsimp -implicitDefEqProofs (maxDischargeDepth := 6) [e0, e1, e2, e3, e4, e5, e6, e7, e8, e9, e10, e11, e12, e13, e14, e15, e16, e17, e18, e19, e20, e21]
    refine (borrow 8 (c28 hr7) (by simp [e0, e1, e2, e3, e4, e5, e6, e7, e8, e9, e10, e11, e12, e13, e14, e15, e16, e17, e18, e19, e20, e21]) rfl).mono ?_; rintro _ _ ⟨rfl, rfl⟩; try simp -dsimp -implicitDefEqProofs (maxDischargeDepth := 6) [e0, e1, e2, e3, e4, e5, e6, e7, e8, e9, e10, e11, e12, e13, e14, e15, e16, e17, e18, e19, e20, e21]
    exact hK _ _ ⟨rfl, rfl⟩
   rintro a σ ⟨rfl, rfl⟩
   refine AWP_cond (bnot r7) rfl (fun C3 => ?_) (fun C3 => ?_)
   ·
    replace H := ifT C3 H
    refine AWP_sr tok [] [2] (fun a σ => a = [(2, .bool false)] ∧ σ = hp E0 [(N0 + 12, some ⟨48, 4, [[.fsl (encL rI r3.Out), .fsl (encL rL_I r3.Items), .fsl (encL rB r3.Ended), .bool r3.Rest]]⟩), (N0 + 16, some ⟨52, 5, [[.sl (M2 + 7) 0 r4.Harts.length, .sl (M2 + 8) 0 r4.Boxes.length, .int .i64 r4.Turn, .int .i64 r4.Idle, .sl (M2 + 9) 0 r4.Out.length]]⟩), (M1 + 5, some ⟨48, 4, [[.osl 3 1 (encL rI r5.Out), .osl 22 1 (encL rL_I_o r5.Items), .osl 4 1 (encL rB r5.Ended), .bool r5.Rest]]⟩), (M2 + 7, some ⟨28, 3, encL rMachine_oo r4.Harts⟩), (M2 + 8, some ⟨64, 2, encL rBox_o r4.Boxes⟩), (M2 + 9, some ⟨3, 1, encL rI r4.Out⟩)] (M2 + 16)) (fun K hK => ?_) ?_
    ·
     skip
     have e0 := nq (a := N0 + 12) (b := M1 + 5) (by omega)
     have e1 := nq (a := N0 + 7) (b := M1) (by omega)
     have e2 := nq (a := N0 + 12) (b := M2 + 7) (by omega)
     have e3 := nq (a := N0 + 5) (b := M2) (by omega)
     have e4 := nq (a := N0 + 12) (b := M2 + 8) (by omega)
     have e5 := nq (a := N0 + 4) (b := M2) (by omega)
     have e6 := nq (a := N0 + 12) (b := M2 + 9) (by omega)
     have e7 := nq (a := N0 + 3) (b := M2) (by omega)
     have e8 := nq (a := N0 + 16) (b := M1 + 5) (by omega)
     have e9 := nq (a := N0 + 11) (b := M1) (by omega)
     have e10 := nq (a := N0 + 16) (b := M2 + 7) (by omega)
     have e11 := nq (a := N0 + 9) (b := M2) (by omega)
     have e12 := nq (a := N0 + 16) (b := M2 + 8) (by omega)
     have e13 := nq (a := N0 + 8) (b := M2) (by omega)
     have e14 := nq (a := N0 + 16) (b := M2 + 9) (by omega)
     have e15 := nq (a := N0 + 7) (b := M2) (by omega)
     have e16 := nq (a := M1 + 5) (b := M2 + 7) (by omega)
     have e17 := nq (a := M1) (b := M2 + 2) (by omega)
     have e18 := nq (a := M1 + 5) (b := M2 + 8) (by omega)
     have e19 := nq (a := M1) (b := M2 + 3) (by omega)
     have e20 := nq (a := M1 + 5) (b := M2 + 9) (by omega)
     have e21 := nq (a := M1) (b := M2 + 4) (by omega)
     simp -dsimp -implicitDefEqProofs (maxDischargeDepth := 6) [e0, e1, e2, e3, e4, e5, e6, e7, e8, e9, e10, e11, e12, e13, e14, e15, e16, e17, e18, e19, e20, e21]
     exact hK _ _ ⟨rfl, rfl⟩
    rintro a σ ⟨rfl, rfl⟩
    replace H := Option.some.inj H; subst H
    refine AWP_kp [2] [(2, .bool false)] rfl ?_
    have z19 := nq (a := N0 + 12) (b := M1 + 5) (by omega)
    have z20 := nq (a := N0 + 7) (b := M1) (by omega)
    have z21 := nq (a := N0 + 12) (b := M2 + 7) (by omega)
    have z22 := nq (a := N0 + 5) (b := M2) (by omega)
    have z23 := nq (a := N0 + 12) (b := M2 + 8) (by omega)
    have z24 := nq (a := N0 + 4) (b := M2) (by omega)
    have z25 := nq (a := N0 + 12) (b := M2 + 9) (by omega)
    have z26 := nq (a := N0 + 3) (b := M2) (by omega)
    have z27 := nq (a := N0 + 16) (b := M1 + 5) (by omega)
    have z28 := nq (a := N0 + 11) (b := M1) (by omega)
    have z29 := nq (a := N0 + 16) (b := M2 + 7) (by omega)
    have z30 := nq (a := N0 + 9) (b := M2) (by omega)
    have z31 := nq (a := N0 + 16) (b := M2 + 8) (by omega)
    have z32 := nq (a := N0 + 8) (b := M2) (by omega)
    have z33 := nq (a := N0 + 16) (b := M2 + 9) (by omega)
    have z34 := nq (a := N0 + 7) (b := M2) (by omega)
    have z35 := nq (a := M1 + 5) (b := M2 + 7) (by omega)
    have z36 := nq (a := M1) (b := M2 + 2) (by omega)
    have z37 := nq (a := M1 + 5) (b := M2 + 8) (by omega)
    have z38 := nq (a := M1) (b := M2 + 3) (by omega)
    have z39 := nq (a := M1 + 5) (b := M2 + 9) (by omega)
    have z40 := nq (a := M1) (b := M2 + 4) (by omega)
    refine AWP_ret ?_
    exact ⟨[.bool false], by simp [z19, z20, z21, z22, z23, z24, z25, z26, z27, z28, z29, z30, z31, z32, z33, z34, z35, z36, z37, z38, z39, z40], 4, by simp [encL_nil, z19, z20, z21, z22, z23, z24, z25, z26, z27, z28, z29, z30, z31, z32, z33, z34, z35, z36, z37, z38, z39, z40]⟩
   ·
    replace H := ifF C3 H
    refine AWP_skip ?_
    show K3 _ _
    refine keepE (l := [1, 4, 5, 6]) (x := [(1, .fptr [.fsl (encL rMachine p0.Harts), .fsl (encL rBox p0.Boxes), .int .i64 p0.Turn, .int .i64 p0.Idle, .fsl (encL rI p0.Out)] 0), (4, .ptr (N0 + 12) 0 0), (5, .ptr (N0 + 16) 0 0), (6, .ptr (M1 + 5) 0 0)]) rfl fun a' ha => ?_
    refine hK3 _ _ ?_; rw [ha]
    refine Rc.mk ?_
    refine AWP_sr tok [] [1, 4, 5, 6, 7] (fun a σ => a = [(1, .fptr [.fsl (encL rMachine p0.Harts), .fsl (encL rBox p0.Boxes), .int .i64 p0.Turn, .int .i64 p0.Idle, .fsl (encL rI p0.Out)] 0), (4, .ptr (N0 + 12) 0 0), (5, .ptr (N0 + 16) 0 0), (6, .ptr (M1 + 5) 0 0), (7, .int .i64 1)] ∧ σ = hp E0 [(N0 + 12, some ⟨48, 4, [[.fsl (encL rI r3.Out), .fsl (encL rL_I r3.Items), .fsl (encL rB r3.Ended), .bool r3.Rest]]⟩), (N0 + 16, some ⟨52, 5, [[.sl (M2 + 7) 0 r4.Harts.length, .sl (M2 + 8) 0 r4.Boxes.length, .int .i64 r4.Turn, .int .i64 r4.Idle, .sl (M2 + 9) 0 r4.Out.length]]⟩), (M1 + 5, some ⟨48, 4, [[.osl 3 1 (encL rI r5.Out), .osl 22 1 (encL rL_I_o r5.Items), .osl 4 1 (encL rB r5.Ended), .bool r5.Rest]]⟩), (M2 + 7, some ⟨28, 3, encL rMachine_oo r4.Harts⟩), (M2 + 8, some ⟨64, 2, encL rBox_o r4.Boxes⟩), (M2 + 9, some ⟨3, 1, encL rI r4.Out⟩)] (M2 + 16)) (fun K hK => ?_) ?_
    ·
     skip
     have e0 := nq (a := N0 + 12) (b := M1 + 5) (by omega)
     have e1 := nq (a := N0 + 7) (b := M1) (by omega)
     have e2 := nq (a := N0 + 12) (b := M2 + 7) (by omega)
     have e3 := nq (a := N0 + 5) (b := M2) (by omega)
     have e4 := nq (a := N0 + 12) (b := M2 + 8) (by omega)
     have e5 := nq (a := N0 + 4) (b := M2) (by omega)
     have e6 := nq (a := N0 + 12) (b := M2 + 9) (by omega)
     have e7 := nq (a := N0 + 3) (b := M2) (by omega)
     have e8 := nq (a := N0 + 16) (b := M1 + 5) (by omega)
     have e9 := nq (a := N0 + 11) (b := M1) (by omega)
     have e10 := nq (a := N0 + 16) (b := M2 + 7) (by omega)
     have e11 := nq (a := N0 + 9) (b := M2) (by omega)
     have e12 := nq (a := N0 + 16) (b := M2 + 8) (by omega)
     have e13 := nq (a := N0 + 8) (b := M2) (by omega)
     have e14 := nq (a := N0 + 16) (b := M2 + 9) (by omega)
     have e15 := nq (a := N0 + 7) (b := M2) (by omega)
     have e16 := nq (a := M1 + 5) (b := M2 + 7) (by omega)
     have e17 := nq (a := M1) (b := M2 + 2) (by omega)
     have e18 := nq (a := M1 + 5) (b := M2 + 8) (by omega)
     have e19 := nq (a := M1) (b := M2 + 3) (by omega)
     have e20 := nq (a := M1 + 5) (b := M2 + 9) (by omega)
     have e21 := nq (a := M1) (b := M2 + 4) (by omega)
     simp -dsimp -implicitDefEqProofs (maxDischargeDepth := 6) [e0, e1, e2, e3, e4, e5, e6, e7, e8, e9, e10, e11, e12, e13, e14, e15, e16, e17, e18, e19, e20, e21]
     exact hK _ _ ⟨rfl, rfl⟩
    rintro a σ ⟨rfl, rfl⟩
    refine gPk AWP_ref (k := r4.Harts.length) (o := (N0 + 16)) (ob := ⟨52, 5, [[.sl (M2 + 7) 0 r4.Harts.length, .sl (M2 + 8) 0 r4.Boxes.length, .int .i64 r4.Turn, .int .i64 r4.Idle, .sl (M2 + 9) 0 r4.Out.length]]⟩) (row := [.sl (M2 + 7) 0 r4.Harts.length, .sl (M2 + 8) 0 r4.Boxes.length, .int .i64 r4.Turn, .int .i64 r4.Idle, .sl (M2 + 9) 0 r4.Out.length]) (d := (M2 + 7)) (obd := ⟨28, 3, encL rMachine_oo r4.Harts⟩) (r := 0) (i := 0) [(N0 + 12, some ⟨48, 4, [[.fsl (encL rI r3.Out), .fsl (encL rL_I r3.Items), .fsl (encL rB r3.Ended), .bool r3.Rest]]⟩), (N0 + 16, some ⟨52, 5, [[.osl 28 3 (encL rMachine_oo r4.Harts), .sl (M2 + 8) 0 r4.Boxes.length, .int .i64 r4.Turn, .int .i64 r4.Idle, .sl (M2 + 9) 0 r4.Out.length]]⟩), (M1 + 5, some ⟨48, 4, [[.osl 3 1 (encL rI r5.Out), .osl 22 1 (encL rL_I_o r5.Items), .osl 4 1 (encL rB r5.Ended), .bool r5.Rest]]⟩), (M2 + 8, some ⟨64, 2, encL rBox_o r4.Boxes⟩), (M2 + 9, some ⟨3, 1, encL rI r4.Out⟩)] (by simp (disch := omega)) rfl rfl (by simp (disch := omega)) (by simp (disch := omega)) (by first | omega | simp) (by simp (disch := omega) [List.set_set, app_set] <;> omega) (by simp (disch := omega) [List.set_set, app_set]) ?_
    refine gPk AWP_ref (k := r4.Boxes.length) (o := (N0 + 16)) (ob := ⟨52, 5, [[.osl 28 3 (encL rMachine_oo r4.Harts), .sl (M2 + 8) 0 r4.Boxes.length, .int .i64 r4.Turn, .int .i64 r4.Idle, .sl (M2 + 9) 0 r4.Out.length]]⟩) (row := [.osl 28 3 (encL rMachine_oo r4.Harts), .sl (M2 + 8) 0 r4.Boxes.length, .int .i64 r4.Turn, .int .i64 r4.Idle, .sl (M2 + 9) 0 r4.Out.length]) (d := (M2 + 8)) (obd := ⟨64, 2, encL rBox_o r4.Boxes⟩) (r := 0) (i := 1) [(N0 + 12, some ⟨48, 4, [[.fsl (encL rI r3.Out), .fsl (encL rL_I r3.Items), .fsl (encL rB r3.Ended), .bool r3.Rest]]⟩), (N0 + 16, some ⟨52, 5, [[.osl 28 3 (encL rMachine_oo r4.Harts), .osl 64 2 (encL rBox_o r4.Boxes), .int .i64 r4.Turn, .int .i64 r4.Idle, .sl (M2 + 9) 0 r4.Out.length]]⟩), (M1 + 5, some ⟨48, 4, [[.osl 3 1 (encL rI r5.Out), .osl 22 1 (encL rL_I_o r5.Items), .osl 4 1 (encL rB r5.Ended), .bool r5.Rest]]⟩), (M2 + 9, some ⟨3, 1, encL rI r4.Out⟩)] (by simp (disch := omega)) rfl rfl (by simp (disch := omega)) (by simp (disch := omega)) (by first | omega | simp) (by simp (disch := omega) [List.set_set, app_set] <;> omega) (by simp (disch := omega) [List.set_set, app_set]) ?_
    refine gPk AWP_ref (k := r4.Out.length) (o := (N0 + 16)) (ob := ⟨52, 5, [[.osl 28 3 (encL rMachine_oo r4.Harts), .osl 64 2 (encL rBox_o r4.Boxes), .int .i64 r4.Turn, .int .i64 r4.Idle, .sl (M2 + 9) 0 r4.Out.length]]⟩) (row := [.osl 28 3 (encL rMachine_oo r4.Harts), .osl 64 2 (encL rBox_o r4.Boxes), .int .i64 r4.Turn, .int .i64 r4.Idle, .sl (M2 + 9) 0 r4.Out.length]) (d := (M2 + 9)) (obd := ⟨3, 1, encL rI r4.Out⟩) (r := 0) (i := 4) [(N0 + 12, some ⟨48, 4, [[.fsl (encL rI r3.Out), .fsl (encL rL_I r3.Items), .fsl (encL rB r3.Ended), .bool r3.Rest]]⟩), (N0 + 16, some ⟨52, 5, [[.osl 28 3 (encL rMachine_oo r4.Harts), .osl 64 2 (encL rBox_o r4.Boxes), .int .i64 r4.Turn, .int .i64 r4.Idle, .osl 3 1 (encL rI r4.Out)]]⟩), (M1 + 5, some ⟨48, 4, [[.osl 3 1 (encL rI r5.Out), .osl 22 1 (encL rL_I_o r5.Items), .osl 4 1 (encL rB r5.Ended), .bool r5.Rest]]⟩)] (by simp (disch := omega)) rfl rfl (by simp (disch := omega)) (by simp (disch := omega)) (by first | omega | simp) (by simp (disch := omega) [List.set_set, app_set] <;> omega) (by simp (disch := omega) [List.set_set, app_set]) ?_
    refine gUnp AWP_ref (ty := 28) (sz := 3) (es := encL rMachine_oo r4.Harts) (o := (N0 + 16)) (ob := ⟨52, 5, [[.osl 28 3 (encL rMachine_oo r4.Harts), .osl 64 2 (encL rBox_o r4.Boxes), .int .i64 r4.Turn, .int .i64 r4.Idle, .osl 3 1 (encL rI r4.Out)]]⟩) (row := [.osl 28 3 (encL rMachine_oo r4.Harts), .osl 64 2 (encL rBox_o r4.Boxes), .int .i64 r4.Turn, .int .i64 r4.Idle, .osl 3 1 (encL rI r4.Out)]) (r := 0) (i := 0) [(N0 + 12, some ⟨48, 4, [[.fsl (encL rI r3.Out), .fsl (encL rL_I r3.Items), .fsl (encL rB r3.Ended), .bool r3.Rest]]⟩), (N0 + 16, some ⟨52, 5, [[.sl (M2 + 16) 0 r4.Harts.length, .osl 64 2 (encL rBox_o r4.Boxes), .int .i64 r4.Turn, .int .i64 r4.Idle, .osl 3 1 (encL rI r4.Out)]]⟩), (M1 + 5, some ⟨48, 4, [[.osl 3 1 (encL rI r5.Out), .osl 22 1 (encL rL_I_o r5.Items), .osl 4 1 (encL rB r5.Ended), .bool r5.Rest]]⟩), (M2 + 16, some ⟨28, 3, encL rMachine_oo r4.Harts⟩)] (by simp (disch := omega)) rfl rfl (by simp (disch := omega) [List.set_set]) ?_
    refine gUnp AWP_ref (ty := 64) (sz := 2) (es := encL rBox_o r4.Boxes) (o := (N0 + 16)) (ob := ⟨52, 5, [[.sl (M2 + 16) 0 r4.Harts.length, .osl 64 2 (encL rBox_o r4.Boxes), .int .i64 r4.Turn, .int .i64 r4.Idle, .osl 3 1 (encL rI r4.Out)]]⟩) (row := [.sl (M2 + 16) 0 r4.Harts.length, .osl 64 2 (encL rBox_o r4.Boxes), .int .i64 r4.Turn, .int .i64 r4.Idle, .osl 3 1 (encL rI r4.Out)]) (r := 0) (i := 1) [(N0 + 12, some ⟨48, 4, [[.fsl (encL rI r3.Out), .fsl (encL rL_I r3.Items), .fsl (encL rB r3.Ended), .bool r3.Rest]]⟩), (N0 + 16, some ⟨52, 5, [[.sl (M2 + 16) 0 r4.Harts.length, .sl (M2 + 17) 0 r4.Boxes.length, .int .i64 r4.Turn, .int .i64 r4.Idle, .osl 3 1 (encL rI r4.Out)]]⟩), (M1 + 5, some ⟨48, 4, [[.osl 3 1 (encL rI r5.Out), .osl 22 1 (encL rL_I_o r5.Items), .osl 4 1 (encL rB r5.Ended), .bool r5.Rest]]⟩), (M2 + 16, some ⟨28, 3, encL rMachine_oo r4.Harts⟩), (M2 + 17, some ⟨64, 2, encL rBox_o r4.Boxes⟩)] (by simp (disch := omega)) rfl rfl (by simp (disch := omega) [List.set_set]) ?_
    refine gUnp AWP_ref (ty := 3) (sz := 1) (es := encL rI r4.Out) (o := (N0 + 16)) (ob := ⟨52, 5, [[.sl (M2 + 16) 0 r4.Harts.length, .sl (M2 + 17) 0 r4.Boxes.length, .int .i64 r4.Turn, .int .i64 r4.Idle, .osl 3 1 (encL rI r4.Out)]]⟩) (row := [.sl (M2 + 16) 0 r4.Harts.length, .sl (M2 + 17) 0 r4.Boxes.length, .int .i64 r4.Turn, .int .i64 r4.Idle, .osl 3 1 (encL rI r4.Out)]) (r := 0) (i := 4) [(N0 + 12, some ⟨48, 4, [[.fsl (encL rI r3.Out), .fsl (encL rL_I r3.Items), .fsl (encL rB r3.Ended), .bool r3.Rest]]⟩), (N0 + 16, some ⟨52, 5, [[.sl (M2 + 16) 0 r4.Harts.length, .sl (M2 + 17) 0 r4.Boxes.length, .int .i64 r4.Turn, .int .i64 r4.Idle, .sl (M2 + 18) 0 r4.Out.length]]⟩), (M1 + 5, some ⟨48, 4, [[.osl 3 1 (encL rI r5.Out), .osl 22 1 (encL rL_I_o r5.Items), .osl 4 1 (encL rB r5.Ended), .bool r5.Rest]]⟩), (M2 + 16, some ⟨28, 3, encL rMachine_oo r4.Harts⟩), (M2 + 17, some ⟨64, 2, encL rBox_o r4.Boxes⟩), (M2 + 18, some ⟨3, 1, encL rI r4.Out⟩)] (by simp (disch := omega)) rfl rfl (by simp (disch := omega) [List.set_set]) ?_
    obtain ⟨r8, hr8, H⟩ := bindE H
    refine AWP_sr tok [] [1, 4, 6, 7] (fun a σ => ∃ M3 : Nat, M2 + 23 ≤ M3 ∧ r8.2.Harts.length = r4.Harts.length ∧ r8.2.Boxes.length = r4.Boxes.length ∧ r8.2.Out.length = r4.Out.length ∧ a = [(1, .fptr [.fsl (encL rMachine p0.Harts), .fsl (encL rBox p0.Boxes), .int .i64 p0.Turn, .int .i64 p0.Idle, .fsl (encL rI p0.Out)] 0), (4, .ptr (N0 + 12) 0 0), (6, .ptr (M1 + 5) 0 0), (7, .int .i64 r8.1)] ∧ σ = hp E0 [(N0 + 12, some ⟨48, 4, [[.fsl (encL rI r3.Out), .fsl (encL rL_I r3.Items), .fsl (encL rB r3.Ended), .bool r3.Rest]]⟩), (N0 + 16, some ⟨52, 5, [[.sl (M2 + 16) 0 r4.Harts.length, .sl (M2 + 17) 0 r4.Boxes.length, .int .i64 r4.Turn, .int .i64 r4.Idle, .sl (M2 + 18) 0 r4.Out.length]]⟩), (M1 + 5, some ⟨48, 4, [[.osl 3 1 (encL rI r5.Out), .osl 22 1 (encL rL_I_o r5.Items), .osl 4 1 (encL rB r5.Ended), .bool r5.Rest]]⟩), (M2 + 16, some ⟨28, 3, encL rMachine_oo r8.2.Harts⟩), (M2 + 17, some ⟨64, 2, encL rBox_o r8.2.Boxes⟩), (M2 + 18, some ⟨3, 1, encL rI r8.2.Out⟩)] M3) (fun K hK => ?_) ?_
    ·
     skip
     have e0 := nq (a := N0 + 12) (b := M1 + 5) (by omega)
     have e1 := nq (a := N0 + 7) (b := M1) (by omega)
     have e2 := nq (a := N0 + 12) (b := M2 + 16) (by omega)
     have e3 := nq (a := N0) (b := M2 + 4) (by omega)
     have e4 := nq (a := N0 + 12) (b := M2 + 17) (by omega)
     have e5 := nq (a := N0) (b := M2 + 5) (by omega)
     have e6 := nq (a := N0 + 12) (b := M2 + 18) (by omega)
     have e7 := nq (a := N0) (b := M2 + 6) (by omega)
     have e8 := nq (a := N0 + 16) (b := M1 + 5) (by omega)
     have e9 := nq (a := N0 + 11) (b := M1) (by omega)
     have e10 := nq (a := N0 + 16) (b := M2 + 16) (by omega)
     have e11 := nq (a := N0) (b := M2) (by omega)
     have e12 := nq (a := N0 + 16) (b := M2 + 17) (by omega)
     have e13 := nq (a := N0) (b := M2 + 1) (by omega)
     have e14 := nq (a := N0 + 16) (b := M2 + 18) (by omega)
     have e15 := nq (a := N0) (b := M2 + 2) (by omega)
     have e16 := nq (a := M1 + 5) (b := M2 + 16) (by omega)
     have e17 := nq (a := M1) (b := M2 + 11) (by omega)
     have e18 := nq (a := M1 + 5) (b := M2 + 17) (by omega)
     have e19 := nq (a := M1) (b := M2 + 12) (by omega)
     have e20 := nq (a := M1 + 5) (b := M2 + 18) (by omega)
     have e21 := nq (a := M1) (b := M2 + 13) (by omega)
     simp -dsimp -implicitDefEqProofs (maxDischargeDepth := 6) [e0, e1, e2, e3, e4, e5, e6, e7, e8, e9, e10, e11, e12, e13, e14, e15, e16, e17, e18, e19, e20, e21]
     refine (c29 (H := hr8) (by simp [e0, e1, e2, e3, e4, e5, e6, e7, e8, e9, e10, e11, e12, e13, e14, e15, e16, e17, e18, e19, e20, e21]) (by simp [e0, e1, e2, e3, e4, e5, e6, e7, e8, e9, e10, e11, e12, e13, e14, e15, e16, e17, e18, e19, e20, e21]) (by simp [e0, e1, e2, e3, e4, e5, e6, e7, e8, e9, e10, e11, e12, e13, e14, e15, e16, e17, e18, e19, e20, e21]) (by simp [e0, e1, e2, e3, e4, e5, e6, e7, e8, e9, e10, e11, e12, e13, e14, e15, e16, e17, e18, e19, e20, e21]) (by simp [e0, e1, e2, e3, e4, e5, e6, e7, e8, e9, e10, e11, e12, e13, e14, e15, e16, e17, e18, e19, e20, e21]) (by simp [e0, e1, e2, e3, e4, e5, e6, e7, e8, e9, e10, e11, e12, e13, e14, e15, e16, e17, e18, e19, e20, e21])).mono ?_; rintro _ _ ⟨M3, fM3_0, fM3_1, fM3_2, fM3_3, rfl, rfl⟩; simp only [hp_next] at fM3_0
     try simp -dsimp -implicitDefEqProofs (maxDischargeDepth := 6) [e0, e1, e2, e3, e4, e5, e6, e7, e8, e9, e10, e11, e12, e13, e14, e15, e16, e17, e18, e19, e20, e21, hp_over_some, hp_over_none]
     exact hK _ _ ⟨M3, (by omega), fM3_1, fM3_2, fM3_3, rfl, rfl⟩
    rintro a σ ⟨M3, fM3_0, fM3_1, fM3_2, fM3_3, rfl, rfl⟩
    try rw [← fM3_1]
    try rw [← fM3_2]
    try rw [← fM3_3]
    refine AWP_sq [1, 4, 6] fun K4 hK4 => ?_
    refine gDrop AWP_ref [(N0 + 12, some ⟨48, 4, [[.fsl (encL rI r3.Out), .fsl (encL rL_I r3.Items), .fsl (encL rB r3.Ended), .bool r3.Rest]]⟩), (M1 + 5, some ⟨48, 4, [[.osl 3 1 (encL rI r5.Out), .osl 22 1 (encL rL_I_o r5.Items), .osl 4 1 (encL rB r5.Ended), .bool r5.Rest]]⟩)] (hp_skip (AHeap.Sub.trans (hp_skip (AHeap.Sub.trans (AHeap.Sub.trans (AHeap.Sub.trans (AHeap.Sub.refl _) (hp_drop rfl (by simp; try omega))) (hp_drop rfl (by simp; try omega))) (hp_drop rfl (by simp; try omega)))) (hp_drop rfl (by simp; try omega)))) ?_
    refine gUnp AWP_ref (ty := 3) (sz := 1) (es := encL rI r5.Out) (o := (M1 + 5)) (ob := ⟨48, 4, [[.osl 3 1 (encL rI r5.Out), .osl 22 1 (encL rL_I_o r5.Items), .osl 4 1 (encL rB r5.Ended), .bool r5.Rest]]⟩) (row := [.osl 3 1 (encL rI r5.Out), .osl 22 1 (encL rL_I_o r5.Items), .osl 4 1 (encL rB r5.Ended), .bool r5.Rest]) (r := 0) (i := 0) [(N0 + 12, some ⟨48, 4, [[.fsl (encL rI r3.Out), .fsl (encL rL_I r3.Items), .fsl (encL rB r3.Ended), .bool r3.Rest]]⟩), (M1 + 5, some ⟨48, 4, [[.sl M3 0 r5.Out.length, .osl 22 1 (encL rL_I_o r5.Items), .osl 4 1 (encL rB r5.Ended), .bool r5.Rest]]⟩), (M3, some ⟨3, 1, encL rI r5.Out⟩)] (by simp (disch := omega)) rfl rfl (by simp (disch := omega) [List.set_set]) ?_
    refine gUnp AWP_ref (ty := 22) (sz := 1) (es := encL rL_I_o r5.Items) (o := (M1 + 5)) (ob := ⟨48, 4, [[.sl M3 0 r5.Out.length, .osl 22 1 (encL rL_I_o r5.Items), .osl 4 1 (encL rB r5.Ended), .bool r5.Rest]]⟩) (row := [.sl M3 0 r5.Out.length, .osl 22 1 (encL rL_I_o r5.Items), .osl 4 1 (encL rB r5.Ended), .bool r5.Rest]) (r := 0) (i := 1) [(N0 + 12, some ⟨48, 4, [[.fsl (encL rI r3.Out), .fsl (encL rL_I r3.Items), .fsl (encL rB r3.Ended), .bool r3.Rest]]⟩), (M1 + 5, some ⟨48, 4, [[.sl M3 0 r5.Out.length, .sl (M3 + 1) 0 r5.Items.length, .osl 4 1 (encL rB r5.Ended), .bool r5.Rest]]⟩), (M3, some ⟨3, 1, encL rI r5.Out⟩), (M3 + 1, some ⟨22, 1, encL rL_I_o r5.Items⟩)] (by simp (disch := omega)) rfl rfl (by simp (disch := omega) [List.set_set]) ?_
    refine gUnp AWP_ref (ty := 4) (sz := 1) (es := encL rB r5.Ended) (o := (M1 + 5)) (ob := ⟨48, 4, [[.sl M3 0 r5.Out.length, .sl (M3 + 1) 0 r5.Items.length, .osl 4 1 (encL rB r5.Ended), .bool r5.Rest]]⟩) (row := [.sl M3 0 r5.Out.length, .sl (M3 + 1) 0 r5.Items.length, .osl 4 1 (encL rB r5.Ended), .bool r5.Rest]) (r := 0) (i := 2) [(N0 + 12, some ⟨48, 4, [[.fsl (encL rI r3.Out), .fsl (encL rL_I r3.Items), .fsl (encL rB r3.Ended), .bool r3.Rest]]⟩), (M1 + 5, some ⟨48, 4, [[.sl M3 0 r5.Out.length, .sl (M3 + 1) 0 r5.Items.length, .sl (M3 + 2) 0 r5.Ended.length, .bool r5.Rest]]⟩), (M3, some ⟨3, 1, encL rI r5.Out⟩), (M3 + 1, some ⟨22, 1, encL rL_I_o r5.Items⟩), (M3 + 2, some ⟨4, 1, encL rB r5.Ended⟩)] (by simp (disch := omega)) rfl rfl (by simp (disch := omega) [List.set_set]) ?_
    obtain ⟨g9, hg9, H⟩ := bindE H
    refine AWP_sr tok [] [1, 4, 6, 42] (fun a σ => a = [(1, .fptr [.fsl (encL rMachine p0.Harts), .fsl (encL rBox p0.Boxes), .int .i64 p0.Turn, .int .i64 p0.Idle, .fsl (encL rI p0.Out)] 0), (4, .ptr (N0 + 12) 0 0), (6, .ptr (M1 + 5) 0 0), (42, .bool g9)] ∧ σ = hp E0 [(N0 + 12, some ⟨48, 4, [[.fsl (encL rI r3.Out), .fsl (encL rL_I r3.Items), .fsl (encL rB r3.Ended), .bool r3.Rest]]⟩), (M1 + 5, some ⟨48, 4, [[.sl M3 0 r5.Out.length, .sl (M3 + 1) 0 r5.Items.length, .sl (M3 + 2) 0 r5.Ended.length, .bool r5.Rest]]⟩), (M3, some ⟨3, 1, encL rI r5.Out⟩), (M3 + 1, some ⟨22, 1, encL rL_I_o r5.Items⟩), (M3 + 2, some ⟨4, 1, encL rB r5.Ended⟩)] (M3 + 11)) (fun K hK => ?_) ?_
    ·
     skip
     have e0 := nq (a := N0 + 12) (b := M1 + 5) (by omega)
     have e1 := nq (a := N0 + 7) (b := M1) (by omega)
     have e2 := nq (a := N0 + 12) (b := M3) (by omega)
     have e3 := nq (a := N0 + 12) (b := M3 + 1) (by omega)
     have e4 := nq (a := N0 + 11) (b := M3) (by omega)
     have e5 := nq (a := N0 + 12) (b := M3 + 2) (by omega)
     have e6 := nq (a := N0 + 10) (b := M3) (by omega)
     have e7 := nq (a := M1 + 5) (b := M3) (by omega)
     have e8 := nq (a := M1 + 5) (b := M3 + 1) (by omega)
     have e9 := nq (a := M1 + 4) (b := M3) (by omega)
     have e10 := nq (a := M1 + 5) (b := M3 + 2) (by omega)
     have e11 := nq (a := M1 + 3) (b := M3) (by omega)
     simp -dsimp -implicitDefEqProofs (maxDischargeDepth := 6) [e0, e1, e2, e3, e4, e5, e6, e7, e8, e9, e10, e11]
     cases hbg9 : ilt r8.1 0
     ·
      replace hg9 := ifF hbg9 hg9
      replace hg9 := Option.some.inj hg9; subst hg9
      try simp -dsimp -implicitDefEqProofs (maxDischargeDepth := 6) [e0, e1, e2, e3, e4, e5, e6, e7, e8, e9, e10, e11, hbg9]
      refine (borrow 8 (c27 hr6) (by simp [e0, e1, e2, e3, e4, e5, e6, e7, e8, e9, e10, e11, hbg9]) rfl).mono ?_; rintro _ _ ⟨rfl, rfl⟩; try simp -dsimp -implicitDefEqProofs (maxDischargeDepth := 6) [e0, e1, e2, e3, e4, e5, e6, e7, e8, e9, e10, e11, hbg9]
      exact hK _ _ ⟨rfl, rfl⟩
     ·
      replace hg9 := ifT hbg9 hg9
      replace hg9 := Option.some.inj hg9; subst hg9
      try simp -dsimp -implicitDefEqProofs (maxDischargeDepth := 6) [e0, e1, e2, e3, e4, e5, e6, e7, e8, e9, e10, e11, hbg9]
      exact hK _ _ ⟨rfl, rfl⟩
    rintro a σ ⟨rfl, rfl⟩
    refine AWP_cond g9 rfl (fun C4 => ?_) (fun C4 => ?_)
    ·
     replace H := ifT C4 H
     refine AWP_sr tok [] [2] (fun a σ => a = [(2, .bool false)] ∧ σ = hp E0 [(N0 + 12, some ⟨48, 4, [[.fsl (encL rI r3.Out), .fsl (encL rL_I r3.Items), .fsl (encL rB r3.Ended), .bool r3.Rest]]⟩), (M1 + 5, some ⟨48, 4, [[.sl M3 0 r5.Out.length, .sl (M3 + 1) 0 r5.Items.length, .sl (M3 + 2) 0 r5.Ended.length, .bool r5.Rest]]⟩), (M3, some ⟨3, 1, encL rI r5.Out⟩), (M3 + 1, some ⟨22, 1, encL rL_I_o r5.Items⟩), (M3 + 2, some ⟨4, 1, encL rB r5.Ended⟩)] (M3 + 12)) (fun K hK => ?_) ?_
     ·
      skip
      have e0 := nq (a := N0 + 12) (b := M1 + 5) (by omega)
      have e1 := nq (a := N0 + 7) (b := M1) (by omega)
      have e2 := nq (a := N0 + 12) (b := M3) (by omega)
      have e3 := nq (a := N0 + 12) (b := M3 + 1) (by omega)
      have e4 := nq (a := N0 + 11) (b := M3) (by omega)
      have e5 := nq (a := N0 + 12) (b := M3 + 2) (by omega)
      have e6 := nq (a := N0 + 10) (b := M3) (by omega)
      have e7 := nq (a := M1 + 5) (b := M3) (by omega)
      have e8 := nq (a := M1 + 5) (b := M3 + 1) (by omega)
      have e9 := nq (a := M1 + 4) (b := M3) (by omega)
      have e10 := nq (a := M1 + 5) (b := M3 + 2) (by omega)
      have e11 := nq (a := M1 + 3) (b := M3) (by omega)
      simp -dsimp -implicitDefEqProofs (maxDischargeDepth := 6) [e0, e1, e2, e3, e4, e5, e6, e7, e8, e9, e10, e11]
      exact hK _ _ ⟨rfl, rfl⟩
     rintro a σ ⟨rfl, rfl⟩
     replace H := Option.some.inj H; subst H
     refine AWP_kp [2] [(2, .bool false)] rfl ?_
     have z41 := nq (a := N0 + 12) (b := M1 + 5) (by omega)
     have z42 := nq (a := N0 + 7) (b := M1) (by omega)
     have z43 := nq (a := N0 + 12) (b := M3) (by omega)
     have z44 := nq (a := N0 + 12) (b := M3 + 1) (by omega)
     have z45 := nq (a := N0 + 11) (b := M3) (by omega)
     have z46 := nq (a := N0 + 12) (b := M3 + 2) (by omega)
     have z47 := nq (a := N0 + 10) (b := M3) (by omega)
     have z48 := nq (a := M1 + 5) (b := M3) (by omega)
     have z49 := nq (a := M1 + 5) (b := M3 + 1) (by omega)
     have z50 := nq (a := M1 + 4) (b := M3) (by omega)
     have z51 := nq (a := M1 + 5) (b := M3 + 2) (by omega)
     have z52 := nq (a := M1 + 3) (b := M3) (by omega)
     refine AWP_ret ?_
     exact ⟨[.bool false], by simp [z41, z42, z43, z44, z45, z46, z47, z48, z49, z50, z51, z52], 4, by simp [encL_nil, z41, z42, z43, z44, z45, z46, z47, z48, z49, z50, z51, z52]⟩
    ·
     replace H := ifF C4 H
     refine AWP_skip ?_
     show K4 _ _
     refine keepE (l := [1, 4, 6]) (x := [(1, .fptr [.fsl (encL rMachine p0.Harts), .fsl (encL rBox p0.Boxes), .int .i64 p0.Turn, .int .i64 p0.Idle, .fsl (encL rI p0.Out)] 0), (4, .ptr (N0 + 12) 0 0), (6, .ptr (M1 + 5) 0 0)]) rfl fun a' ha => ?_
     refine hK4 _ _ ?_; rw [ha]
     refine Rc.mk ?_
     refine AWP_sr tok [] [1, 4, 6, 8] (fun a σ => a = [(1, .fptr [.fsl (encL rMachine p0.Harts), .fsl (encL rBox p0.Boxes), .int .i64 p0.Turn, .int .i64 p0.Idle, .fsl (encL rI p0.Out)] 0), (4, .ptr (N0 + 12) 0 0), (6, .ptr (M1 + 5) 0 0), (8, .int .i64 1)] ∧ σ = hp E0 [(N0 + 12, some ⟨48, 4, [[.fsl (encL rI r3.Out), .fsl (encL rL_I r3.Items), .fsl (encL rB r3.Ended), .bool r3.Rest]]⟩), (M1 + 5, some ⟨48, 4, [[.sl M3 0 r5.Out.length, .sl (M3 + 1) 0 r5.Items.length, .sl (M3 + 2) 0 r5.Ended.length, .bool r5.Rest]]⟩), (M3, some ⟨3, 1, encL rI r5.Out⟩), (M3 + 1, some ⟨22, 1, encL rL_I_o r5.Items⟩), (M3 + 2, some ⟨4, 1, encL rB r5.Ended⟩)] (M3 + 12)) (fun K hK => ?_) ?_
     ·
      skip
      have e0 := nq (a := N0 + 12) (b := M1 + 5) (by omega)
      have e1 := nq (a := N0 + 7) (b := M1) (by omega)
      have e2 := nq (a := N0 + 12) (b := M3) (by omega)
      have e3 := nq (a := N0 + 12) (b := M3 + 1) (by omega)
      have e4 := nq (a := N0 + 11) (b := M3) (by omega)
      have e5 := nq (a := N0 + 12) (b := M3 + 2) (by omega)
      have e6 := nq (a := N0 + 10) (b := M3) (by omega)
      have e7 := nq (a := M1 + 5) (b := M3) (by omega)
      have e8 := nq (a := M1 + 5) (b := M3 + 1) (by omega)
      have e9 := nq (a := M1 + 4) (b := M3) (by omega)
      have e10 := nq (a := M1 + 5) (b := M3 + 2) (by omega)
      have e11 := nq (a := M1 + 3) (b := M3) (by omega)
      simp -dsimp -implicitDefEqProofs (maxDischargeDepth := 6) [e0, e1, e2, e3, e4, e5, e6, e7, e8, e9, e10, e11]
      exact hK _ _ ⟨rfl, rfl⟩
     rintro a σ ⟨rfl, rfl⟩
     refine gPk AWP_ref (k := r5.Out.length) (o := (M1 + 5)) (ob := ⟨48, 4, [[.sl M3 0 r5.Out.length, .sl (M3 + 1) 0 r5.Items.length, .sl (M3 + 2) 0 r5.Ended.length, .bool r5.Rest]]⟩) (row := [.sl M3 0 r5.Out.length, .sl (M3 + 1) 0 r5.Items.length, .sl (M3 + 2) 0 r5.Ended.length, .bool r5.Rest]) (d := M3) (obd := ⟨3, 1, encL rI r5.Out⟩) (r := 0) (i := 0) [(N0 + 12, some ⟨48, 4, [[.fsl (encL rI r3.Out), .fsl (encL rL_I r3.Items), .fsl (encL rB r3.Ended), .bool r3.Rest]]⟩), (M1 + 5, some ⟨48, 4, [[.osl 3 1 (encL rI r5.Out), .sl (M3 + 1) 0 r5.Items.length, .sl (M3 + 2) 0 r5.Ended.length, .bool r5.Rest]]⟩), (M3 + 1, some ⟨22, 1, encL rL_I_o r5.Items⟩), (M3 + 2, some ⟨4, 1, encL rB r5.Ended⟩)] (by simp (disch := omega)) rfl rfl (by simp (disch := omega)) (by simp (disch := omega)) (by first | omega | simp) (by simp (disch := omega) [List.set_set, app_set] <;> omega) (by simp (disch := omega) [List.set_set, app_set]) ?_
     refine gPk AWP_ref (k := r5.Items.length) (o := (M1 + 5)) (ob := ⟨48, 4, [[.osl 3 1 (encL rI r5.Out), .sl (M3 + 1) 0 r5.Items.length, .sl (M3 + 2) 0 r5.Ended.length, .bool r5.Rest]]⟩) (row := [.osl 3 1 (encL rI r5.Out), .sl (M3 + 1) 0 r5.Items.length, .sl (M3 + 2) 0 r5.Ended.length, .bool r5.Rest]) (d := (M3 + 1)) (obd := ⟨22, 1, encL rL_I_o r5.Items⟩) (r := 0) (i := 1) [(N0 + 12, some ⟨48, 4, [[.fsl (encL rI r3.Out), .fsl (encL rL_I r3.Items), .fsl (encL rB r3.Ended), .bool r3.Rest]]⟩), (M1 + 5, some ⟨48, 4, [[.osl 3 1 (encL rI r5.Out), .osl 22 1 (encL rL_I_o r5.Items), .sl (M3 + 2) 0 r5.Ended.length, .bool r5.Rest]]⟩), (M3 + 2, some ⟨4, 1, encL rB r5.Ended⟩)] (by simp (disch := omega)) rfl rfl (by simp (disch := omega)) (by simp (disch := omega)) (by first | omega | simp) (by simp (disch := omega) [List.set_set, app_set] <;> omega) (by simp (disch := omega) [List.set_set, app_set]) ?_
     refine gPk AWP_ref (k := r5.Ended.length) (o := (M1 + 5)) (ob := ⟨48, 4, [[.osl 3 1 (encL rI r5.Out), .osl 22 1 (encL rL_I_o r5.Items), .sl (M3 + 2) 0 r5.Ended.length, .bool r5.Rest]]⟩) (row := [.osl 3 1 (encL rI r5.Out), .osl 22 1 (encL rL_I_o r5.Items), .sl (M3 + 2) 0 r5.Ended.length, .bool r5.Rest]) (d := (M3 + 2)) (obd := ⟨4, 1, encL rB r5.Ended⟩) (r := 0) (i := 2) [(N0 + 12, some ⟨48, 4, [[.fsl (encL rI r3.Out), .fsl (encL rL_I r3.Items), .fsl (encL rB r3.Ended), .bool r3.Rest]]⟩), (M1 + 5, some ⟨48, 4, [[.osl 3 1 (encL rI r5.Out), .osl 22 1 (encL rL_I_o r5.Items), .osl 4 1 (encL rB r5.Ended), .bool r5.Rest]]⟩)] (by simp (disch := omega)) rfl rfl (by simp (disch := omega)) (by simp (disch := omega)) (by first | omega | simp) (by simp (disch := omega) [List.set_set, app_set] <;> omega) (by simp (disch := omega) [List.set_set, app_set]) ?_
     refine gUnp AWP_ref (ty := 3) (sz := 1) (es := encL rI r5.Out) (o := (M1 + 5)) (ob := ⟨48, 4, [[.osl 3 1 (encL rI r5.Out), .osl 22 1 (encL rL_I_o r5.Items), .osl 4 1 (encL rB r5.Ended), .bool r5.Rest]]⟩) (row := [.osl 3 1 (encL rI r5.Out), .osl 22 1 (encL rL_I_o r5.Items), .osl 4 1 (encL rB r5.Ended), .bool r5.Rest]) (r := 0) (i := 0) [(N0 + 12, some ⟨48, 4, [[.fsl (encL rI r3.Out), .fsl (encL rL_I r3.Items), .fsl (encL rB r3.Ended), .bool r3.Rest]]⟩), (M1 + 5, some ⟨48, 4, [[.sl (M3 + 12) 0 r5.Out.length, .osl 22 1 (encL rL_I_o r5.Items), .osl 4 1 (encL rB r5.Ended), .bool r5.Rest]]⟩), (M3 + 12, some ⟨3, 1, encL rI r5.Out⟩)] (by simp (disch := omega)) rfl rfl (by simp (disch := omega) [List.set_set]) ?_
     refine gUnp AWP_ref (ty := 22) (sz := 1) (es := encL rL_I_o r5.Items) (o := (M1 + 5)) (ob := ⟨48, 4, [[.sl (M3 + 12) 0 r5.Out.length, .osl 22 1 (encL rL_I_o r5.Items), .osl 4 1 (encL rB r5.Ended), .bool r5.Rest]]⟩) (row := [.sl (M3 + 12) 0 r5.Out.length, .osl 22 1 (encL rL_I_o r5.Items), .osl 4 1 (encL rB r5.Ended), .bool r5.Rest]) (r := 0) (i := 1) [(N0 + 12, some ⟨48, 4, [[.fsl (encL rI r3.Out), .fsl (encL rL_I r3.Items), .fsl (encL rB r3.Ended), .bool r3.Rest]]⟩), (M1 + 5, some ⟨48, 4, [[.sl (M3 + 12) 0 r5.Out.length, .sl (M3 + 13) 0 r5.Items.length, .osl 4 1 (encL rB r5.Ended), .bool r5.Rest]]⟩), (M3 + 12, some ⟨3, 1, encL rI r5.Out⟩), (M3 + 13, some ⟨22, 1, encL rL_I_o r5.Items⟩)] (by simp (disch := omega)) rfl rfl (by simp (disch := omega) [List.set_set]) ?_
     refine gUnp AWP_ref (ty := 4) (sz := 1) (es := encL rB r5.Ended) (o := (M1 + 5)) (ob := ⟨48, 4, [[.sl (M3 + 12) 0 r5.Out.length, .sl (M3 + 13) 0 r5.Items.length, .osl 4 1 (encL rB r5.Ended), .bool r5.Rest]]⟩) (row := [.sl (M3 + 12) 0 r5.Out.length, .sl (M3 + 13) 0 r5.Items.length, .osl 4 1 (encL rB r5.Ended), .bool r5.Rest]) (r := 0) (i := 2) [(N0 + 12, some ⟨48, 4, [[.fsl (encL rI r3.Out), .fsl (encL rL_I r3.Items), .fsl (encL rB r3.Ended), .bool r3.Rest]]⟩), (M1 + 5, some ⟨48, 4, [[.sl (M3 + 12) 0 r5.Out.length, .sl (M3 + 13) 0 r5.Items.length, .sl (M3 + 14) 0 r5.Ended.length, .bool r5.Rest]]⟩), (M3 + 12, some ⟨3, 1, encL rI r5.Out⟩), (M3 + 13, some ⟨22, 1, encL rL_I_o r5.Items⟩), (M3 + 14, some ⟨4, 1, encL rB r5.Ended⟩)] (by simp (disch := omega)) rfl rfl (by simp (disch := omega) [List.set_set]) ?_
     obtain ⟨r10, hr10, H⟩ := bindE H
     refine AWP_sr tok [] [1, 4, 6, 8] (fun a σ => ∃ M4 : Nat, M3 + 19 ≤ M4 ∧ r10.2.Out.length = r5.Out.length ∧ r10.2.Items.length = r5.Items.length ∧ r10.2.Ended.length = r5.Ended.length ∧ a = [(1, .fptr [.fsl (encL rMachine p0.Harts), .fsl (encL rBox p0.Boxes), .int .i64 p0.Turn, .int .i64 p0.Idle, .fsl (encL rI p0.Out)] 0), (4, .ptr (N0 + 12) 0 0), (6, .ptr (M1 + 5) 0 0), (8, .int .i64 r10.1)] ∧ σ = hp E0 [(N0 + 12, some ⟨48, 4, [[.fsl (encL rI r3.Out), .fsl (encL rL_I r3.Items), .fsl (encL rB r3.Ended), .bool r3.Rest]]⟩), (M1 + 5, some ⟨48, 4, [[.sl (M3 + 12) 0 r5.Out.length, .sl (M3 + 13) 0 r5.Items.length, .sl (M3 + 14) 0 r5.Ended.length, .bool r5.Rest]]⟩), (M3 + 12, some ⟨3, 1, encL rI r10.2.Out⟩), (M3 + 13, some ⟨22, 1, encL rL_I_o r10.2.Items⟩), (M3 + 14, some ⟨4, 1, encL rB r10.2.Ended⟩)] M4) (fun K hK => ?_) ?_
     ·
      skip
      have e0 := nq (a := N0 + 12) (b := M1 + 5) (by omega)
      have e1 := nq (a := N0 + 7) (b := M1) (by omega)
      have e2 := nq (a := N0 + 12) (b := M3 + 12) (by omega)
      have e3 := nq (a := N0) (b := M3) (by omega)
      have e4 := nq (a := N0 + 12) (b := M3 + 13) (by omega)
      have e5 := nq (a := N0) (b := M3 + 1) (by omega)
      have e6 := nq (a := N0 + 12) (b := M3 + 14) (by omega)
      have e7 := nq (a := N0) (b := M3 + 2) (by omega)
      have e8 := nq (a := M1 + 5) (b := M3 + 12) (by omega)
      have e9 := nq (a := M1) (b := M3 + 7) (by omega)
      have e10 := nq (a := M1 + 5) (b := M3 + 13) (by omega)
      have e11 := nq (a := M1) (b := M3 + 8) (by omega)
      have e12 := nq (a := M1 + 5) (b := M3 + 14) (by omega)
      have e13 := nq (a := M1) (b := M3 + 9) (by omega)
      simp -dsimp -implicitDefEqProofs (maxDischargeDepth := 6) [e0, e1, e2, e3, e4, e5, e6, e7, e8, e9, e10, e11, e12, e13]
      refine (c30 (H := hr10) (by simp [e0, e1, e2, e3, e4, e5, e6, e7, e8, e9, e10, e11, e12, e13]) (by simp [e0, e1, e2, e3, e4, e5, e6, e7, e8, e9, e10, e11, e12, e13]) (by simp [e0, e1, e2, e3, e4, e5, e6, e7, e8, e9, e10, e11, e12, e13]) (by simp [e0, e1, e2, e3, e4, e5, e6, e7, e8, e9, e10, e11, e12, e13]) (by simp [e0, e1, e2, e3, e4, e5, e6, e7, e8, e9, e10, e11, e12, e13]) (by simp [e0, e1, e2, e3, e4, e5, e6, e7, e8, e9, e10, e11, e12, e13])).mono ?_; rintro _ _ ⟨M4, fM4_0, fM4_1, fM4_2, fM4_3, rfl, rfl⟩; simp only [hp_next] at fM4_0
      try simp -dsimp -implicitDefEqProofs (maxDischargeDepth := 6) [e0, e1, e2, e3, e4, e5, e6, e7, e8, e9, e10, e11, e12, e13, hp_over_some, hp_over_none]
      exact hK _ _ ⟨M4, (by omega), fM4_1, fM4_2, fM4_3, rfl, rfl⟩
     rintro a σ ⟨M4, fM4_0, fM4_1, fM4_2, fM4_3, rfl, rfl⟩
     try rw [← fM4_1]
     try rw [← fM4_2]
     try rw [← fM4_3]
     refine AWP_sr tok [] [1, 4, 6, 8, 9] (fun a σ => a = [(1, .fptr [.fsl (encL rMachine p0.Harts), .fsl (encL rBox p0.Boxes), .int .i64 p0.Turn, .int .i64 p0.Idle, .fsl (encL rI p0.Out)] 0), (4, .ptr (N0 + 12) 0 0), (6, .ptr (M1 + 5) 0 0), (8, .int .i64 r10.1), (9, .int .i64 1)] ∧ σ = hp E0 [(N0 + 12, some ⟨48, 4, [[.fsl (encL rI r3.Out), .fsl (encL rL_I r3.Items), .fsl (encL rB r3.Ended), .bool r3.Rest]]⟩), (M1 + 5, some ⟨48, 4, [[.sl (M3 + 12) 0 r10.2.Out.length, .sl (M3 + 13) 0 r10.2.Items.length, .sl (M3 + 14) 0 r10.2.Ended.length, .bool r5.Rest]]⟩), (M3 + 12, some ⟨3, 1, encL rI r10.2.Out⟩), (M3 + 13, some ⟨22, 1, encL rL_I_o r10.2.Items⟩), (M3 + 14, some ⟨4, 1, encL rB r10.2.Ended⟩)] (M4 + 1)) (fun K hK => ?_) ?_
     ·
      skip
      have e0 := nq (a := N0 + 12) (b := M1 + 5) (by omega)
      have e1 := nq (a := N0 + 7) (b := M1) (by omega)
      have e2 := nq (a := N0 + 12) (b := M3 + 12) (by omega)
      have e3 := nq (a := N0) (b := M3) (by omega)
      have e4 := nq (a := N0 + 12) (b := M3 + 13) (by omega)
      have e5 := nq (a := N0) (b := M3 + 1) (by omega)
      have e6 := nq (a := N0 + 12) (b := M3 + 14) (by omega)
      have e7 := nq (a := N0) (b := M3 + 2) (by omega)
      have e8 := nq (a := M1 + 5) (b := M3 + 12) (by omega)
      have e9 := nq (a := M1) (b := M3 + 7) (by omega)
      have e10 := nq (a := M1 + 5) (b := M3 + 13) (by omega)
      have e11 := nq (a := M1) (b := M3 + 8) (by omega)
      have e12 := nq (a := M1 + 5) (b := M3 + 14) (by omega)
      have e13 := nq (a := M1) (b := M3 + 9) (by omega)
      simp -dsimp -implicitDefEqProofs (maxDischargeDepth := 6) [e0, e1, e2, e3, e4, e5, e6, e7, e8, e9, e10, e11, e12, e13]
      exact hK _ _ ⟨rfl, rfl⟩
     rintro a σ ⟨rfl, rfl⟩
     refine gPk AWP_ref (k := r10.2.Out.length) (o := (M1 + 5)) (ob := ⟨48, 4, [[.sl (M3 + 12) 0 r10.2.Out.length, .sl (M3 + 13) 0 r10.2.Items.length, .sl (M3 + 14) 0 r10.2.Ended.length, .bool r5.Rest]]⟩) (row := [.sl (M3 + 12) 0 r10.2.Out.length, .sl (M3 + 13) 0 r10.2.Items.length, .sl (M3 + 14) 0 r10.2.Ended.length, .bool r5.Rest]) (d := (M3 + 12)) (obd := ⟨3, 1, encL rI r10.2.Out⟩) (r := 0) (i := 0) [(N0 + 12, some ⟨48, 4, [[.fsl (encL rI r3.Out), .fsl (encL rL_I r3.Items), .fsl (encL rB r3.Ended), .bool r3.Rest]]⟩), (M1 + 5, some ⟨48, 4, [[.osl 3 1 (encL rI r10.2.Out), .sl (M3 + 13) 0 r10.2.Items.length, .sl (M3 + 14) 0 r10.2.Ended.length, .bool r5.Rest]]⟩), (M3 + 13, some ⟨22, 1, encL rL_I_o r10.2.Items⟩), (M3 + 14, some ⟨4, 1, encL rB r10.2.Ended⟩)] (by simp (disch := omega)) rfl rfl (by simp (disch := omega)) (by simp (disch := omega)) (by first | omega | simp) (by simp (disch := omega) [List.set_set, app_set] <;> omega) (by simp (disch := omega) [List.set_set, app_set]) ?_
     refine gPk AWP_ref (k := r10.2.Items.length) (o := (M1 + 5)) (ob := ⟨48, 4, [[.osl 3 1 (encL rI r10.2.Out), .sl (M3 + 13) 0 r10.2.Items.length, .sl (M3 + 14) 0 r10.2.Ended.length, .bool r5.Rest]]⟩) (row := [.osl 3 1 (encL rI r10.2.Out), .sl (M3 + 13) 0 r10.2.Items.length, .sl (M3 + 14) 0 r10.2.Ended.length, .bool r5.Rest]) (d := (M3 + 13)) (obd := ⟨22, 1, encL rL_I_o r10.2.Items⟩) (r := 0) (i := 1) [(N0 + 12, some ⟨48, 4, [[.fsl (encL rI r3.Out), .fsl (encL rL_I r3.Items), .fsl (encL rB r3.Ended), .bool r3.Rest]]⟩), (M1 + 5, some ⟨48, 4, [[.osl 3 1 (encL rI r10.2.Out), .osl 22 1 (encL rL_I_o r10.2.Items), .sl (M3 + 14) 0 r10.2.Ended.length, .bool r5.Rest]]⟩), (M3 + 14, some ⟨4, 1, encL rB r10.2.Ended⟩)] (by simp (disch := omega)) rfl rfl (by simp (disch := omega)) (by simp (disch := omega)) (by first | omega | simp) (by simp (disch := omega) [List.set_set, app_set] <;> omega) (by simp (disch := omega) [List.set_set, app_set]) ?_
     refine gPk AWP_ref (k := r10.2.Ended.length) (o := (M1 + 5)) (ob := ⟨48, 4, [[.osl 3 1 (encL rI r10.2.Out), .osl 22 1 (encL rL_I_o r10.2.Items), .sl (M3 + 14) 0 r10.2.Ended.length, .bool r5.Rest]]⟩) (row := [.osl 3 1 (encL rI r10.2.Out), .osl 22 1 (encL rL_I_o r10.2.Items), .sl (M3 + 14) 0 r10.2.Ended.length, .bool r5.Rest]) (d := (M3 + 14)) (obd := ⟨4, 1, encL rB r10.2.Ended⟩) (r := 0) (i := 2) [(N0 + 12, some ⟨48, 4, [[.fsl (encL rI r3.Out), .fsl (encL rL_I r3.Items), .fsl (encL rB r3.Ended), .bool r3.Rest]]⟩), (M1 + 5, some ⟨48, 4, [[.osl 3 1 (encL rI r10.2.Out), .osl 22 1 (encL rL_I_o r10.2.Items), .osl 4 1 (encL rB r10.2.Ended), .bool r5.Rest]]⟩)] (by simp (disch := omega)) rfl rfl (by simp (disch := omega)) (by simp (disch := omega)) (by first | omega | simp) (by simp (disch := omega) [List.set_set, app_set] <;> omega) (by simp (disch := omega) [List.set_set, app_set]) ?_
     refine gUnp AWP_ref (ty := 3) (sz := 1) (es := encL rI r10.2.Out) (o := (M1 + 5)) (ob := ⟨48, 4, [[.osl 3 1 (encL rI r10.2.Out), .osl 22 1 (encL rL_I_o r10.2.Items), .osl 4 1 (encL rB r10.2.Ended), .bool r5.Rest]]⟩) (row := [.osl 3 1 (encL rI r10.2.Out), .osl 22 1 (encL rL_I_o r10.2.Items), .osl 4 1 (encL rB r10.2.Ended), .bool r5.Rest]) (r := 0) (i := 0) [(N0 + 12, some ⟨48, 4, [[.fsl (encL rI r3.Out), .fsl (encL rL_I r3.Items), .fsl (encL rB r3.Ended), .bool r3.Rest]]⟩), (M1 + 5, some ⟨48, 4, [[.sl (M4 + 1) 0 r10.2.Out.length, .osl 22 1 (encL rL_I_o r10.2.Items), .osl 4 1 (encL rB r10.2.Ended), .bool r5.Rest]]⟩), (M4 + 1, some ⟨3, 1, encL rI r10.2.Out⟩)] (by simp (disch := omega)) rfl rfl (by simp (disch := omega) [List.set_set]) ?_
     refine gUnp AWP_ref (ty := 22) (sz := 1) (es := encL rL_I_o r10.2.Items) (o := (M1 + 5)) (ob := ⟨48, 4, [[.sl (M4 + 1) 0 r10.2.Out.length, .osl 22 1 (encL rL_I_o r10.2.Items), .osl 4 1 (encL rB r10.2.Ended), .bool r5.Rest]]⟩) (row := [.sl (M4 + 1) 0 r10.2.Out.length, .osl 22 1 (encL rL_I_o r10.2.Items), .osl 4 1 (encL rB r10.2.Ended), .bool r5.Rest]) (r := 0) (i := 1) [(N0 + 12, some ⟨48, 4, [[.fsl (encL rI r3.Out), .fsl (encL rL_I r3.Items), .fsl (encL rB r3.Ended), .bool r3.Rest]]⟩), (M1 + 5, some ⟨48, 4, [[.sl (M4 + 1) 0 r10.2.Out.length, .sl (M4 + 2) 0 r10.2.Items.length, .osl 4 1 (encL rB r10.2.Ended), .bool r5.Rest]]⟩), (M4 + 1, some ⟨3, 1, encL rI r10.2.Out⟩), (M4 + 2, some ⟨22, 1, encL rL_I_o r10.2.Items⟩)] (by simp (disch := omega)) rfl rfl (by simp (disch := omega) [List.set_set]) ?_
     refine gUnp AWP_ref (ty := 4) (sz := 1) (es := encL rB r10.2.Ended) (o := (M1 + 5)) (ob := ⟨48, 4, [[.sl (M4 + 1) 0 r10.2.Out.length, .sl (M4 + 2) 0 r10.2.Items.length, .osl 4 1 (encL rB r10.2.Ended), .bool r5.Rest]]⟩) (row := [.sl (M4 + 1) 0 r10.2.Out.length, .sl (M4 + 2) 0 r10.2.Items.length, .osl 4 1 (encL rB r10.2.Ended), .bool r5.Rest]) (r := 0) (i := 2) [(N0 + 12, some ⟨48, 4, [[.fsl (encL rI r3.Out), .fsl (encL rL_I r3.Items), .fsl (encL rB r3.Ended), .bool r3.Rest]]⟩), (M1 + 5, some ⟨48, 4, [[.sl (M4 + 1) 0 r10.2.Out.length, .sl (M4 + 2) 0 r10.2.Items.length, .sl (M4 + 3) 0 r10.2.Ended.length, .bool r5.Rest]]⟩), (M4 + 1, some ⟨3, 1, encL rI r10.2.Out⟩), (M4 + 2, some ⟨22, 1, encL rL_I_o r10.2.Items⟩), (M4 + 3, some ⟨4, 1, encL rB r10.2.Ended⟩)] (by simp (disch := omega)) rfl rfl (by simp (disch := omega) [List.set_set]) ?_
     obtain ⟨r11, hr11, H⟩ := bindE H
     refine AWP_sr tok [] [1, 4, 6, 8, 9] (fun a σ => a = [(1, .fptr [.fsl (encL rMachine p0.Harts), .fsl (encL rBox p0.Boxes), .int .i64 p0.Turn, .int .i64 p0.Idle, .fsl (encL rI p0.Out)] 0), (4, .ptr (N0 + 12) 0 0), (6, .ptr (M1 + 5) 0 0), (8, .int .i64 r10.1), (9, .int .i64 r11)] ∧ σ = hp E0 [(N0 + 12, some ⟨48, 4, [[.fsl (encL rI r3.Out), .fsl (encL rL_I r3.Items), .fsl (encL rB r3.Ended), .bool r3.Rest]]⟩), (M1 + 5, some ⟨48, 4, [[.sl (M4 + 1) 0 r10.2.Out.length, .sl (M4 + 2) 0 r10.2.Items.length, .sl (M4 + 3) 0 r10.2.Ended.length, .bool r5.Rest]]⟩), (M4 + 1, some ⟨3, 1, encL rI r10.2.Out⟩), (M4 + 2, some ⟨22, 1, encL rL_I_o r10.2.Items⟩), (M4 + 3, some ⟨4, 1, encL rB r10.2.Ended⟩)] (M4 + 8)) (fun K hK => ?_) ?_
     ·
      skip
      have e0 := nq (a := N0 + 12) (b := M1 + 5) (by omega)
      have e1 := nq (a := N0 + 7) (b := M1) (by omega)
      have e2 := nq (a := N0 + 12) (b := M4 + 1) (by omega)
      have e3 := nq (a := N0 + 11) (b := M4) (by omega)
      have e4 := nq (a := N0 + 12) (b := M4 + 2) (by omega)
      have e5 := nq (a := N0 + 10) (b := M4) (by omega)
      have e6 := nq (a := N0 + 12) (b := M4 + 3) (by omega)
      have e7 := nq (a := N0 + 9) (b := M4) (by omega)
      have e8 := nq (a := M1 + 5) (b := M4 + 1) (by omega)
      have e9 := nq (a := M1 + 4) (b := M4) (by omega)
      have e10 := nq (a := M1 + 5) (b := M4 + 2) (by omega)
      have e11 := nq (a := M1 + 3) (b := M4) (by omega)
      have e12 := nq (a := M1 + 5) (b := M4 + 3) (by omega)
      have e13 := nq (a := M1 + 2) (b := M4) (by omega)
      simp -dsimp -implicitDefEqProofs (maxDischargeDepth := 6) [e0, e1, e2, e3, e4, e5, e6, e7, e8, e9, e10, e11, e12, e13]
      refine (borrow 8 (c31 hr11) (by simp [e0, e1, e2, e3, e4, e5, e6, e7, e8, e9, e10, e11, e12, e13]) rfl).mono ?_; rintro _ _ ⟨rfl, rfl⟩; try simp -dsimp -implicitDefEqProofs (maxDischargeDepth := 6) [e0, e1, e2, e3, e4, e5, e6, e7, e8, e9, e10, e11, e12, e13]
      exact hK _ _ ⟨rfl, rfl⟩
     rintro a σ ⟨rfl, rfl⟩
     refine AWP_sq [1, 4, 6, 8, 9] fun K5 hK5 => ?_
     refine AWP_sr tok [] [1, 4, 6, 8, 9, 50] (fun a σ => a = [(1, .fptr [.fsl (encL rMachine p0.Harts), .fsl (encL rBox p0.Boxes), .int .i64 p0.Turn, .int .i64 p0.Idle, .fsl (encL rI p0.Out)] 0), (4, .ptr (N0 + 12) 0 0), (6, .ptr (M1 + 5) 0 0), (8, .int .i64 r10.1), (9, .int .i64 r11), (50, .bool (ilt r11 0))] ∧ σ = hp E0 [(N0 + 12, some ⟨48, 4, [[.fsl (encL rI r3.Out), .fsl (encL rL_I r3.Items), .fsl (encL rB r3.Ended), .bool r3.Rest]]⟩), (M1 + 5, some ⟨48, 4, [[.sl (M4 + 1) 0 r10.2.Out.length, .sl (M4 + 2) 0 r10.2.Items.length, .sl (M4 + 3) 0 r10.2.Ended.length, .bool r5.Rest]]⟩), (M4 + 1, some ⟨3, 1, encL rI r10.2.Out⟩), (M4 + 2, some ⟨22, 1, encL rL_I_o r10.2.Items⟩), (M4 + 3, some ⟨4, 1, encL rB r10.2.Ended⟩)] (M4 + 10)) (fun K hK => ?_) ?_
     ·
      skip
      have e0 := nq (a := N0 + 12) (b := M1 + 5) (by omega)
      have e1 := nq (a := N0 + 7) (b := M1) (by omega)
      have e2 := nq (a := N0 + 12) (b := M4 + 1) (by omega)
      have e3 := nq (a := N0 + 11) (b := M4) (by omega)
      have e4 := nq (a := N0 + 12) (b := M4 + 2) (by omega)
      have e5 := nq (a := N0 + 10) (b := M4) (by omega)
      have e6 := nq (a := N0 + 12) (b := M4 + 3) (by omega)
      have e7 := nq (a := N0 + 9) (b := M4) (by omega)
      have e8 := nq (a := M1 + 5) (b := M4 + 1) (by omega)
      have e9 := nq (a := M1 + 4) (b := M4) (by omega)
      have e10 := nq (a := M1 + 5) (b := M4 + 2) (by omega)
      have e11 := nq (a := M1 + 3) (b := M4) (by omega)
      have e12 := nq (a := M1 + 5) (b := M4 + 3) (by omega)
      have e13 := nq (a := M1 + 2) (b := M4) (by omega)
      simp -dsimp -implicitDefEqProofs (maxDischargeDepth := 6) [e0, e1, e2, e3, e4, e5, e6, e7, e8, e9, e10, e11, e12, e13]
      exact hK _ _ ⟨rfl, rfl⟩
     rintro a σ ⟨rfl, rfl⟩
     refine AWP_cond (ilt r11 0) rfl (fun C5 => ?_) (fun C5 => ?_)
     ·
      replace H := ifT C5 H
      refine AWP_sr tok [] [2] (fun a σ => a = [(2, .bool false)] ∧ σ = hp E0 [(N0 + 12, some ⟨48, 4, [[.fsl (encL rI r3.Out), .fsl (encL rL_I r3.Items), .fsl (encL rB r3.Ended), .bool r3.Rest]]⟩), (M1 + 5, some ⟨48, 4, [[.sl (M4 + 1) 0 r10.2.Out.length, .sl (M4 + 2) 0 r10.2.Items.length, .sl (M4 + 3) 0 r10.2.Ended.length, .bool r5.Rest]]⟩), (M4 + 1, some ⟨3, 1, encL rI r10.2.Out⟩), (M4 + 2, some ⟨22, 1, encL rL_I_o r10.2.Items⟩), (M4 + 3, some ⟨4, 1, encL rB r10.2.Ended⟩)] (M4 + 11)) (fun K hK => ?_) ?_
      ·
       skip
       have e0 := nq (a := N0 + 12) (b := M1 + 5) (by omega)
       have e1 := nq (a := N0 + 7) (b := M1) (by omega)
       have e2 := nq (a := N0 + 12) (b := M4 + 1) (by omega)
       have e3 := nq (a := N0 + 11) (b := M4) (by omega)
       have e4 := nq (a := N0 + 12) (b := M4 + 2) (by omega)
       have e5 := nq (a := N0 + 10) (b := M4) (by omega)
       have e6 := nq (a := N0 + 12) (b := M4 + 3) (by omega)
       have e7 := nq (a := N0 + 9) (b := M4) (by omega)
       have e8 := nq (a := M1 + 5) (b := M4 + 1) (by omega)
       have e9 := nq (a := M1 + 4) (b := M4) (by omega)
       have e10 := nq (a := M1 + 5) (b := M4 + 2) (by omega)
       have e11 := nq (a := M1 + 3) (b := M4) (by omega)
       have e12 := nq (a := M1 + 5) (b := M4 + 3) (by omega)
       have e13 := nq (a := M1 + 2) (b := M4) (by omega)
       simp -dsimp -implicitDefEqProofs (maxDischargeDepth := 6) [e0, e1, e2, e3, e4, e5, e6, e7, e8, e9, e10, e11, e12, e13]
       exact hK _ _ ⟨rfl, rfl⟩
      rintro a σ ⟨rfl, rfl⟩
      replace H := Option.some.inj H; subst H
      refine AWP_kp [2] [(2, .bool false)] rfl ?_
      have z53 := nq (a := N0 + 12) (b := M1 + 5) (by omega)
      have z54 := nq (a := N0 + 7) (b := M1) (by omega)
      have z55 := nq (a := N0 + 12) (b := M4 + 1) (by omega)
      have z56 := nq (a := N0 + 11) (b := M4) (by omega)
      have z57 := nq (a := N0 + 12) (b := M4 + 2) (by omega)
      have z58 := nq (a := N0 + 10) (b := M4) (by omega)
      have z59 := nq (a := N0 + 12) (b := M4 + 3) (by omega)
      have z60 := nq (a := N0 + 9) (b := M4) (by omega)
      have z61 := nq (a := M1 + 5) (b := M4 + 1) (by omega)
      have z62 := nq (a := M1 + 4) (b := M4) (by omega)
      have z63 := nq (a := M1 + 5) (b := M4 + 2) (by omega)
      have z64 := nq (a := M1 + 3) (b := M4) (by omega)
      have z65 := nq (a := M1 + 5) (b := M4 + 3) (by omega)
      have z66 := nq (a := M1 + 2) (b := M4) (by omega)
      refine AWP_ret ?_
      exact ⟨[.bool false], by simp [z53, z54, z55, z56, z57, z58, z59, z60, z61, z62, z63, z64, z65, z66], 4, by simp [encL_nil, z53, z54, z55, z56, z57, z58, z59, z60, z61, z62, z63, z64, z65, z66]⟩
     ·
      replace H := ifF C5 H
      refine AWP_skip ?_
      show K5 _ _
      refine keepE (l := [1, 4, 6, 8, 9]) (x := [(1, .fptr [.fsl (encL rMachine p0.Harts), .fsl (encL rBox p0.Boxes), .int .i64 p0.Turn, .int .i64 p0.Idle, .fsl (encL rI p0.Out)] 0), (4, .ptr (N0 + 12) 0 0), (6, .ptr (M1 + 5) 0 0), (8, .int .i64 r10.1), (9, .int .i64 r11)]) rfl fun a' ha => ?_
      refine hK5 _ _ ?_; rw [ha]
      refine Rc.mk ?_
      refine AWP_sq [1, 4, 6, 8] fun K6 hK6 => ?_
      refine AWP_sr tok [] [1, 4, 6, 8, 53] (fun a σ => a = [(1, .fptr [.fsl (encL rMachine p0.Harts), .fsl (encL rBox p0.Boxes), .int .i64 p0.Turn, .int .i64 p0.Idle, .fsl (encL rI p0.Out)] 0), (4, .ptr (N0 + 12) 0 0), (6, .ptr (M1 + 5) 0 0), (8, .int .i64 r10.1), (53, .bool (ine r11 r10.1))] ∧ σ = hp E0 [(N0 + 12, some ⟨48, 4, [[.fsl (encL rI r3.Out), .fsl (encL rL_I r3.Items), .fsl (encL rB r3.Ended), .bool r3.Rest]]⟩), (M1 + 5, some ⟨48, 4, [[.sl (M4 + 1) 0 r10.2.Out.length, .sl (M4 + 2) 0 r10.2.Items.length, .sl (M4 + 3) 0 r10.2.Ended.length, .bool r5.Rest]]⟩), (M4 + 1, some ⟨3, 1, encL rI r10.2.Out⟩), (M4 + 2, some ⟨22, 1, encL rL_I_o r10.2.Items⟩), (M4 + 3, some ⟨4, 1, encL rB r10.2.Ended⟩)] (M4 + 13)) (fun K hK => ?_) ?_
      ·
       skip
       have e0 := nq (a := N0 + 12) (b := M1 + 5) (by omega)
       have e1 := nq (a := N0 + 7) (b := M1) (by omega)
       have e2 := nq (a := N0 + 12) (b := M4 + 1) (by omega)
       have e3 := nq (a := N0 + 11) (b := M4) (by omega)
       have e4 := nq (a := N0 + 12) (b := M4 + 2) (by omega)
       have e5 := nq (a := N0 + 10) (b := M4) (by omega)
       have e6 := nq (a := N0 + 12) (b := M4 + 3) (by omega)
       have e7 := nq (a := N0 + 9) (b := M4) (by omega)
       have e8 := nq (a := M1 + 5) (b := M4 + 1) (by omega)
       have e9 := nq (a := M1 + 4) (b := M4) (by omega)
       have e10 := nq (a := M1 + 5) (b := M4 + 2) (by omega)
       have e11 := nq (a := M1 + 3) (b := M4) (by omega)
       have e12 := nq (a := M1 + 5) (b := M4 + 3) (by omega)
       have e13 := nq (a := M1 + 2) (b := M4) (by omega)
       simp -dsimp -implicitDefEqProofs (maxDischargeDepth := 6) [e0, e1, e2, e3, e4, e5, e6, e7, e8, e9, e10, e11, e12, e13]
       exact hK _ _ ⟨rfl, rfl⟩
      rintro a σ ⟨rfl, rfl⟩
      refine AWP_cond (ine r11 r10.1) rfl (fun C6 => ?_) (fun C6 => ?_)
      ·
       replace H := ifT C6 H
       refine AWP_sr tok [] [2] (fun a σ => a = [(2, .bool false)] ∧ σ = hp E0 [(N0 + 12, some ⟨48, 4, [[.fsl (encL rI r3.Out), .fsl (encL rL_I r3.Items), .fsl (encL rB r3.Ended), .bool r3.Rest]]⟩), (M1 + 5, some ⟨48, 4, [[.sl (M4 + 1) 0 r10.2.Out.length, .sl (M4 + 2) 0 r10.2.Items.length, .sl (M4 + 3) 0 r10.2.Ended.length, .bool r5.Rest]]⟩), (M4 + 1, some ⟨3, 1, encL rI r10.2.Out⟩), (M4 + 2, some ⟨22, 1, encL rL_I_o r10.2.Items⟩), (M4 + 3, some ⟨4, 1, encL rB r10.2.Ended⟩)] (M4 + 14)) (fun K hK => ?_) ?_
       ·
        skip
        have e0 := nq (a := N0 + 12) (b := M1 + 5) (by omega)
        have e1 := nq (a := N0 + 7) (b := M1) (by omega)
        have e2 := nq (a := N0 + 12) (b := M4 + 1) (by omega)
        have e3 := nq (a := N0 + 11) (b := M4) (by omega)
        have e4 := nq (a := N0 + 12) (b := M4 + 2) (by omega)
        have e5 := nq (a := N0 + 10) (b := M4) (by omega)
        have e6 := nq (a := N0 + 12) (b := M4 + 3) (by omega)
        have e7 := nq (a := N0 + 9) (b := M4) (by omega)
        have e8 := nq (a := M1 + 5) (b := M4 + 1) (by omega)
        have e9 := nq (a := M1 + 4) (b := M4) (by omega)
        have e10 := nq (a := M1 + 5) (b := M4 + 2) (by omega)
        have e11 := nq (a := M1 + 3) (b := M4) (by omega)
        have e12 := nq (a := M1 + 5) (b := M4 + 3) (by omega)
        have e13 := nq (a := M1 + 2) (b := M4) (by omega)
        simp -dsimp -implicitDefEqProofs (maxDischargeDepth := 6) [e0, e1, e2, e3, e4, e5, e6, e7, e8, e9, e10, e11, e12, e13]
        exact hK _ _ ⟨rfl, rfl⟩
       rintro a σ ⟨rfl, rfl⟩
       replace H := Option.some.inj H; subst H
       refine AWP_kp [2] [(2, .bool false)] rfl ?_
       have z67 := nq (a := N0 + 12) (b := M1 + 5) (by omega)
       have z68 := nq (a := N0 + 7) (b := M1) (by omega)
       have z69 := nq (a := N0 + 12) (b := M4 + 1) (by omega)
       have z70 := nq (a := N0 + 11) (b := M4) (by omega)
       have z71 := nq (a := N0 + 12) (b := M4 + 2) (by omega)
       have z72 := nq (a := N0 + 10) (b := M4) (by omega)
       have z73 := nq (a := N0 + 12) (b := M4 + 3) (by omega)
       have z74 := nq (a := N0 + 9) (b := M4) (by omega)
       have z75 := nq (a := M1 + 5) (b := M4 + 1) (by omega)
       have z76 := nq (a := M1 + 4) (b := M4) (by omega)
       have z77 := nq (a := M1 + 5) (b := M4 + 2) (by omega)
       have z78 := nq (a := M1 + 3) (b := M4) (by omega)
       have z79 := nq (a := M1 + 5) (b := M4 + 3) (by omega)
       have z80 := nq (a := M1 + 2) (b := M4) (by omega)
       refine AWP_ret ?_
       exact ⟨[.bool false], by simp [z67, z68, z69, z70, z71, z72, z73, z74, z75, z76, z77, z78, z79, z80], 4, by simp [encL_nil, z67, z68, z69, z70, z71, z72, z73, z74, z75, z76, z77, z78, z79, z80]⟩
      ·
       replace H := ifF C6 H
       refine AWP_skip ?_
       show K6 _ _
       refine keepE (l := [1, 4, 6, 8]) (x := [(1, .fptr [.fsl (encL rMachine p0.Harts), .fsl (encL rBox p0.Boxes), .int .i64 p0.Turn, .int .i64 p0.Idle, .fsl (encL rI p0.Out)] 0), (4, .ptr (N0 + 12) 0 0), (6, .ptr (M1 + 5) 0 0), (8, .int .i64 r10.1)]) rfl fun a' ha => ?_
       refine hK6 _ _ ?_; rw [ha]
       refine Rc.mk ?_
       refine gPk AWP_ref (k := r10.2.Out.length) (o := (M1 + 5)) (ob := ⟨48, 4, [[.sl (M4 + 1) 0 r10.2.Out.length, .sl (M4 + 2) 0 r10.2.Items.length, .sl (M4 + 3) 0 r10.2.Ended.length, .bool r5.Rest]]⟩) (row := [.sl (M4 + 1) 0 r10.2.Out.length, .sl (M4 + 2) 0 r10.2.Items.length, .sl (M4 + 3) 0 r10.2.Ended.length, .bool r5.Rest]) (d := (M4 + 1)) (obd := ⟨3, 1, encL rI r10.2.Out⟩) (r := 0) (i := 0) [(N0 + 12, some ⟨48, 4, [[.fsl (encL rI r3.Out), .fsl (encL rL_I r3.Items), .fsl (encL rB r3.Ended), .bool r3.Rest]]⟩), (M1 + 5, some ⟨48, 4, [[.osl 3 1 (encL rI r10.2.Out), .sl (M4 + 2) 0 r10.2.Items.length, .sl (M4 + 3) 0 r10.2.Ended.length, .bool r5.Rest]]⟩), (M4 + 2, some ⟨22, 1, encL rL_I_o r10.2.Items⟩), (M4 + 3, some ⟨4, 1, encL rB r10.2.Ended⟩)] (by simp (disch := omega)) rfl rfl (by simp (disch := omega)) (by simp (disch := omega)) (by first | omega | simp) (by simp (disch := omega) [List.set_set, app_set] <;> omega) (by simp (disch := omega) [List.set_set, app_set]) ?_
       refine gPk AWP_ref (k := r10.2.Items.length) (o := (M1 + 5)) (ob := ⟨48, 4, [[.osl 3 1 (encL rI r10.2.Out), .sl (M4 + 2) 0 r10.2.Items.length, .sl (M4 + 3) 0 r10.2.Ended.length, .bool r5.Rest]]⟩) (row := [.osl 3 1 (encL rI r10.2.Out), .sl (M4 + 2) 0 r10.2.Items.length, .sl (M4 + 3) 0 r10.2.Ended.length, .bool r5.Rest]) (d := (M4 + 2)) (obd := ⟨22, 1, encL rL_I_o r10.2.Items⟩) (r := 0) (i := 1) [(N0 + 12, some ⟨48, 4, [[.fsl (encL rI r3.Out), .fsl (encL rL_I r3.Items), .fsl (encL rB r3.Ended), .bool r3.Rest]]⟩), (M1 + 5, some ⟨48, 4, [[.osl 3 1 (encL rI r10.2.Out), .osl 22 1 (encL rL_I_o r10.2.Items), .sl (M4 + 3) 0 r10.2.Ended.length, .bool r5.Rest]]⟩), (M4 + 3, some ⟨4, 1, encL rB r10.2.Ended⟩)] (by simp (disch := omega)) rfl rfl (by simp (disch := omega)) (by simp (disch := omega)) (by first | omega | simp) (by simp (disch := omega) [List.set_set, app_set] <;> omega) (by simp (disch := omega) [List.set_set, app_set]) ?_
       refine gPk AWP_ref (k := r10.2.Ended.length) (o := (M1 + 5)) (ob := ⟨48, 4, [[.osl 3 1 (encL rI r10.2.Out), .osl 22 1 (encL rL_I_o r10.2.Items), .sl (M4 + 3) 0 r10.2.Ended.length, .bool r5.Rest]]⟩) (row := [.osl 3 1 (encL rI r10.2.Out), .osl 22 1 (encL rL_I_o r10.2.Items), .sl (M4 + 3) 0 r10.2.Ended.length, .bool r5.Rest]) (d := (M4 + 3)) (obd := ⟨4, 1, encL rB r10.2.Ended⟩) (r := 0) (i := 2) [(N0 + 12, some ⟨48, 4, [[.fsl (encL rI r3.Out), .fsl (encL rL_I r3.Items), .fsl (encL rB r3.Ended), .bool r3.Rest]]⟩), (M1 + 5, some ⟨48, 4, [[.osl 3 1 (encL rI r10.2.Out), .osl 22 1 (encL rL_I_o r10.2.Items), .osl 4 1 (encL rB r10.2.Ended), .bool r5.Rest]]⟩)] (by simp (disch := omega)) rfl rfl (by simp (disch := omega)) (by simp (disch := omega)) (by first | omega | simp) (by simp (disch := omega) [List.set_set, app_set] <;> omega) (by simp (disch := omega) [List.set_set, app_set]) ?_
       obtain ⟨r12, hr12, H⟩ := bindE H
       refine AWP_sr tok [] [4, 6, 8, 10] (fun a σ => a = [(4, .ptr (N0 + 12) 0 0), (6, .ptr (M1 + 5) 0 0), (8, .int .i64 r10.1), (10, .ptr (M4 + 16) 0 0)] ∧ σ = hp E0 [(N0 + 12, some ⟨48, 4, [[.fsl (encL rI r3.Out), .fsl (encL rL_I r3.Items), .fsl (encL rB r3.Ended), .bool r3.Rest]]⟩), (M1 + 5, some ⟨48, 4, [[.osl 3 1 (encL rI r10.2.Out), .osl 22 1 (encL rL_I_o r10.2.Items), .osl 4 1 (encL rB r10.2.Ended), .bool r5.Rest]]⟩), (M4 + 16, some ⟨48, 4, [[.fsl (encL rI r12.Out), .fsl (encL rL_I r12.Items), .fsl (encL rB r12.Ended), .bool r12.Rest]]⟩)] (M4 + 18)) (fun K hK => ?_) ?_
       ·
        skip
        have e0 := nq (a := N0 + 12) (b := M1 + 5) (by omega)
        have e1 := nq (a := N0 + 7) (b := M1) (by omega)
        have e2 := nq (a := N0 + 12) (b := M4 + 16) (by omega)
        have e3 := nq (a := N0) (b := M4 + 4) (by omega)
        have e4 := nq (a := M1 + 5) (b := M4 + 16) (by omega)
        have e5 := nq (a := M1) (b := M4 + 11) (by omega)
        simp -dsimp -implicitDefEqProofs (maxDischargeDepth := 6) [e0, e1, e2, e3, e4, e5]
        refine (c25 hr2).app ?_; try simp -dsimp -implicitDefEqProofs (maxDischargeDepth := 6) [e0, e1, e2, e3, e4, e5]
        refine (c26 hr12).app ?_; try simp -dsimp -implicitDefEqProofs (maxDischargeDepth := 6) [e0, e1, e2, e3, e4, e5]
        exact hK _ _ ⟨rfl, rfl⟩
       rintro a σ ⟨rfl, rfl⟩
       refine AWP_sq [6, 8] fun K7 hK7 => ?_
       obtain ⟨r13, hr13, H⟩ := bindE H
       refine AWP_sr tok [] [6, 8, 60] (fun a σ => a = [(6, .ptr (M1 + 5) 0 0), (8, .int .i64 r10.1), (60, .bool (bnot r13))] ∧ σ = hp E0 [(N0 + 12, some ⟨48, 4, [[.fsl (encL rI r3.Out), .fsl (encL rL_I r3.Items), .fsl (encL rB r3.Ended), .bool r3.Rest]]⟩), (M1 + 5, some ⟨48, 4, [[.osl 3 1 (encL rI r10.2.Out), .osl 22 1 (encL rL_I_o r10.2.Items), .osl 4 1 (encL rB r10.2.Ended), .bool r5.Rest]]⟩), (M4 + 16, some ⟨48, 4, [[.fsl (encL rI r12.Out), .fsl (encL rL_I r12.Items), .fsl (encL rB r12.Ended), .bool r12.Rest]]⟩)] (M4 + 22)) (fun K hK => ?_) ?_
       ·
        skip
        have e0 := nq (a := N0 + 12) (b := M1 + 5) (by omega)
        have e1 := nq (a := N0 + 7) (b := M1) (by omega)
        have e2 := nq (a := N0 + 12) (b := M4 + 16) (by omega)
        have e3 := nq (a := N0) (b := M4 + 4) (by omega)
        have e4 := nq (a := M1 + 5) (b := M4 + 16) (by omega)
        have e5 := nq (a := M1) (b := M4 + 11) (by omega)
        simp -dsimp -implicitDefEqProofs (maxDischargeDepth := 6) [e0, e1, e2, e3, e4, e5]
        refine (c27 hr13).app ?_; try simp -dsimp -implicitDefEqProofs (maxDischargeDepth := 6) [e0, e1, e2, e3, e4, e5]
        exact hK _ _ ⟨rfl, rfl⟩
       rintro a σ ⟨rfl, rfl⟩
       refine AWP_cond (bnot r13) rfl (fun C7 => ?_) (fun C7 => ?_)
       ·
        replace H := ifT C7 H
        refine AWP_sr tok [] [2] (fun a σ => a = [(2, .bool false)] ∧ σ = hp E0 [(N0 + 12, some ⟨48, 4, [[.fsl (encL rI r3.Out), .fsl (encL rL_I r3.Items), .fsl (encL rB r3.Ended), .bool r3.Rest]]⟩), (M1 + 5, some ⟨48, 4, [[.osl 3 1 (encL rI r10.2.Out), .osl 22 1 (encL rL_I_o r10.2.Items), .osl 4 1 (encL rB r10.2.Ended), .bool r5.Rest]]⟩), (M4 + 16, some ⟨48, 4, [[.fsl (encL rI r12.Out), .fsl (encL rL_I r12.Items), .fsl (encL rB r12.Ended), .bool r12.Rest]]⟩)] (M4 + 23)) (fun K hK => ?_) ?_
        ·
         skip
         have e0 := nq (a := N0 + 12) (b := M1 + 5) (by omega)
         have e1 := nq (a := N0 + 7) (b := M1) (by omega)
         have e2 := nq (a := N0 + 12) (b := M4 + 16) (by omega)
         have e3 := nq (a := N0) (b := M4 + 4) (by omega)
         have e4 := nq (a := M1 + 5) (b := M4 + 16) (by omega)
         have e5 := nq (a := M1) (b := M4 + 11) (by omega)
         simp -dsimp -implicitDefEqProofs (maxDischargeDepth := 6) [e0, e1, e2, e3, e4, e5]
         exact hK _ _ ⟨rfl, rfl⟩
        rintro a σ ⟨rfl, rfl⟩
        replace H := Option.some.inj H; subst H
        refine AWP_kp [2] [(2, .bool false)] rfl ?_
        have z81 := nq (a := N0 + 12) (b := M1 + 5) (by omega)
        have z82 := nq (a := N0 + 7) (b := M1) (by omega)
        have z83 := nq (a := N0 + 12) (b := M4 + 16) (by omega)
        have z84 := nq (a := N0) (b := M4 + 4) (by omega)
        have z85 := nq (a := M1 + 5) (b := M4 + 16) (by omega)
        have z86 := nq (a := M1) (b := M4 + 11) (by omega)
        refine AWP_ret ?_
        exact ⟨[.bool false], by simp [z81, z82, z83, z84, z85, z86], 4, by simp [encL_nil, z81, z82, z83, z84, z85, z86]⟩
       ·
        replace H := ifF C7 H
        refine AWP_skip ?_
        show K7 _ _
        refine keepE (l := [6, 8]) (x := [(6, .ptr (M1 + 5) 0 0), (8, .int .i64 r10.1)]) rfl fun a' ha => ?_
        refine hK7 _ _ ?_; rw [ha]
        refine Rc.mk ?_
        refine AWP_sr tok [] [6, 8, 9] (fun a σ => a = [(6, .ptr (M1 + 5) 0 0), (8, .int .i64 r10.1), (9, .int .i64 1)] ∧ σ = hp E0 [(N0 + 12, some ⟨48, 4, [[.fsl (encL rI r3.Out), .fsl (encL rL_I r3.Items), .fsl (encL rB r3.Ended), .bool r3.Rest]]⟩), (M1 + 5, some ⟨48, 4, [[.osl 3 1 (encL rI r10.2.Out), .osl 22 1 (encL rL_I_o r10.2.Items), .osl 4 1 (encL rB r10.2.Ended), .bool r5.Rest]]⟩), (M4 + 16, some ⟨48, 4, [[.fsl (encL rI r12.Out), .fsl (encL rL_I r12.Items), .fsl (encL rB r12.Ended), .bool r12.Rest]]⟩)] (M4 + 23)) (fun K hK => ?_) ?_
        ·
         skip
         have e0 := nq (a := N0 + 12) (b := M1 + 5) (by omega)
         have e1 := nq (a := N0 + 7) (b := M1) (by omega)
         have e2 := nq (a := N0 + 12) (b := M4 + 16) (by omega)
         have e3 := nq (a := N0) (b := M4 + 4) (by omega)
         have e4 := nq (a := M1 + 5) (b := M4 + 16) (by omega)
         have e5 := nq (a := M1) (b := M4 + 11) (by omega)
         simp -dsimp -implicitDefEqProofs (maxDischargeDepth := 6) [e0, e1, e2, e3, e4, e5]
         exact hK _ _ ⟨rfl, rfl⟩
        rintro a σ ⟨rfl, rfl⟩
        refine gUnp AWP_ref (ty := 3) (sz := 1) (es := encL rI r10.2.Out) (o := (M1 + 5)) (ob := ⟨48, 4, [[.osl 3 1 (encL rI r10.2.Out), .osl 22 1 (encL rL_I_o r10.2.Items), .osl 4 1 (encL rB r10.2.Ended), .bool r5.Rest]]⟩) (row := [.osl 3 1 (encL rI r10.2.Out), .osl 22 1 (encL rL_I_o r10.2.Items), .osl 4 1 (encL rB r10.2.Ended), .bool r5.Rest]) (r := 0) (i := 0) [(N0 + 12, some ⟨48, 4, [[.fsl (encL rI r3.Out), .fsl (encL rL_I r3.Items), .fsl (encL rB r3.Ended), .bool r3.Rest]]⟩), (M1 + 5, some ⟨48, 4, [[.sl (M4 + 23) 0 r10.2.Out.length, .osl 22 1 (encL rL_I_o r10.2.Items), .osl 4 1 (encL rB r10.2.Ended), .bool r5.Rest]]⟩), (M4 + 16, some ⟨48, 4, [[.fsl (encL rI r12.Out), .fsl (encL rL_I r12.Items), .fsl (encL rB r12.Ended), .bool r12.Rest]]⟩), (M4 + 23, some ⟨3, 1, encL rI r10.2.Out⟩)] (by simp (disch := omega)) rfl rfl (by simp (disch := omega) [List.set_set]) ?_
        refine gUnp AWP_ref (ty := 22) (sz := 1) (es := encL rL_I_o r10.2.Items) (o := (M1 + 5)) (ob := ⟨48, 4, [[.sl (M4 + 23) 0 r10.2.Out.length, .osl 22 1 (encL rL_I_o r10.2.Items), .osl 4 1 (encL rB r10.2.Ended), .bool r5.Rest]]⟩) (row := [.sl (M4 + 23) 0 r10.2.Out.length, .osl 22 1 (encL rL_I_o r10.2.Items), .osl 4 1 (encL rB r10.2.Ended), .bool r5.Rest]) (r := 0) (i := 1) [(N0 + 12, some ⟨48, 4, [[.fsl (encL rI r3.Out), .fsl (encL rL_I r3.Items), .fsl (encL rB r3.Ended), .bool r3.Rest]]⟩), (M1 + 5, some ⟨48, 4, [[.sl (M4 + 23) 0 r10.2.Out.length, .sl (M4 + 24) 0 r10.2.Items.length, .osl 4 1 (encL rB r10.2.Ended), .bool r5.Rest]]⟩), (M4 + 16, some ⟨48, 4, [[.fsl (encL rI r12.Out), .fsl (encL rL_I r12.Items), .fsl (encL rB r12.Ended), .bool r12.Rest]]⟩), (M4 + 23, some ⟨3, 1, encL rI r10.2.Out⟩), (M4 + 24, some ⟨22, 1, encL rL_I_o r10.2.Items⟩)] (by simp (disch := omega)) rfl rfl (by simp (disch := omega) [List.set_set]) ?_
        refine gUnp AWP_ref (ty := 4) (sz := 1) (es := encL rB r10.2.Ended) (o := (M1 + 5)) (ob := ⟨48, 4, [[.sl (M4 + 23) 0 r10.2.Out.length, .sl (M4 + 24) 0 r10.2.Items.length, .osl 4 1 (encL rB r10.2.Ended), .bool r5.Rest]]⟩) (row := [.sl (M4 + 23) 0 r10.2.Out.length, .sl (M4 + 24) 0 r10.2.Items.length, .osl 4 1 (encL rB r10.2.Ended), .bool r5.Rest]) (r := 0) (i := 2) [(N0 + 12, some ⟨48, 4, [[.fsl (encL rI r3.Out), .fsl (encL rL_I r3.Items), .fsl (encL rB r3.Ended), .bool r3.Rest]]⟩), (M1 + 5, some ⟨48, 4, [[.sl (M4 + 23) 0 r10.2.Out.length, .sl (M4 + 24) 0 r10.2.Items.length, .sl (M4 + 25) 0 r10.2.Ended.length, .bool r5.Rest]]⟩), (M4 + 16, some ⟨48, 4, [[.fsl (encL rI r12.Out), .fsl (encL rL_I r12.Items), .fsl (encL rB r12.Ended), .bool r12.Rest]]⟩), (M4 + 23, some ⟨3, 1, encL rI r10.2.Out⟩), (M4 + 24, some ⟨22, 1, encL rL_I_o r10.2.Items⟩), (M4 + 25, some ⟨4, 1, encL rB r10.2.Ended⟩)] (by simp (disch := omega)) rfl rfl (by simp (disch := omega) [List.set_set]) ?_
        refine AWP_sr tok [] [8, 9] (fun a σ => a = [(8, .int .i64 r10.1), (9, .int .i64 r11)] ∧ σ = hp E0 [(N0 + 12, some ⟨48, 4, [[.fsl (encL rI r3.Out), .fsl (encL rL_I r3.Items), .fsl (encL rB r3.Ended), .bool r3.Rest]]⟩), (M1 + 5, some ⟨48, 4, [[.sl (M4 + 23) 0 r10.2.Out.length, .sl (M4 + 24) 0 r10.2.Items.length, .sl (M4 + 25) 0 r10.2.Ended.length, .bool r5.Rest]]⟩), (M4 + 16, some ⟨48, 4, [[.fsl (encL rI r12.Out), .fsl (encL rL_I r12.Items), .fsl (encL rB r12.Ended), .bool r12.Rest]]⟩), (M4 + 23, some ⟨3, 1, encL rI r10.2.Out⟩), (M4 + 24, some ⟨22, 1, encL rL_I_o r10.2.Items⟩), (M4 + 25, some ⟨4, 1, encL rB r10.2.Ended⟩)] (M4 + 30)) (fun K hK => ?_) ?_
        ·
         skip
         have e0 := nq (a := N0 + 12) (b := M1 + 5) (by omega)
         have e1 := nq (a := N0 + 7) (b := M1) (by omega)
         have e2 := nq (a := N0 + 12) (b := M4 + 16) (by omega)
         have e3 := nq (a := N0) (b := M4 + 4) (by omega)
         have e4 := nq (a := N0 + 12) (b := M4 + 23) (by omega)
         have e5 := nq (a := N0) (b := M4 + 11) (by omega)
         have e6 := nq (a := N0 + 12) (b := M4 + 24) (by omega)
         have e7 := nq (a := N0) (b := M4 + 12) (by omega)
         have e8 := nq (a := N0 + 12) (b := M4 + 25) (by omega)
         have e9 := nq (a := N0) (b := M4 + 13) (by omega)
         have e10 := nq (a := M1 + 5) (b := M4 + 16) (by omega)
         have e11 := nq (a := M1) (b := M4 + 11) (by omega)
         have e12 := nq (a := M1 + 5) (b := M4 + 23) (by omega)
         have e13 := nq (a := M1) (b := M4 + 18) (by omega)
         have e14 := nq (a := M1 + 5) (b := M4 + 24) (by omega)
         have e15 := nq (a := M1) (b := M4 + 19) (by omega)
         have e16 := nq (a := M1 + 5) (b := M4 + 25) (by omega)
         have e17 := nq (a := M1) (b := M4 + 20) (by omega)
         simp -dsimp -implicitDefEqProofs (maxDischargeDepth := 6) [e0, e1, e2, e3, e4, e5, e6, e7, e8, e9, e10, e11, e12, e13, e14, e15, e16, e17]
         refine (borrow 8 (c31 hr11) (by simp [e0, e1, e2, e3, e4, e5, e6, e7, e8, e9, e10, e11, e12, e13, e14, e15, e16, e17]) rfl).mono ?_; rintro _ _ ⟨rfl, rfl⟩; try simp -dsimp -implicitDefEqProofs (maxDischargeDepth := 6) [e0, e1, e2, e3, e4, e5, e6, e7, e8, e9, e10, e11, e12, e13, e14, e15, e16, e17]
         exact hK _ _ ⟨rfl, rfl⟩
        rintro a σ ⟨rfl, rfl⟩
        refine AWP_sq [8, 9] fun K8 hK8 => ?_
        refine AWP_sr tok [] [8, 9, 65] (fun a σ => a = [(8, .int .i64 r10.1), (9, .int .i64 r11), (65, .bool (ilt r11 0))] ∧ σ = hp E0 [(N0 + 12, some ⟨48, 4, [[.fsl (encL rI r3.Out), .fsl (encL rL_I r3.Items), .fsl (encL rB r3.Ended), .bool r3.Rest]]⟩), (M1 + 5, some ⟨48, 4, [[.sl (M4 + 23) 0 r10.2.Out.length, .sl (M4 + 24) 0 r10.2.Items.length, .sl (M4 + 25) 0 r10.2.Ended.length, .bool r5.Rest]]⟩), (M4 + 16, some ⟨48, 4, [[.fsl (encL rI r12.Out), .fsl (encL rL_I r12.Items), .fsl (encL rB r12.Ended), .bool r12.Rest]]⟩), (M4 + 23, some ⟨3, 1, encL rI r10.2.Out⟩), (M4 + 24, some ⟨22, 1, encL rL_I_o r10.2.Items⟩), (M4 + 25, some ⟨4, 1, encL rB r10.2.Ended⟩)] (M4 + 32)) (fun K hK => ?_) ?_
        ·
         skip
         have e0 := nq (a := N0 + 12) (b := M1 + 5) (by omega)
         have e1 := nq (a := N0 + 7) (b := M1) (by omega)
         have e2 := nq (a := N0 + 12) (b := M4 + 16) (by omega)
         have e3 := nq (a := N0) (b := M4 + 4) (by omega)
         have e4 := nq (a := N0 + 12) (b := M4 + 23) (by omega)
         have e5 := nq (a := N0) (b := M4 + 11) (by omega)
         have e6 := nq (a := N0 + 12) (b := M4 + 24) (by omega)
         have e7 := nq (a := N0) (b := M4 + 12) (by omega)
         have e8 := nq (a := N0 + 12) (b := M4 + 25) (by omega)
         have e9 := nq (a := N0) (b := M4 + 13) (by omega)
         have e10 := nq (a := M1 + 5) (b := M4 + 16) (by omega)
         have e11 := nq (a := M1) (b := M4 + 11) (by omega)
         have e12 := nq (a := M1 + 5) (b := M4 + 23) (by omega)
         have e13 := nq (a := M1) (b := M4 + 18) (by omega)
         have e14 := nq (a := M1 + 5) (b := M4 + 24) (by omega)
         have e15 := nq (a := M1) (b := M4 + 19) (by omega)
         have e16 := nq (a := M1 + 5) (b := M4 + 25) (by omega)
         have e17 := nq (a := M1) (b := M4 + 20) (by omega)
         simp -dsimp -implicitDefEqProofs (maxDischargeDepth := 6) [e0, e1, e2, e3, e4, e5, e6, e7, e8, e9, e10, e11, e12, e13, e14, e15, e16, e17]
         exact hK _ _ ⟨rfl, rfl⟩
        rintro a σ ⟨rfl, rfl⟩
        refine AWP_cond (ilt r11 0) rfl (fun C8 => ?_) (fun C8 => ?_)
        ·
         replace H := ifT C8 H
         refine AWP_sr tok [] [2] (fun a σ => a = [(2, .bool false)] ∧ σ = hp E0 [(N0 + 12, some ⟨48, 4, [[.fsl (encL rI r3.Out), .fsl (encL rL_I r3.Items), .fsl (encL rB r3.Ended), .bool r3.Rest]]⟩), (M1 + 5, some ⟨48, 4, [[.sl (M4 + 23) 0 r10.2.Out.length, .sl (M4 + 24) 0 r10.2.Items.length, .sl (M4 + 25) 0 r10.2.Ended.length, .bool r5.Rest]]⟩), (M4 + 16, some ⟨48, 4, [[.fsl (encL rI r12.Out), .fsl (encL rL_I r12.Items), .fsl (encL rB r12.Ended), .bool r12.Rest]]⟩), (M4 + 23, some ⟨3, 1, encL rI r10.2.Out⟩), (M4 + 24, some ⟨22, 1, encL rL_I_o r10.2.Items⟩), (M4 + 25, some ⟨4, 1, encL rB r10.2.Ended⟩)] (M4 + 33)) (fun K hK => ?_) ?_
         ·
          skip
          have e0 := nq (a := N0 + 12) (b := M1 + 5) (by omega)
          have e1 := nq (a := N0 + 7) (b := M1) (by omega)
          have e2 := nq (a := N0 + 12) (b := M4 + 16) (by omega)
          have e3 := nq (a := N0) (b := M4 + 4) (by omega)
          have e4 := nq (a := N0 + 12) (b := M4 + 23) (by omega)
          have e5 := nq (a := N0) (b := M4 + 11) (by omega)
          have e6 := nq (a := N0 + 12) (b := M4 + 24) (by omega)
          have e7 := nq (a := N0) (b := M4 + 12) (by omega)
          have e8 := nq (a := N0 + 12) (b := M4 + 25) (by omega)
          have e9 := nq (a := N0) (b := M4 + 13) (by omega)
          have e10 := nq (a := M1 + 5) (b := M4 + 16) (by omega)
          have e11 := nq (a := M1) (b := M4 + 11) (by omega)
          have e12 := nq (a := M1 + 5) (b := M4 + 23) (by omega)
          have e13 := nq (a := M1) (b := M4 + 18) (by omega)
          have e14 := nq (a := M1 + 5) (b := M4 + 24) (by omega)
          have e15 := nq (a := M1) (b := M4 + 19) (by omega)
          have e16 := nq (a := M1 + 5) (b := M4 + 25) (by omega)
          have e17 := nq (a := M1) (b := M4 + 20) (by omega)
          simp -dsimp -implicitDefEqProofs (maxDischargeDepth := 6) [e0, e1, e2, e3, e4, e5, e6, e7, e8, e9, e10, e11, e12, e13, e14, e15, e16, e17]
          exact hK _ _ ⟨rfl, rfl⟩
         rintro a σ ⟨rfl, rfl⟩
         replace H := Option.some.inj H; subst H
         refine AWP_kp [2] [(2, .bool false)] rfl ?_
         have z87 := nq (a := N0 + 12) (b := M1 + 5) (by omega)
         have z88 := nq (a := N0 + 7) (b := M1) (by omega)
         have z89 := nq (a := N0 + 12) (b := M4 + 16) (by omega)
         have z90 := nq (a := N0) (b := M4 + 4) (by omega)
         have z91 := nq (a := N0 + 12) (b := M4 + 23) (by omega)
         have z92 := nq (a := N0) (b := M4 + 11) (by omega)
         have z93 := nq (a := N0 + 12) (b := M4 + 24) (by omega)
         have z94 := nq (a := N0) (b := M4 + 12) (by omega)
         have z95 := nq (a := N0 + 12) (b := M4 + 25) (by omega)
         have z96 := nq (a := N0) (b := M4 + 13) (by omega)
         have z97 := nq (a := M1 + 5) (b := M4 + 16) (by omega)
         have z98 := nq (a := M1) (b := M4 + 11) (by omega)
         have z99 := nq (a := M1 + 5) (b := M4 + 23) (by omega)
         have z100 := nq (a := M1) (b := M4 + 18) (by omega)
         have z101 := nq (a := M1 + 5) (b := M4 + 24) (by omega)
         have z102 := nq (a := M1) (b := M4 + 19) (by omega)
         have z103 := nq (a := M1 + 5) (b := M4 + 25) (by omega)
         have z104 := nq (a := M1) (b := M4 + 20) (by omega)
         refine AWP_ret ?_
         exact ⟨[.bool false], by simp [z87, z88, z89, z90, z91, z92, z93, z94, z95, z96, z97, z98, z99, z100, z101, z102, z103, z104], 4, by simp [encL_nil, z87, z88, z89, z90, z91, z92, z93, z94, z95, z96, z97, z98, z99, z100, z101, z102, z103, z104]⟩
        ·
         replace H := ifF C8 H
         refine AWP_skip ?_
         show K8 _ _
         refine keepE (l := [8, 9]) (x := [(8, .int .i64 r10.1), (9, .int .i64 r11)]) rfl fun a' ha => ?_
         refine hK8 _ _ ?_; rw [ha]
         refine Rc.mk ?_
         refine AWP_sq [] fun K9 hK9 => ?_
         refine AWP_sr tok [] [68] (fun a σ => a = [(68, .bool (ine r11 r10.1))] ∧ σ = hp E0 [(N0 + 12, some ⟨48, 4, [[.fsl (encL rI r3.Out), .fsl (encL rL_I r3.Items), .fsl (encL rB r3.Ended), .bool r3.Rest]]⟩), (M1 + 5, some ⟨48, 4, [[.sl (M4 + 23) 0 r10.2.Out.length, .sl (M4 + 24) 0 r10.2.Items.length, .sl (M4 + 25) 0 r10.2.Ended.length, .bool r5.Rest]]⟩), (M4 + 16, some ⟨48, 4, [[.fsl (encL rI r12.Out), .fsl (encL rL_I r12.Items), .fsl (encL rB r12.Ended), .bool r12.Rest]]⟩), (M4 + 23, some ⟨3, 1, encL rI r10.2.Out⟩), (M4 + 24, some ⟨22, 1, encL rL_I_o r10.2.Items⟩), (M4 + 25, some ⟨4, 1, encL rB r10.2.Ended⟩)] (M4 + 35)) (fun K hK => ?_) ?_
         ·
          skip
          have e0 := nq (a := N0 + 12) (b := M1 + 5) (by omega)
          have e1 := nq (a := N0 + 7) (b := M1) (by omega)
          have e2 := nq (a := N0 + 12) (b := M4 + 16) (by omega)
          have e3 := nq (a := N0) (b := M4 + 4) (by omega)
          have e4 := nq (a := N0 + 12) (b := M4 + 23) (by omega)
          have e5 := nq (a := N0) (b := M4 + 11) (by omega)
          have e6 := nq (a := N0 + 12) (b := M4 + 24) (by omega)
          have e7 := nq (a := N0) (b := M4 + 12) (by omega)
          have e8 := nq (a := N0 + 12) (b := M4 + 25) (by omega)
          have e9 := nq (a := N0) (b := M4 + 13) (by omega)
          have e10 := nq (a := M1 + 5) (b := M4 + 16) (by omega)
          have e11 := nq (a := M1) (b := M4 + 11) (by omega)
          have e12 := nq (a := M1 + 5) (b := M4 + 23) (by omega)
          have e13 := nq (a := M1) (b := M4 + 18) (by omega)
          have e14 := nq (a := M1 + 5) (b := M4 + 24) (by omega)
          have e15 := nq (a := M1) (b := M4 + 19) (by omega)
          have e16 := nq (a := M1 + 5) (b := M4 + 25) (by omega)
          have e17 := nq (a := M1) (b := M4 + 20) (by omega)
          simp -dsimp -implicitDefEqProofs (maxDischargeDepth := 6) [e0, e1, e2, e3, e4, e5, e6, e7, e8, e9, e10, e11, e12, e13, e14, e15, e16, e17]
          exact hK _ _ ⟨rfl, rfl⟩
         rintro a σ ⟨rfl, rfl⟩
         refine AWP_cond (ine r11 r10.1) rfl (fun C9 => ?_) (fun C9 => ?_)
         ·
          replace H := ifT C9 H
          refine AWP_sr tok [] [2] (fun a σ => a = [(2, .bool false)] ∧ σ = hp E0 [(N0 + 12, some ⟨48, 4, [[.fsl (encL rI r3.Out), .fsl (encL rL_I r3.Items), .fsl (encL rB r3.Ended), .bool r3.Rest]]⟩), (M1 + 5, some ⟨48, 4, [[.sl (M4 + 23) 0 r10.2.Out.length, .sl (M4 + 24) 0 r10.2.Items.length, .sl (M4 + 25) 0 r10.2.Ended.length, .bool r5.Rest]]⟩), (M4 + 16, some ⟨48, 4, [[.fsl (encL rI r12.Out), .fsl (encL rL_I r12.Items), .fsl (encL rB r12.Ended), .bool r12.Rest]]⟩), (M4 + 23, some ⟨3, 1, encL rI r10.2.Out⟩), (M4 + 24, some ⟨22, 1, encL rL_I_o r10.2.Items⟩), (M4 + 25, some ⟨4, 1, encL rB r10.2.Ended⟩)] (M4 + 36)) (fun K hK => ?_) ?_
          ·
           skip
           have e0 := nq (a := N0 + 12) (b := M1 + 5) (by omega)
           have e1 := nq (a := N0 + 7) (b := M1) (by omega)
           have e2 := nq (a := N0 + 12) (b := M4 + 16) (by omega)
           have e3 := nq (a := N0) (b := M4 + 4) (by omega)
           have e4 := nq (a := N0 + 12) (b := M4 + 23) (by omega)
           have e5 := nq (a := N0) (b := M4 + 11) (by omega)
           have e6 := nq (a := N0 + 12) (b := M4 + 24) (by omega)
           have e7 := nq (a := N0) (b := M4 + 12) (by omega)
           have e8 := nq (a := N0 + 12) (b := M4 + 25) (by omega)
           have e9 := nq (a := N0) (b := M4 + 13) (by omega)
           have e10 := nq (a := M1 + 5) (b := M4 + 16) (by omega)
           have e11 := nq (a := M1) (b := M4 + 11) (by omega)
           have e12 := nq (a := M1 + 5) (b := M4 + 23) (by omega)
           have e13 := nq (a := M1) (b := M4 + 18) (by omega)
           have e14 := nq (a := M1 + 5) (b := M4 + 24) (by omega)
           have e15 := nq (a := M1) (b := M4 + 19) (by omega)
           have e16 := nq (a := M1 + 5) (b := M4 + 25) (by omega)
           have e17 := nq (a := M1) (b := M4 + 20) (by omega)
           simp -dsimp -implicitDefEqProofs (maxDischargeDepth := 6) [e0, e1, e2, e3, e4, e5, e6, e7, e8, e9, e10, e11, e12, e13, e14, e15, e16, e17]
           exact hK _ _ ⟨rfl, rfl⟩
          rintro a σ ⟨rfl, rfl⟩
          replace H := Option.some.inj H; subst H
          refine AWP_kp [2] [(2, .bool false)] rfl ?_
          have z105 := nq (a := N0 + 12) (b := M1 + 5) (by omega)
          have z106 := nq (a := N0 + 7) (b := M1) (by omega)
          have z107 := nq (a := N0 + 12) (b := M4 + 16) (by omega)
          have z108 := nq (a := N0) (b := M4 + 4) (by omega)
          have z109 := nq (a := N0 + 12) (b := M4 + 23) (by omega)
          have z110 := nq (a := N0) (b := M4 + 11) (by omega)
          have z111 := nq (a := N0 + 12) (b := M4 + 24) (by omega)
          have z112 := nq (a := N0) (b := M4 + 12) (by omega)
          have z113 := nq (a := N0 + 12) (b := M4 + 25) (by omega)
          have z114 := nq (a := N0) (b := M4 + 13) (by omega)
          have z115 := nq (a := M1 + 5) (b := M4 + 16) (by omega)
          have z116 := nq (a := M1) (b := M4 + 11) (by omega)
          have z117 := nq (a := M1 + 5) (b := M4 + 23) (by omega)
          have z118 := nq (a := M1) (b := M4 + 18) (by omega)
          have z119 := nq (a := M1 + 5) (b := M4 + 24) (by omega)
          have z120 := nq (a := M1) (b := M4 + 19) (by omega)
          have z121 := nq (a := M1 + 5) (b := M4 + 25) (by omega)
          have z122 := nq (a := M1) (b := M4 + 20) (by omega)
          refine AWP_ret ?_
          exact ⟨[.bool false], by simp [z105, z106, z107, z108, z109, z110, z111, z112, z113, z114, z115, z116, z117, z118, z119, z120, z121, z122], 4, by simp [encL_nil, z105, z106, z107, z108, z109, z110, z111, z112, z113, z114, z115, z116, z117, z118, z119, z120, z121, z122]⟩
         ·
          replace H := ifF C9 H
          refine AWP_skip ?_
          show K9 _ _
          refine keepE (l := []) (x := []) rfl fun a' ha => ?_
          refine hK9 _ _ ?_; rw [ha]
          refine Rc.mk ?_
          refine AWP_sr tok [] [2] (fun a σ => a = [(2, .bool true)] ∧ σ = hp E0 [(N0 + 12, some ⟨48, 4, [[.fsl (encL rI r3.Out), .fsl (encL rL_I r3.Items), .fsl (encL rB r3.Ended), .bool r3.Rest]]⟩), (M1 + 5, some ⟨48, 4, [[.sl (M4 + 23) 0 r10.2.Out.length, .sl (M4 + 24) 0 r10.2.Items.length, .sl (M4 + 25) 0 r10.2.Ended.length, .bool r5.Rest]]⟩), (M4 + 16, some ⟨48, 4, [[.fsl (encL rI r12.Out), .fsl (encL rL_I r12.Items), .fsl (encL rB r12.Ended), .bool r12.Rest]]⟩), (M4 + 23, some ⟨3, 1, encL rI r10.2.Out⟩), (M4 + 24, some ⟨22, 1, encL rL_I_o r10.2.Items⟩), (M4 + 25, some ⟨4, 1, encL rB r10.2.Ended⟩)] (M4 + 36)) (fun K hK => ?_) ?_
          ·
           skip
           have e0 := nq (a := N0 + 12) (b := M1 + 5) (by omega)
           have e1 := nq (a := N0 + 7) (b := M1) (by omega)
           have e2 := nq (a := N0 + 12) (b := M4 + 16) (by omega)
           have e3 := nq (a := N0) (b := M4 + 4) (by omega)
           have e4 := nq (a := N0 + 12) (b := M4 + 23) (by omega)
           have e5 := nq (a := N0) (b := M4 + 11) (by omega)
           have e6 := nq (a := N0 + 12) (b := M4 + 24) (by omega)
           have e7 := nq (a := N0) (b := M4 + 12) (by omega)
           have e8 := nq (a := N0 + 12) (b := M4 + 25) (by omega)
           have e9 := nq (a := N0) (b := M4 + 13) (by omega)
           have e10 := nq (a := M1 + 5) (b := M4 + 16) (by omega)
           have e11 := nq (a := M1) (b := M4 + 11) (by omega)
           have e12 := nq (a := M1 + 5) (b := M4 + 23) (by omega)
           have e13 := nq (a := M1) (b := M4 + 18) (by omega)
           have e14 := nq (a := M1 + 5) (b := M4 + 24) (by omega)
           have e15 := nq (a := M1) (b := M4 + 19) (by omega)
           have e16 := nq (a := M1 + 5) (b := M4 + 25) (by omega)
           have e17 := nq (a := M1) (b := M4 + 20) (by omega)
           simp -dsimp -implicitDefEqProofs (maxDischargeDepth := 6) [e0, e1, e2, e3, e4, e5, e6, e7, e8, e9, e10, e11, e12, e13, e14, e15, e16, e17]
           exact hK _ _ ⟨rfl, rfl⟩
          rintro a σ ⟨rfl, rfl⟩
          replace H := Option.some.inj H; subst H
          refine AWP_kp [2] [(2, .bool true)] rfl ?_
          have z123 := nq (a := N0 + 12) (b := M1 + 5) (by omega)
          have z124 := nq (a := N0 + 7) (b := M1) (by omega)
          have z125 := nq (a := N0 + 12) (b := M4 + 16) (by omega)
          have z126 := nq (a := N0) (b := M4 + 4) (by omega)
          have z127 := nq (a := N0 + 12) (b := M4 + 23) (by omega)
          have z128 := nq (a := N0) (b := M4 + 11) (by omega)
          have z129 := nq (a := N0 + 12) (b := M4 + 24) (by omega)
          have z130 := nq (a := N0) (b := M4 + 12) (by omega)
          have z131 := nq (a := N0 + 12) (b := M4 + 25) (by omega)
          have z132 := nq (a := N0) (b := M4 + 13) (by omega)
          have z133 := nq (a := M1 + 5) (b := M4 + 16) (by omega)
          have z134 := nq (a := M1) (b := M4 + 11) (by omega)
          have z135 := nq (a := M1 + 5) (b := M4 + 23) (by omega)
          have z136 := nq (a := M1) (b := M4 + 18) (by omega)
          have z137 := nq (a := M1 + 5) (b := M4 + 24) (by omega)
          have z138 := nq (a := M1) (b := M4 + 19) (by omega)
          have z139 := nq (a := M1 + 5) (b := M4 + 25) (by omega)
          have z140 := nq (a := M1) (b := M4 + 20) (by omega)
          refine AWP_ret ?_
          exact ⟨[.bool true], by simp [z123, z124, z125, z126, z127, z128, z129, z130, z131, z132, z133, z134, z135, z136, z137, z138, z139, z140], 4, by simp [encL_nil, z123, z124, z125, z126, z127, z128, z129, z130, z131, z132, z133, z134, z135, z136, z137, z138, z139, z140]⟩
end Go.Proofs.Ytoklfbdcghgmlaa
