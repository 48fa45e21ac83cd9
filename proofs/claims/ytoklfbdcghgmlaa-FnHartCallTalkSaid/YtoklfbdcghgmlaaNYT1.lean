/- The contracts of functions of the program, part 1: each computes what its mirror computes. No conditions. -/
import Derived.Test.YtoklfbdcghgmlaaNYT0
set_option linter.unusedSimpArgs false
set_option linter.unusedVariables false
set_option maxRecDepth 20000
set_option maxHeartbeats 4000000
namespace Go.Proofs.Ytoklfbdcghgmlaa
open Go Go.Abs Go.RowKit

theorem c79_o {p0 : (List Int)} {r : (List Int)} (H : slices_Clone_int_int_o p0 = some r) {σ : AHeap} : ACalls Try.prog G 79 [.fsl (encL rI p0)] σ (fun v σ' => ∃ M n0 : Nat, σ.next ≤ M ∧ σ.next ≤ n0 ∧ n0 < M ∧ v = .sl n0 0 r.length ∧ σ' = hp σ.objs [(n0, some ⟨3, 1, encL rI r⟩)] M) := by
 refine ACalls_fr (L := []) (Q1 := fun v σ' => ∃ M n0 : Nat, σ.next ≤ M ∧ σ.next ≤ n0 ∧ n0 < M ∧ v = .sl n0 0 r.length ∧ σ' = hp E0 [(n0, some ⟨3, 1, encL rI r⟩)] M) (by simp []) (fun hlt => ?_) ?_ ⟨_, Try.func79, rfl, rfl⟩
 rotate_left
 ·
  rintro v σ1 ⟨M, n0, h0, h1, h2, rfl, rfl⟩
  exact ⟨_, M, rfl, by simp, by simp; try omega, M, n0, h0, h1, h2, rfl, rfl⟩
 generalize σ.next = N0 at hlt ⊢
 refine ACalls_fn tok Try.func79 (by kernel_rfl) rfl Try.ntmps79 Try.results79 rfl ?_
 simp only [argsA, Nat.reduceAdd, hp_next]
 unfold slices_Clone_int_int_o at H
 refine AWP_sr tok [] [0] (fun a σ => a = [(0, .fsl (encL rI p0))] ∧ σ = hp E0 [] (N0 + 1)) (fun K hK => ?_) ?_
 ·
  skip
  simp -dsimp -implicitDefEqProofs (maxDischargeDepth := 6)
  exact hK _ _ ⟨rfl, rfl⟩
 rintro a σ ⟨rfl, rfl⟩
 refine AWP_sq [0] fun K1 hK1 => ?_
 refine AWP_isnil tok [4, 0] ([(0, .fsl (encL rI p0))]) rfl rfl (by decide) (by decide) (by decide) (fun _ => rfl) (fun n0 => ?_) ?_
 ·
  replace n0 : p0 = [] := encL_isnil n0
  replace H : (if true = true then   some ([] : List Int) else   (appx 8 ([] : List Int) p0).bind fun l2 =>   some l2 : Option ((List Int))) = some r := by simpa [n0, appx] using H
  refine AWP_cond true rfl (fun C2 => ?_) (fun C2 => ?_)
  ·
   replace H := ifT C2 H
   refine AWP_sr tok [] [2] (fun a σ => a = [(2, .nilsl)] ∧ σ = hp E0 [] (N0 + 2)) (fun K hK => ?_) ?_
   ·
    skip
    simp -dsimp -implicitDefEqProofs (maxDischargeDepth := 6)
    exact hK _ _ ⟨rfl, rfl⟩
   rintro a σ ⟨rfl, rfl⟩
   replace H := Option.some.inj H; subst H
   refine AWP_kp [2] [(2, .nilsl)] rfl ?_
   refine gNilS AWP_ref 2 3 1 [(N0 + 2, some ⟨3, 1, encL rI ([] : List Int)⟩)] [(2, .sl (N0 + 2) 0 ([] : List Int).length)] (by simp (disch := omega)) (by simp (disch := omega) [encL_nil]) [2] rfl ?_
   refine AWP_ret ?_
   refine ⟨[.sl (N0 + 2) 0 ([] : List Int).length], by simp, N0 + 3, N0 + 2, by omega, by omega, by omega, ?_, ?_⟩
   ·
    simp [encL_nil]
   ·
    first | rfl | simp [List.set_set]
  ·
   replace H := ifF C2 H
   refine AWP_skip ?_
   show K1 _ _
   refine keepE (l := [0]) (x := [(0, .fsl (encL rI p0))]) rfl fun a' ha => ?_
   refine hK1 _ _ ?_; rw [ha]
   refine Rc.mk ?_
   obtain ⟨l2, hl2, H⟩ := bindE H
   have q2 : ∀ σ i, buildSliceA T 22 true i 0 [] σ = some (.esl, σ) := fun _ _ => rfl
   refine AWP_sr tok [0] [2] (fun a σ => a = [(2, .sl (N0 + 3) 0 l2.length)] ∧ σ = hp E0 [(N0 + 3, some ⟨3, 1, encL rI l2⟩)] (N0 + 5)) (fun K hK => ?_) ?_
   ·
    skip
    simp -dsimp -implicitDefEqProofs (maxDischargeDepth := 6) [q2, appe22 hl2]
    exact hK _ _ ⟨rfl, rfl⟩
   rintro a σ ⟨rfl, rfl⟩
   replace H := Option.some.inj H; subst H
   refine AWP_kp [2] [(2, .sl (N0 + 3) 0 l2.length)] rfl ?_
   refine AWP_ret ?_
   refine ⟨[.sl (N0 + 3) 0 l2.length], by simp, N0 + 5, N0 + 3, by omega, by omega, by omega, ?_, ?_⟩
   ·
    simp [encL_nil]
   ·
    first | rfl | simp [List.set_set]
 ·
  refine AWP_cond false rfl (fun C1 => ?_) (fun C1 => ?_)
  ·
   replace H := ifT C1 H
   refine AWP_sr tok [] [2] (fun a σ => a = [(2, .nilsl)] ∧ σ = hp E0 [] (N0 + 2)) (fun K hK => ?_) ?_
   ·
    skip
    simp -dsimp -implicitDefEqProofs (maxDischargeDepth := 6)
    exact hK _ _ ⟨rfl, rfl⟩
   rintro a σ ⟨rfl, rfl⟩
   replace H := Option.some.inj H; subst H
   refine AWP_kp [2] [(2, .nilsl)] rfl ?_
   refine gNilS AWP_ref 2 3 1 [(N0 + 2, some ⟨3, 1, encL rI ([] : List Int)⟩)] [(2, .sl (N0 + 2) 0 ([] : List Int).length)] (by simp (disch := omega)) (by simp (disch := omega) [encL_nil]) [2] rfl ?_
   refine AWP_ret ?_
   refine ⟨[.sl (N0 + 2) 0 ([] : List Int).length], by simp, N0 + 3, N0 + 2, by omega, by omega, by omega, ?_, ?_⟩
   ·
    simp [encL_nil]
   ·
    first | rfl | simp [List.set_set]
  ·
   replace H := ifF C1 H
   refine AWP_skip ?_
   show K1 _ _
   refine keepE (l := [0]) (x := [(0, .fsl (encL rI p0))]) rfl fun a' ha => ?_
   refine hK1 _ _ ?_; rw [ha]
   refine Rc.mk ?_
   obtain ⟨l1, hl1, H⟩ := bindE H
   have q1 : ∀ σ i, buildSliceA T 22 true i 0 [] σ = some (.esl, σ) := fun _ _ => rfl
   refine AWP_sr tok [0] [2] (fun a σ => a = [(2, .sl (N0 + 3) 0 l1.length)] ∧ σ = hp E0 [(N0 + 3, some ⟨3, 1, encL rI l1⟩)] (N0 + 5)) (fun K hK => ?_) ?_
   ·
    skip
    simp -dsimp -implicitDefEqProofs (maxDischargeDepth := 6) [q1, appe22 hl1]
    exact hK _ _ ⟨rfl, rfl⟩
   rintro a σ ⟨rfl, rfl⟩
   replace H := Option.some.inj H; subst H
   refine AWP_kp [2] [(2, .sl (N0 + 3) 0 l1.length)] rfl ?_
   refine AWP_ret ?_
   refine ⟨[.sl (N0 + 3) 0 l1.length], by simp, N0 + 5, N0 + 3, by omega, by omega, by omega, ?_, ?_⟩
   ·
    simp [encL_nil]
   ·
    first | rfl | simp [List.set_set]
theorem c52_o {p0 : gMachine} {r : gMachine} (H : i_machineCopy_o p0 = some r) {σ : AHeap} : ACalls Try.prog G 52 [.agg [.fsl (encL rI p0.Regs), .int .i64 p0.Pc, .fsl (encL rI p0.Mem)]] σ (fun v σ' => ∃ M n0 : Nat, σ.next ≤ M ∧ σ.next ≤ n0 ∧ n0 < M ∧ v = .agg [.sl n0 0 r.Regs.length, .int .i64 r.Pc, .fsl (encL rI r.Mem)] ∧ σ' = hp σ.objs [(n0, some ⟨3, 1, encL rI r.Regs⟩)] M) := by
 refine ACalls_fr (L := []) (Q1 := fun v σ' => ∃ M n0 : Nat, σ.next ≤ M ∧ σ.next ≤ n0 ∧ n0 < M ∧ v = .agg [.sl n0 0 r.Regs.length, .int .i64 r.Pc, .fsl (encL rI r.Mem)] ∧ σ' = hp E0 [(n0, some ⟨3, 1, encL rI r.Regs⟩)] M) (by simp []) (fun hlt => ?_) ?_ ⟨_, Try.func52, rfl, rfl⟩
 rotate_left
 ·
  rintro v σ1 ⟨M, n0, h0, h1, h2, rfl, rfl⟩
  exact ⟨_, M, rfl, by simp, by simp; try omega, M, n0, h0, h1, h2, rfl, rfl⟩
 generalize σ.next = N0 at hlt ⊢
 refine ACalls_thaw 4 ?_
 refine ACalls_fn tok Try.func52 (by kernel_rfl) rfl Try.ntmps52 Try.results52 rfl ?_
 simp only [argsA, Nat.reduceAdd, hp_next]
 unfold i_machineCopy_o at H
 refine AWP_sr tok [0] [1, 2] (fun a σ => a = [(1, .fptr [.fsl (encL rI p0.Regs), .int .i64 p0.Pc, .fsl (encL rI p0.Mem)] 0), (2, .ptr (N0 + 1) 0 0)] ∧ σ = hp E0 [(N0 + 1, some ⟨28, 3, [[.nilsl, .int .i64 0, .nilsl]]⟩)] (N0 + 2)) (fun K hK => ?_) ?_
 ·
  skip
  simp -dsimp -implicitDefEqProofs (maxDischargeDepth := 6)
  exact hK _ _ ⟨rfl, rfl⟩
 rintro a σ ⟨rfl, rfl⟩
 refine gPk0 AWP_ref (o := (N0 + 1)) (ob := ⟨28, 3, [[.nilsl, .int .i64 0, .nilsl]]⟩) (row := [.nilsl, .int .i64 0, .nilsl]) (r := 0) (i := 0) 3 1 [(N0 + 1, some ⟨28, 3, [[.osl 3 1 (encL rI ([] : List Int)), .int .i64 0, .nilsl]]⟩)] (by simp (disch := omega)) rfl rfl (by simp (disch := omega)) (by simp (disch := omega) [encL_nil, List.set_set, app_set]) ?_
 refine gWkC AWP_ref (o := (N0 + 1)) (ob := ⟨28, 3, [[.osl 3 1 (encL rI ([] : List Int)), .int .i64 0, .nilsl]]⟩) (row := [.osl 3 1 (encL rI ([] : List Int)), .int .i64 0, .nilsl]) (r := 0) (i := 2) [(N0 + 1, some ⟨28, 3, [[.osl 3 1 (encL rI ([] : List Int)), .int .i64 0, .fsl []]]⟩)] (by simp (disch := omega)) rfl rfl (by simp (disch := omega)) (by simp (disch := omega) [encL_nil, List.set_set, app_set]) ?_
 obtain ⟨r1, hr1, H⟩ := bindE H
 obtain ⟨r2, hr2, H⟩ := bindE H
 refine AWP_sd tok tokM [] [2, 9] [0, 1, 3, 4, 5, 6, 2, 7, 8, 9] [2] (fun a σ => ∃ M1 o1 : Nat, N0 + 12 ≤ M1 ∧ N0 + 12 ≤ o1 ∧ o1 < M1 ∧ a = [(2, .ptr (N0 + 1) 0 0)] ∧ σ = hp E0 [(N0 + 1, some ⟨28, 3, [[.sl o1 0 r1.length, .int .i64 p0.Pc, .fsl (encL rI r2)]]⟩), (o1, some ⟨3, 1, encL rI r1⟩)] M1) (by decide) (fun K hK => ?_) ?_
 ·
  simp only [pickL, nthO_succ, nthO_zero]
  simp -dsimp -implicitDefEqProofs (maxDischargeDepth := 6)
  refine (c79_o (H := hr1) ).mono ?_; rintro _ _ ⟨M1, o1, fM1_0, fM1_1, fM1_2, rfl, rfl⟩; simp only [hp_next] at fM1_0 fM1_1 fM1_2
  have eM1_0 := nq (a := o1) (b := N0 + 1) (by omega)
  try simp -dsimp -implicitDefEqProofs (maxDischargeDepth := 6) [eM1_0, hp_over_some, hp_over_none]
  refine Pc.mk (c79 hr2) ?_; try simp -dsimp -implicitDefEqProofs (maxDischargeDepth := 6) [eM1_0, hp_over_some, hp_over_none]
  exact hK _ _ ⟨M1, o1, (by omega), (by omega), (by omega), rfl, rfl⟩
 rintro a σ ⟨M1, o1, fM1_0, fM1_1, fM1_2, rfl, rfl⟩
 replace H := Option.some.inj H; subst H
 refine AWP_kp [2] [(2, .ptr (N0 + 1) 0 0)] rfl ?_
 refine gPk AWP_ref (k := r1.length) (o := (N0 + 1)) (ob := ⟨28, 3, [[.sl o1 0 r1.length, .int .i64 p0.Pc, .fsl (encL rI r2)]]⟩) (row := [.sl o1 0 r1.length, .int .i64 p0.Pc, .fsl (encL rI r2)]) (d := o1) (obd := ⟨3, 1, encL rI r1⟩) (r := 0) (i := 0) [(N0 + 1, some ⟨28, 3, [[.osl 3 1 (encL rI r1), .int .i64 p0.Pc, .fsl (encL rI r2)]]⟩)] (by simp (disch := omega)) rfl rfl (by simp (disch := omega)) (by simp (disch := omega)) (by first | omega | simp) (by simp (disch := omega) [List.set_set, app_set] <;> omega) (by simp (disch := omega) [List.set_set, app_set]) ?_
 refine gUnp AWP_ref (ty := 3) (sz := 1) (es := encL rI r1) (o := (N0 + 1)) (ob := ⟨28, 3, [[.osl 3 1 (encL rI r1), .int .i64 p0.Pc, .fsl (encL rI r2)]]⟩) (row := [.osl 3 1 (encL rI r1), .int .i64 p0.Pc, .fsl (encL rI r2)]) (r := 0) (i := 0) [(N0 + 1, some ⟨28, 3, [[.sl M1 0 r1.length, .int .i64 p0.Pc, .fsl (encL rI r2)]]⟩), (M1, some ⟨3, 1, encL rI r1⟩)] (by simp (disch := omega)) rfl rfl (by simp (disch := omega) [List.set_set]) ?_
 have z0 := nq (a := N0 + 1) (b := M1) (by omega)
 refine AWP_ret ?_
 refine ⟨[.agg [.sl M1 0 r1.length, .int .i64 p0.Pc, .fsl (encL rI r2)]], by simp [z0], (fun o => [N0 + 1].contains o), M1 + 1, M1, by omega, by omega, by omega, ?_, ?_⟩
 ·
  simp [encL_nil, z0]
 ·
  rw [cutD (L' := [(M1, some ⟨3, 1, encL rI r1⟩)]) (by simp [z0])]
  first | done | rfl | simp [List.set_set]
theorem c53_o2 {p0 : (List gBox)} {r : (List gBox)} (H : i_boxesCopy_o2 p0 = some r) {σ : AHeap} : ACalls Try.prog G 53 [.fsl (encL rBox p0)] σ (fun v σ' => ∃ M n0 : Nat, σ.next ≤ M ∧ σ.next ≤ n0 ∧ n0 < M ∧ v = .sl n0 0 r.length ∧ σ' = hp σ.objs [(n0, some ⟨64, 2, encL rBox_o r⟩)] M) := by
 refine ACalls_fr (L := []) (Q1 := fun v σ' => ∃ M n0 : Nat, σ.next ≤ M ∧ σ.next ≤ n0 ∧ n0 < M ∧ v = .sl n0 0 r.length ∧ σ' = hp E0 [(n0, some ⟨64, 2, encL rBox_o r⟩)] M) (by simp []) (fun hlt => ?_) ?_ ⟨_, Try.func53, rfl, rfl⟩
 rotate_left
 ·
  rintro v σ1 ⟨M, n0, h0, h1, h2, rfl, rfl⟩
  exact ⟨_, M, rfl, by simp, by simp; try omega, M, n0, h0, h1, h2, rfl, rfl⟩
 generalize σ.next = N0 at hlt ⊢
 refine ACalls_fn tok Try.func53 (by kernel_rfl) rfl Try.ntmps53 Try.results53 rfl ?_
 simp only [argsA, Nat.reduceAdd, hp_next]
 unfold i_boxesCopy_o2 at H
 refine AWP_sr tok [] [0] (fun a σ => a = [(0, .fsl (encL rBox p0))] ∧ σ = hp E0 [] (N0 + 1)) (fun K hK => ?_) ?_
 ·
  skip
  simp -dsimp -implicitDefEqProofs (maxDischargeDepth := 6)
  exact hK _ _ ⟨rfl, rfl⟩
 rintro a σ ⟨rfl, rfl⟩
 refine AWP_sr tok [] [0, 3] (fun a σ => a = [(0, .fsl (encL rBox p0)), (3, .nilsl)] ∧ σ = hp E0 [] (N0 + 2)) (fun K hK => ?_) ?_
 ·
  skip
  simp -dsimp -implicitDefEqProofs (maxDischargeDepth := 6)
  exact hK _ _ ⟨rfl, rfl⟩
 rintro a σ ⟨rfl, rfl⟩
 refine AWP_sq [3] fun K1 hK1 => ?_
 refine AWP_sr tok [] [3, 6, 7, 8] (fun a σ => a = [(3, .nilsl), (6, .fsl (encL rBox p0)), (7, .int .i64 (ilen p0)), (8, .int .i64 0)] ∧ σ = hp E0 [] (N0 + 5)) (fun K hK => ?_) ?_
 ·
  skip
  simp -dsimp -implicitDefEqProofs (maxDischargeDepth := 6)
  exact hK _ _ ⟨rfl, rfl⟩
 rintro a σ ⟨rfl, rfl⟩
 refine AWP_block (AWP_thenB ?_)
 obtain ⟨e1, hse1, H⟩ := bindE H
 refine AWP_lp [3, 6, 7, 8] (fun s a σ => ∃ M1 o1 : Nat, N0 ≤ M1 ∧ N0 ≤ o1 ∧ o1 < M1 ∧ a = [(3, .sl o1 0 s.2.length), (6, .fsl (encL rBox p0)), (7, .int .i64 (ilen p0)), (8, .int .i64 s.1)] ∧ σ = hp E0 [(o1, some ⟨64, 2, encL rBox_o s.2⟩)] M1) (fun s x a σ => x = .exit 0 ∧ Rc G 23 N0 (fun a σ => ∃ M2 o2 : Nat, N0 ≤ M2 ∧ N0 ≤ o2 ∧ o2 < M2 ∧ a = [(3, .sl o2 0 s.length)] ∧ σ = hp E0 [(o2, some ⟨64, 2, encL rBox_o s⟩)] M2) (AAct.keep a [3]) σ) hse1 ?_ ?_ ?_
 ·
  refine Rc.kp [3, 6, 7, 8] [(3, .nilsl), (6, .fsl (encL rBox p0)), (7, .int .i64 (ilen p0)), (8, .int .i64 0)] rfl ?_
  refine gNilS Rc_ref 3 64 2 [(N0 + 5, some ⟨64, 2, encL rBox_o ([] : List gBox)⟩)] [(3, .sl (N0 + 5) 0 ([] : List gBox).length), (6, .fsl (encL rBox p0)), (7, .int .i64 (ilen p0)), (8, .int .i64 0)] (by simp (disch := omega)) (by simp (disch := omega) [encL_nil]) [3, 6, 7, 8] rfl ?_
  exact Rc.fin (AHeap.Sub.refl _) ⟨N0 + 6, (N0 + 5), (by omega), (by omega), (by omega), rfl, rfl⟩
 ·
  clear H hse1
  rintro ⟨s1, s2⟩ fl a σ H ⟨M1, o1, fM1_0, fM1_1, fM1_2, rfl, rfl⟩ K2 O2 hK2 hO2
  unfold i_boxesCopy_o2_L1 at H; dsimp only at H
  refine AWP_sr tok [] [3, 6, 7, 8, 9] (fun a σ => a = [(3, .sl o1 0 s2.length), (6, .fsl (encL rBox p0)), (7, .int .i64 (ilen p0)), (8, .int .i64 s1), (9, .bool (ilt s1 (ilen p0)))] ∧ σ = hp E0 [(o1, some ⟨64, 2, encL rBox_o s2⟩)] (M1 + 1)) (fun K hK => ?_) ?_
  ·
   skip
   simp -dsimp -implicitDefEqProofs (maxDischargeDepth := 6)
   exact hK _ _ ⟨rfl, rfl⟩
  rintro a σ ⟨rfl, rfl⟩
  refine AWP_sq [3, 6, 7, 8] fun K3 hK3 => ?_
  refine AWP_cond (ilt s1 (ilen p0)) rfl (fun C1 => ?_) (fun C1 => ?_)
  ·
   replace H := ifT C1 H
   refine AWP_skip ?_
   show K3 _ _
   refine keepE (l := [3, 6, 7, 8]) (x := [(3, .sl o1 0 s2.length), (6, .fsl (encL rBox p0)), (7, .int .i64 (ilen p0)), (8, .int .i64 s1)]) rfl fun a' ha => ?_
   refine hK3 _ _ ?_; rw [ha]
   refine Rc.mk ?_
   refine AWP_sq [3, 6, 7, 8] fun K4 hK4 => ?_
   refine AWP_block (AWP_thenB ?_)
   obtain ⟨v4, hv4, H⟩ := bindE H
   refine AWP_sr tok [] [3, 5, 6, 7, 8] (fun a σ => a = [(3, .sl o1 0 s2.length), (5, .ptr (M1 + 3) 0 0), (6, .fsl (encL rBox p0)), (7, .int .i64 (ilen p0)), (8, .int .i64 s1)] ∧ σ = hp E0 [(o1, some ⟨64, 2, encL rBox_o s2⟩), (M1 + 3, some ⟨64, 2, [[.int .i64 v4.Room, .fsl (encL rI v4.Items)]]⟩)] (M1 + 5)) (fun K hK => ?_) ?_
   ·
    skip
    have e0 := nq (a := o1) (b := M1 + 3) (by omega)
    simp -dsimp -implicitDefEqProofs (maxDischargeDepth := 6) [e0, ix29 hv4]
    exact hK _ _ ⟨rfl, rfl⟩
   rintro a σ ⟨rfl, rfl⟩
   obtain ⟨r5, hr5, H⟩ := bindE H
   obtain ⟨l6, hl6, H⟩ := bindE H
   have q0 : ∀ (a0 : Int) (a1 : Nat) (a2 : Nat) σ i, buildSliceA T 29 true i 1 [(0, .agg [.int .i64 a0, .sl a1 0 a2])] σ = some (.fsl [[.int .i64 a0, .sl a1 0 a2]], σ) := fun _ _ _ _ _ => rfl
   refine AWP_ry tok tokM [7] [2, 4, 5, 8] [0, 1, 3, 2, 4, 5, 6, 7, 8, 9] [(5, [2])] [3, 6, 7, 8] (fun a σ => ∃ M3 o3 : Nat, M1 + 15 ≤ M3 ∧ M1 + 15 ≤ o3 ∧ o3 < M3 ∧ a = [(3, .sl (M1 + 13) 0 l6.length), (6, .fsl (encL rBox p0)), (7, .int .i64 (ilen p0)), (8, .int .i64 s1)] ∧ σ = hp E0 [(M1 + 3, some ⟨64, 2, [[.int .i64 v4.Room, .fsl (encL rI v4.Items)]]⟩), (o3, some ⟨3, 1, encL rI r5⟩), (M1 + 13, some ⟨64, 2, encL rBox_o s2 ++ [[.int .i64 v4.Room, .sl o3 0 r5.length]]⟩)] M3) (by decide) (fun K hK => ?_) ?_
   ·
    simp only [pickL, nthO_succ, nthO_zero]
    have e0 := nq (a := o1) (b := M1 + 3) (by omega)
    have e1 := nq (a := o1) (b := M1 + 13) (by omega)
    simp -dsimp -implicitDefEqProofs (maxDischargeDepth := 6) [e0, e1, q0, apr29 rBox_o hl6]
    refine (c79_o (H := hr5) ).mono ?_; rintro _ _ ⟨M3, o3, fM3_0, fM3_1, fM3_2, rfl, rfl⟩; simp only [hp_next] at fM3_0 fM3_1 fM3_2
    have eM3_0 := nq (a := o3) (b := o1) (by omega)
    have eM3_1 := nq (a := o3) (b := M1 + 3) (by omega)
    have eM3_2 := nq (a := o3) (b := M1 + 13) (by omega)
    try simp -dsimp -implicitDefEqProofs (maxDischargeDepth := 6) [e0, e1, q0, apr29 rBox_o hl6, eM3_0, eM3_1, eM3_2, hp_over_some, hp_over_none]
    exact hK _ _ ⟨M3, o3, (by omega), (by omega), (by omega), rfl, rfl⟩
   rintro a σ ⟨M3, o3, fM3_0, fM3_1, fM3_2, ha, rfl⟩
   refine hK4 _ _ ?_; rw [ha]
   refine Rc.mk ?_
   refine gPk AWP_ref (k := r5.length) (o := (M1 + 13)) (ob := ⟨64, 2, encL rBox_o s2 ++ [[.int .i64 v4.Room, .sl o3 0 r5.length]]⟩) (row := [.int .i64 v4.Room, .sl o3 0 r5.length]) (d := o3) (obd := ⟨3, 1, encL rI r5⟩) (r := s2.length) (i := 1) [(M1 + 3, some ⟨64, 2, [[.int .i64 v4.Room, .fsl (encL rI v4.Items)]]⟩), (M1 + 13, some ⟨64, 2, encL rBox_o s2 ++ [[.int .i64 v4.Room, .osl 3 1 (encL rI r5)]]⟩)] (by simp (disch := omega)) (app_get _ _ _) rfl (by simp (disch := omega)) (by simp (disch := omega)) (by first | omega | simp) (by simp (disch := omega) [List.set_set, app_set] <;> omega) (by simp (disch := omega) [List.set_set, app_set]) ?_
   rw [show hp E0 [(M1 + 3, some ⟨64, 2, [[.int .i64 v4.Room, .fsl (encL rI v4.Items)]]⟩), (M1 + 13, some ⟨64, 2, encL rBox_o s2 ++ [[.int .i64 v4.Room, .osl 3 1 (encL rI r5)]]⟩)] M3 = hp E0 [(M1 + 3, some ⟨64, 2, [[.int .i64 v4.Room, .fsl (encL rI v4.Items)]]⟩), (M1 + 13, some ⟨64, 2, encL rBox_o l6⟩)] M3 from by rw [← app_enc (f := rBox_o) (c := [.int .i64 v4.Room, .osl 3 1 (encL rI r5)]) hl6 rfl]]
   refine AWP_rt tok [] [3, 6, 7, 8] (fun a σ => a = [(3, .sl (M1 + 13) 0 l6.length), (6, .fsl (encL rBox p0)), (7, .int .i64 (ilen p0)), (8, .int .i64 (iadd .i64 s1 1))] ∧ σ = hp E0 [(M1 + 3, some ⟨64, 2, [[.int .i64 v4.Room, .fsl (encL rI v4.Items)]]⟩), (M1 + 13, some ⟨64, 2, encL rBox_o l6⟩)] (M3 + 2)) (fun K hK => ?_) ?_
   ·
    skip
    simp -dsimp -implicitDefEqProofs (maxDischargeDepth := 6)
    exact hK _ _ ⟨rfl, rfl⟩
   rintro a σ ⟨ha, rfl⟩
   replace H := Option.some.inj H; subst H
   refine hK2 _ _ _ rfl ?_; rw [ha]
   exact Rc.fin (AHeap.Sub.trans (hp_skip (AHeap.Sub.refl _)) (hp_drop rfl (by simp; try omega))) ⟨M3 + 2, (M1 + 13), (by omega), (by omega), (by omega), rfl, rfl⟩
  ·
   replace H := ifF C1 H
   replace H := Option.some.inj H; subst H
   refine AWP_exit (hO2 _ _ _ _ rfl ⟨rfl, ?_⟩)
   refine Rc.rw (l := [3]) (X := [(3, .sl o1 0 s2.length)]) rfl ?_
   exact Rc.fin (AHeap.Sub.refl _) ⟨M1 + 1, o1, (by omega), (by omega), (by omega), rfl, rfl⟩
 ·
  intro x a σ hx
  obtain ⟨y3, rfl⟩ : ∃ x, x = e1 := ⟨_, rfl⟩
  obtain ⟨rfl, b, τ, hr, M2, o2, fM2_0, fM2_1, fM2_2, rfl, rfl⟩ := hx
  dsimp only at H
  show K1 _ _
  refine hK1 _ _ (Rc_ref hr ?_)
  refine Rc.mk ?_
  refine AWP_sr tok [] [2] (fun a σ => a = [(2, .sl o2 0 y3.length)] ∧ σ = hp E0 [(o2, some ⟨64, 2, encL rBox_o y3⟩)] (M2 + 2)) (fun K hK => ?_) ?_
  ·
   skip
   simp -dsimp -implicitDefEqProofs (maxDischargeDepth := 6)
   exact hK _ _ ⟨rfl, rfl⟩
  rintro a σ ⟨rfl, rfl⟩
  replace H := Option.some.inj H; subst H
  refine AWP_kp [2] [(2, .sl o2 0 y3.length)] rfl ?_
  refine AWP_ret ?_
  refine ⟨[.sl o2 0 y3.length], by simp, M2 + 2, o2, by omega, by omega, by omega, ?_, ?_⟩
  ·
   simp [encL_nil]
  ·
   first | rfl | simp [List.set_set]
theorem c13 {p0 : gMachine} {p1 : (List gBox)} {r : gMachine × (List gBox) × (List Int) × Int} (H : i_HartCall p0 p1 = some r) : APure Try.prog G 13 [.agg [.fsl (encL rI p0.Regs), .int .i64 p0.Pc, .fsl (encL rI p0.Mem)], .fsl (encL rBox p1)] (.tup [.agg [.fsl (encL rI r.1.Regs), .int .i64 r.1.Pc, .fsl (encL rI r.1.Mem)], .fsl (encL rBox r.2.1), .fsl (encL rI r.2.2.1), .int .i64 r.2.2.2]) := by
 refine APure_fn (fun N0 => ?_) (by simp)
 refine ACalls_fn tok Try.func13 (by kernel_rfl) rfl Try.ntmps13 Try.results13 rfl ?_
 simp only [argsA, Nat.reduceAdd, hp_next]
 unfold i_HartCall at H
 refine AWP_sr tok [0] [1, 2, 4] (fun a σ => a = [(1, .fsl (encL rBox p1)), (2, .fptr [.fsl (encL rI p0.Regs), .int .i64 p0.Pc, .fsl (encL rI p0.Mem)] 0), (4, .ptr (N0 + 1) 0 0)] ∧ σ = hp E0 [(N0 + 1, some ⟨28, 3, [[.nilsl, .int .i64 0, .nilsl]]⟩)] (N0 + 5)) (fun K hK => ?_) ?_
 ·
  skip
  simp -dsimp -implicitDefEqProofs (maxDischargeDepth := 6)
  exact hK _ _ ⟨rfl, rfl⟩
 rintro a σ ⟨rfl, rfl⟩
 refine AWP_sq [1, 2, 4] fun K1 hK1 => ?_
 refine gWkC AWP_ref (o := (N0 + 1)) (ob := ⟨28, 3, [[.nilsl, .int .i64 0, .nilsl]]⟩) (row := [.nilsl, .int .i64 0, .nilsl]) (r := 0) (i := 0) [(N0 + 1, some ⟨28, 3, [[.fsl [], .int .i64 0, .nilsl]]⟩)] (by simp (disch := omega)) rfl rfl (by simp (disch := omega)) (by simp (disch := omega) [encL_nil, List.set_set, app_set]) ?_
 refine gWkC AWP_ref (o := (N0 + 1)) (ob := ⟨28, 3, [[.fsl [], .int .i64 0, .nilsl]]⟩) (row := [.fsl [], .int .i64 0, .nilsl]) (r := 0) (i := 2) [(N0 + 1, some ⟨28, 3, [[.fsl [], .int .i64 0, .fsl []]]⟩)] (by simp (disch := omega)) rfl rfl (by simp (disch := omega)) (by simp (disch := omega) [encL_nil, List.set_set, app_set]) ?_
 obtain ⟨r1, hr1, H⟩ := bindE H
 obtain ⟨g3, hg3, H⟩ := bindE H
 refine AWP_sr tok [] [1, 2, 4, 19] (fun a σ => a = [(1, .fsl (encL rBox p1)), (2, .fptr [.fsl (encL rI p0.Regs), .int .i64 p0.Pc, .fsl (encL rI p0.Mem)] 0), (4, .ptr (N0 + 1) 0 0), (19, .bool g3)] ∧ σ = hp E0 [(N0 + 1, some ⟨28, 3, [[.fsl [], .int .i64 0, .fsl []]]⟩)] (N0 + 13)) (fun K hK => ?_) ?_
 ·
  skip
  simp -dsimp -implicitDefEqProofs (maxDischargeDepth := 6)
  refine (c50 hr1).app ?_; try simp -dsimp -implicitDefEqProofs (maxDischargeDepth := 6)
  cases hbg3 : bnot r1
  ·
   replace hg3 := ifF hbg3 hg3
   obtain ⟨r2, hr2, hg3⟩ := bindE hg3
   replace hg3 := Option.some.inj hg3; subst hg3
   try simp -dsimp -implicitDefEqProofs (maxDischargeDepth := 6) [hbg3]
   refine (c51 hr2).app ?_; try simp -dsimp -implicitDefEqProofs (maxDischargeDepth := 6) [hbg3]
   exact hK _ _ ⟨rfl, rfl⟩
  ·
   replace hg3 := ifT hbg3 hg3
   replace hg3 := Option.some.inj hg3; subst hg3
   try simp -dsimp -implicitDefEqProofs (maxDischargeDepth := 6) [hbg3]
   exact hK _ _ ⟨rfl, rfl⟩
 rintro a σ ⟨rfl, rfl⟩
 refine AWP_cond g3 rfl (fun C1 => ?_) (fun C1 => ?_)
 ·
  replace H := ifT C1 H
  refine AWP_sr tok [] [4, 5, 6, 7] (fun a σ => a = [(4, .ptr (N0 + 1) 0 0), (5, .nilsl), (6, .nilsl), (7, .int .i64 0)] ∧ σ = hp E0 [(N0 + 1, some ⟨28, 3, [[.fsl [], .int .i64 0, .fsl []]]⟩)] (N0 + 18)) (fun K hK => ?_) ?_
  ·
   skip
   simp -dsimp -implicitDefEqProofs (maxDischargeDepth := 6)
   exact hK _ _ ⟨rfl, rfl⟩
  rintro a σ ⟨rfl, rfl⟩
  replace H := Option.some.inj H; subst H
  refine AWP_kp [4, 5, 6, 7] [(4, .ptr (N0 + 1) 0 0), (5, .nilsl), (6, .nilsl), (7, .int .i64 0)] rfl ?_
  refine AWP_ret ?_
  exact ⟨[.agg [.fsl [], .int .i64 0, .fsl []], .nilsl, .nilsl, .int .i64 0], by simp, 4, by simp [encL_nil]⟩
 ·
  replace H := ifF C1 H
  refine AWP_skip ?_
  show K1 _ _
  refine keepE (l := [1, 2, 4]) (x := [(1, .fsl (encL rBox p1)), (2, .fptr [.fsl (encL rI p0.Regs), .int .i64 p0.Pc, .fsl (encL rI p0.Mem)] 0), (4, .ptr (N0 + 1) 0 0)]) rfl fun a' ha => ?_
  refine hK1 _ _ ?_; rw [ha]
  refine Rc.mk ?_
  obtain ⟨r4, hr4, H⟩ := bindE H
  refine AWP_sr tok [] [1, 4, 8] (fun a σ => ∃ M1 o1 : Nat, N0 + 17 ≤ M1 ∧ N0 + 17 ≤ o1 ∧ o1 < M1 ∧ a = [(1, .fsl (encL rBox p1)), (4, .ptr (N0 + 1) 0 0), (8, .ptr (N0 + 15) 0 0)] ∧ σ = hp E0 [(N0 + 1, some ⟨28, 3, [[.fsl [], .int .i64 0, .fsl []]]⟩), (o1, some ⟨3, 1, encL rI r4.Regs⟩), (N0 + 15, some ⟨28, 3, [[.sl o1 0 r4.Regs.length, .int .i64 r4.Pc, .fsl (encL rI r4.Mem)]]⟩)] M1) (fun K hK => ?_) ?_
  ·
   skip
   simp -dsimp -implicitDefEqProofs (maxDischargeDepth := 6)
   refine (c52_o (H := hr4) ).mono ?_; rintro _ _ ⟨M1, o1, fM1_0, fM1_1, fM1_2, rfl, rfl⟩; simp only [hp_next] at fM1_0 fM1_1 fM1_2
   have eM1_0 := nq (a := o1) (b := N0 + 1) (by omega)
   have eM1_1 := nq (a := o1) (b := N0 + 15) (by omega)
   try simp -dsimp -implicitDefEqProofs (maxDischargeDepth := 6) [eM1_0, eM1_1, hp_over_some, hp_over_none]
   exact hK _ _ ⟨M1, o1, (by omega), (by omega), (by omega), rfl, rfl⟩
  rintro a σ ⟨M1, o1, fM1_0, fM1_1, fM1_2, rfl, rfl⟩
  refine gPk AWP_ref (k := r4.Regs.length) (o := (N0 + 15)) (ob := ⟨28, 3, [[.sl o1 0 r4.Regs.length, .int .i64 r4.Pc, .fsl (encL rI r4.Mem)]]⟩) (row := [.sl o1 0 r4.Regs.length, .int .i64 r4.Pc, .fsl (encL rI r4.Mem)]) (d := o1) (obd := ⟨3, 1, encL rI r4.Regs⟩) (r := 0) (i := 0) [(N0 + 1, some ⟨28, 3, [[.fsl [], .int .i64 0, .fsl []]]⟩), (N0 + 15, some ⟨28, 3, [[.osl 3 1 (encL rI r4.Regs), .int .i64 r4.Pc, .fsl (encL rI r4.Mem)]]⟩)] (by simp (disch := omega)) rfl rfl (by simp (disch := omega)) (by simp (disch := omega)) (by first | omega | simp) (by simp (disch := omega) [List.set_set, app_set] <;> omega) (by simp (disch := omega) [List.set_set, app_set]) ?_
  obtain ⟨r5, hr5, H⟩ := bindE H
  refine AWP_sr tok [] [4, 8, 9] (fun a σ => ∃ M2 o2 : Nat, M1 + 3 ≤ M2 ∧ M1 + 3 ≤ o2 ∧ o2 < M2 ∧ a = [(4, .ptr (N0 + 1) 0 0), (8, .ptr (N0 + 15) 0 0), (9, .sl o2 0 r5.length)] ∧ σ = hp E0 [(N0 + 1, some ⟨28, 3, [[.fsl [], .int .i64 0, .fsl []]]⟩), (N0 + 15, some ⟨28, 3, [[.osl 3 1 (encL rI r4.Regs), .int .i64 r4.Pc, .fsl (encL rI r4.Mem)]]⟩), (o2, some ⟨64, 2, encL rBox_o r5⟩)] M2) (fun K hK => ?_) ?_
  ·
   skip
   simp -dsimp -implicitDefEqProofs (maxDischargeDepth := 6)
   refine (c53_o2 (H := hr5) ).mono ?_; rintro _ _ ⟨M2, o2, fM2_0, fM2_1, fM2_2, rfl, rfl⟩; simp only [hp_next] at fM2_0 fM2_1 fM2_2
   have eM2_0 := nq (a := o2) (b := N0 + 1) (by omega)
   have eM2_1 := nq (a := o2) (b := N0 + 15) (by omega)
   try simp -dsimp -implicitDefEqProofs (maxDischargeDepth := 6) [eM2_0, eM2_1, hp_over_some, hp_over_none]
   exact hK _ _ ⟨M2, o2, (by omega), (by omega), (by omega), rfl, rfl⟩
  rintro a σ ⟨M2, o2, fM2_0, fM2_1, fM2_2, rfl, rfl⟩
  refine AWP_sr tok [] [4, 8, 9, 10] (fun a σ => a = [(4, .ptr (N0 + 1) 0 0), (8, .ptr (N0 + 15) 0 0), (9, .sl o2 0 r5.length), (10, .ptr M2 0 0)] ∧ σ = hp E0 [(N0 + 1, some ⟨28, 3, [[.fsl [], .int .i64 0, .fsl []]]⟩), (N0 + 15, some ⟨28, 3, [[.osl 3 1 (encL rI r4.Regs), .int .i64 r4.Pc, .fsl (encL rI r4.Mem)]]⟩), (o2, some ⟨64, 2, encL rBox_o r5⟩), (M2, some ⟨22, 1, [[.nilsl]]⟩)] (M2 + 1)) (fun K hK => ?_) ?_
  ·
   skip
   have e0 := nq (a := N0 + 1) (b := o2) (by omega)
   have e1 := nq (a := N0 + 1) (b := M2) (by omega)
   have e2 := nq (a := N0 + 15) (b := o2) (by omega)
   have e3 := nq (a := N0 + 15) (b := M2) (by omega)
   have e4 := nq (a := o2) (b := M2) (by omega)
   simp -dsimp -implicitDefEqProofs (maxDischargeDepth := 6) [e0, e1, e2, e3, e4]
   exact hK _ _ ⟨rfl, rfl⟩
  rintro a σ ⟨rfl, rfl⟩
  refine gPk0 AWP_ref (o := M2) (ob := ⟨22, 1, [[.nilsl]]⟩) (row := [.nilsl]) (r := 0) (i := 0) 3 1 [(N0 + 1, some ⟨28, 3, [[.fsl [], .int .i64 0, .fsl []]]⟩), (N0 + 15, some ⟨28, 3, [[.osl 3 1 (encL rI r4.Regs), .int .i64 r4.Pc, .fsl (encL rI r4.Mem)]]⟩), (o2, some ⟨64, 2, encL rBox_o r5⟩), (M2, some ⟨22, 1, [[.osl 3 1 (encL rI ([] : List Int))]]⟩)] (by simp (disch := omega)) rfl rfl (by simp (disch := omega)) (by simp (disch := omega) [encL_nil, List.set_set, app_set]) ?_
  obtain ⟨r6, hr6, H⟩ := bindE H
  refine AWP_sr tok [] [4, 8, 9, 10, 11] (fun a σ => ∃ M3 : Nat, M2 + 4 ≤ M3 ∧ r6.2.2.1.length = r5.length ∧ a = [(4, .ptr (N0 + 1) 0 0), (8, .ptr (N0 + 15) 0 0), (9, .sl o2 0 r5.length), (10, .ptr M2 0 0), (11, .int .i64 r6.1)] ∧ σ = hp E0 [(N0 + 1, some ⟨28, 3, [[.fsl [], .int .i64 0, .fsl []]]⟩), (N0 + 15, some ⟨28, 3, [[.osl 3 1 (encL rI r6.2.1.Regs), .int .i64 r6.2.1.Pc, .fsl (encL rI r6.2.1.Mem)]]⟩), (o2, some ⟨64, 2, encL rBox_o r6.2.2.1⟩), (M2, some ⟨22, 1, [[.osl 3 1 (encL rI r6.2.2.2)]]⟩)] M3) (fun K hK => ?_) ?_
  ·
   skip
   have e0 := nq (a := N0 + 1) (b := o2) (by omega)
   have e1 := nq (a := N0 + 1) (b := M2) (by omega)
   have e2 := nq (a := N0 + 15) (b := o2) (by omega)
   have e3 := nq (a := N0 + 15) (b := M2) (by omega)
   have e4 := nq (a := o2) (b := M2) (by omega)
   simp -dsimp -implicitDefEqProofs (maxDischargeDepth := 6) [e0, e1, e2, e3, e4]
   refine (c54 (W0 := [[.osl 3 1 (encL rI r4.Regs), .int .i64 r4.Pc, .fsl (encL rI r4.Mem)]]) (r0_ := 0) (W2 := [[.osl 3 1 (encL rI ([] : List Int))]]) (r2_ := 0) (x2_ := [.osl 3 1 (encL rI ([] : List Int))]) (i2_ := 0) (t2_ := 22) (s2_ := 1) (H := hr6) (by simp [e0, e1, e2, e3, e4]) (by simp [e0, e1, e2, e3, e4]) (by simp [e0, e1, e2, e3, e4]) (by simp [e0, e1, e2, e3, e4]) (by simp [e0, e1, e2, e3, e4]) (by simp [e0, e1, e2, e3, e4]) (by simp [e0, e1, e2, e3, e4]) (by simp [e0, e1, e2, e3, e4]) (by simp [e0, e1, e2, e3, e4])).mono ?_; rintro _ _ ⟨M3, fM3_0, fM3_1, rfl, rfl⟩; simp only [hp_next] at fM3_0
   try simp -dsimp -implicitDefEqProofs (maxDischargeDepth := 6) [e0, e1, e2, e3, e4, hp_over_some, hp_over_none]
   exact hK _ _ ⟨M3, (by omega), fM3_1, rfl, rfl⟩
  rintro a σ ⟨M3, fM3_0, fM3_1, rfl, rfl⟩
  try rw [← fM3_1]
  refine AWP_sq [4, 8, 9, 10, 11] fun K2 hK2 => ?_
  refine AWP_sr tok [] [4, 8, 9, 10, 11, 28] (fun a σ => a = [(4, .ptr (N0 + 1) 0 0), (8, .ptr (N0 + 15) 0 0), (9, .sl o2 0 r6.2.2.1.length), (10, .ptr M2 0 0), (11, .int .i64 r6.1), (28, .bool (ieq r6.1 0))] ∧ σ = hp E0 [(N0 + 1, some ⟨28, 3, [[.fsl [], .int .i64 0, .fsl []]]⟩), (N0 + 15, some ⟨28, 3, [[.osl 3 1 (encL rI r6.2.1.Regs), .int .i64 r6.2.1.Pc, .fsl (encL rI r6.2.1.Mem)]]⟩), (o2, some ⟨64, 2, encL rBox_o r6.2.2.1⟩), (M2, some ⟨22, 1, [[.osl 3 1 (encL rI r6.2.2.2)]]⟩)] (M3 + 2)) (fun K hK => ?_) ?_
  ·
   skip
   have e0 := nq (a := N0 + 1) (b := o2) (by omega)
   have e1 := nq (a := N0 + 1) (b := M2) (by omega)
   have e2 := nq (a := N0 + 15) (b := o2) (by omega)
   have e3 := nq (a := N0 + 15) (b := M2) (by omega)
   have e4 := nq (a := o2) (b := M2) (by omega)
   simp -dsimp -implicitDefEqProofs (maxDischargeDepth := 6) [e0, e1, e2, e3, e4]
   exact hK _ _ ⟨rfl, rfl⟩
  rintro a σ ⟨rfl, rfl⟩
  refine AWP_cond (ieq r6.1 0) rfl (fun C2 => ?_) (fun C2 => ?_)
  ·
   replace H := ifT C2 H
   refine AWP_sr tok [] [4, 5, 6, 7] (fun a σ => a = [(4, .ptr (N0 + 1) 0 0), (5, .nilsl), (6, .nilsl), (7, .int .i64 0)] ∧ σ = hp E0 [(N0 + 1, some ⟨28, 3, [[.fsl [], .int .i64 0, .fsl []]]⟩), (N0 + 15, some ⟨28, 3, [[.osl 3 1 (encL rI r6.2.1.Regs), .int .i64 r6.2.1.Pc, .fsl (encL rI r6.2.1.Mem)]]⟩), (o2, some ⟨64, 2, encL rBox_o r6.2.2.1⟩), (M2, some ⟨22, 1, [[.osl 3 1 (encL rI r6.2.2.2)]]⟩)] (M3 + 7)) (fun K hK => ?_) ?_
   ·
    skip
    have e0 := nq (a := N0 + 1) (b := o2) (by omega)
    have e1 := nq (a := N0 + 1) (b := M2) (by omega)
    have e2 := nq (a := N0 + 15) (b := o2) (by omega)
    have e3 := nq (a := N0 + 15) (b := M2) (by omega)
    have e4 := nq (a := o2) (b := M2) (by omega)
    simp -dsimp -implicitDefEqProofs (maxDischargeDepth := 6) [e0, e1, e2, e3, e4]
    exact hK _ _ ⟨rfl, rfl⟩
   rintro a σ ⟨rfl, rfl⟩
   replace H := Option.some.inj H; subst H
   refine AWP_kp [4, 5, 6, 7] [(4, .ptr (N0 + 1) 0 0), (5, .nilsl), (6, .nilsl), (7, .int .i64 0)] rfl ?_
   have z0 := nq (a := N0 + 1) (b := o2) (by omega)
   have z1 := nq (a := N0 + 1) (b := M2) (by omega)
   have z2 := nq (a := N0 + 15) (b := o2) (by omega)
   have z3 := nq (a := N0 + 15) (b := M2) (by omega)
   have z4 := nq (a := o2) (b := M2) (by omega)
   refine AWP_ret ?_
   exact ⟨[.agg [.fsl [], .int .i64 0, .fsl []], .nilsl, .nilsl, .int .i64 0], by simp [z0, z1, z2, z3, z4], 4, by simp [encL_nil, z0, z1, z2, z3, z4]⟩
  ·
   replace H := ifF C2 H
   refine AWP_skip ?_
   show K2 _ _
   refine keepE (l := [4, 8, 9, 10, 11]) (x := [(4, .ptr (N0 + 1) 0 0), (8, .ptr (N0 + 15) 0 0), (9, .sl o2 0 r6.2.2.1.length), (10, .ptr M2 0 0), (11, .int .i64 r6.1)]) rfl fun a' ha => ?_
   refine hK2 _ _ ?_; rw [ha]
   refine Rc.mk ?_
   refine gUnp AWP_ref (ty := 3) (sz := 1) (es := encL rI r6.2.1.Regs) (o := (N0 + 15)) (ob := ⟨28, 3, [[.osl 3 1 (encL rI r6.2.1.Regs), .int .i64 r6.2.1.Pc, .fsl (encL rI r6.2.1.Mem)]]⟩) (row := [.osl 3 1 (encL rI r6.2.1.Regs), .int .i64 r6.2.1.Pc, .fsl (encL rI r6.2.1.Mem)]) (r := 0) (i := 0) [(N0 + 1, some ⟨28, 3, [[.fsl [], .int .i64 0, .fsl []]]⟩), (N0 + 15, some ⟨28, 3, [[.sl (M3 + 2) 0 r6.2.1.Regs.length, .int .i64 r6.2.1.Pc, .fsl (encL rI r6.2.1.Mem)]]⟩), (o2, some ⟨64, 2, encL rBox_o r6.2.2.1⟩), (M2, some ⟨22, 1, [[.osl 3 1 (encL rI r6.2.2.2)]]⟩), (M3 + 2, some ⟨3, 1, encL rI r6.2.1.Regs⟩)] (by simp (disch := omega)) rfl rfl (by simp (disch := omega) [List.set_set]) ?_
   refine gUnp AWP_ref (ty := 3) (sz := 1) (es := encL rI r6.2.2.2) (o := M2) (ob := ⟨22, 1, [[.osl 3 1 (encL rI r6.2.2.2)]]⟩) (row := [.osl 3 1 (encL rI r6.2.2.2)]) (r := 0) (i := 0) [(N0 + 1, some ⟨28, 3, [[.fsl [], .int .i64 0, .fsl []]]⟩), (N0 + 15, some ⟨28, 3, [[.sl (M3 + 2) 0 r6.2.1.Regs.length, .int .i64 r6.2.1.Pc, .fsl (encL rI r6.2.1.Mem)]]⟩), (o2, some ⟨64, 2, encL rBox_o r6.2.2.1⟩), (M2, some ⟨22, 1, [[.sl (M3 + 3) 0 r6.2.2.2.length]]⟩), (M3 + 2, some ⟨3, 1, encL rI r6.2.1.Regs⟩), (M3 + 3, some ⟨3, 1, encL rI r6.2.2.2⟩)] (by simp (disch := omega)) rfl rfl (by simp (disch := omega) [List.set_set]) ?_
   refine AWP_sy tok tokM [] [0, 2, 4, 5] [1, 3, 0, 2, 4, 5, 6, 7] [(4, [2])] [4, 5, 6, 7] (fun a σ => a = [(4, .ptr (N0 + 1) 0 0), (5, .sl o2 0 r6.2.2.1.length), (6, .sl (M3 + 3) 0 r6.2.2.2.length), (7, .int .i64 r6.1)] ∧ σ = hp E0 [(N0 + 1, some ⟨28, 3, [[.sl (M3 + 2) 0 r6.2.1.Regs.length, .int .i64 r6.2.1.Pc, .fsl (encL rI r6.2.1.Mem)]]⟩), (N0 + 15, some ⟨28, 3, [[.sl (M3 + 2) 0 r6.2.1.Regs.length, .int .i64 r6.2.1.Pc, .fsl (encL rI r6.2.1.Mem)]]⟩), (o2, some ⟨64, 2, encL rBox_o r6.2.2.1⟩), (M2, some ⟨22, 1, [[.sl (M3 + 3) 0 r6.2.2.2.length]]⟩), (M3 + 2, some ⟨3, 1, encL rI r6.2.1.Regs⟩), (M3 + 3, some ⟨3, 1, encL rI r6.2.2.2⟩)] (M3 + 12)) (by decide) (fun K hK => ?_) ?_
   ·
    simp only [pickL, nthO_succ, nthO_zero]
    have e0 := nq (a := N0 + 1) (b := o2) (by omega)
    have e1 := nq (a := N0 + 1) (b := M2) (by omega)
    have e2 := nq (a := N0 + 1) (b := M3 + 2) (by omega)
    have e3 := nq (a := N0) (b := M3 + 1) (by omega)
    have e4 := nq (a := N0 + 1) (b := M3 + 3) (by omega)
    have e5 := nq (a := N0) (b := M3 + 2) (by omega)
    have e6 := nq (a := N0 + 15) (b := o2) (by omega)
    have e7 := nq (a := N0 + 15) (b := M2) (by omega)
    have e8 := nq (a := N0 + 15) (b := M3 + 2) (by omega)
    have e9 := nq (a := N0 + 13) (b := M3) (by omega)
    have e10 := nq (a := N0 + 15) (b := M3 + 3) (by omega)
    have e11 := nq (a := N0 + 12) (b := M3) (by omega)
    have e12 := nq (a := o2) (b := M2) (by omega)
    have e13 := nq (a := o2) (b := M3 + 2) (by omega)
    have e14 := nq (a := o2) (b := M3 + 3) (by omega)
    have e15 := nq (a := M2) (b := M3 + 2) (by omega)
    have e16 := nq (a := M2) (b := M3 + 3) (by omega)
    simp -dsimp -implicitDefEqProofs (maxDischargeDepth := 6) [e0, e1, e2, e3, e4, e5, e6, e7, e8, e9, e10, e11, e12, e13, e14, e15, e16]
    exact hK _ _ ⟨rfl, rfl⟩
   rintro a σ ⟨rfl, rfl⟩
   replace H := Option.some.inj H; subst H
   refine AWP_kp [4, 5, 6, 7] [(4, .ptr (N0 + 1) 0 0), (5, .sl o2 0 r6.2.2.1.length), (6, .sl (M3 + 3) 0 r6.2.2.2.length), (7, .int .i64 r6.1)] rfl ?_
   have z5 := nq (a := N0 + 1) (b := o2) (by omega)
   have z6 := nq (a := N0 + 1) (b := M2) (by omega)
   have z7 := nq (a := N0 + 1) (b := M3 + 2) (by omega)
   have z8 := nq (a := N0) (b := M3 + 1) (by omega)
   have z9 := nq (a := N0 + 1) (b := M3 + 3) (by omega)
   have z10 := nq (a := N0) (b := M3 + 2) (by omega)
   have z11 := nq (a := N0 + 15) (b := o2) (by omega)
   have z12 := nq (a := N0 + 15) (b := M2) (by omega)
   have z13 := nq (a := N0 + 15) (b := M3 + 2) (by omega)
   have z14 := nq (a := N0 + 13) (b := M3) (by omega)
   have z15 := nq (a := N0 + 15) (b := M3 + 3) (by omega)
   have z16 := nq (a := N0 + 12) (b := M3) (by omega)
   have z17 := nq (a := o2) (b := M2) (by omega)
   have z18 := nq (a := o2) (b := M3 + 2) (by omega)
   have z19 := nq (a := o2) (b := M3 + 3) (by omega)
   have z20 := nq (a := M2) (b := M3 + 2) (by omega)
   have z21 := nq (a := M2) (b := M3 + 3) (by omega)
   refine AWP_ret ?_
   exact ⟨[.agg [.sl (M3 + 2) 0 r6.2.1.Regs.length, .int .i64 r6.2.1.Pc, .fsl (encL rI r6.2.1.Mem)], .sl o2 0 r6.2.2.1.length, .sl (M3 + 3) 0 r6.2.2.2.length, .int .i64 r6.1], by simp [z5, z6, z7, z8, z9, z10, z11, z12, z13, z14, z15, z16, z17, z18, z19, z20, z21], 4, by simp [encL_nil, z5, z6, z7, z8, z9, z10, z11, z12, z13, z14, z15, z16, z17, z18, z19, z20, z21]⟩
theorem c70_o {p0 : (List Int)} {r : gL6Rd} (H : s_l6Open_o p0 = some r) {σ : AHeap} : ACalls Try.prog G 70 [.fsl (encL rI_u8 p0)] σ (fun v σ' => ∃ M n0 : Nat, σ.next ≤ M ∧ σ.next ≤ n0 ∧ n0 < M ∧ v = .ptr n0 0 0 ∧ σ' = hp σ.objs [(n0, some ⟨118, 2, [[.fsl (encL rI_u8 r.b), .int .i64 r.p]]⟩)] M) := by
 refine ACalls_fr (L := []) (Q1 := fun v σ' => ∃ M n0 : Nat, σ.next ≤ M ∧ σ.next ≤ n0 ∧ n0 < M ∧ v = .ptr n0 0 0 ∧ σ' = hp E0 [(n0, some ⟨118, 2, [[.fsl (encL rI_u8 r.b), .int .i64 r.p]]⟩)] M) (by simp []) (fun hlt => ?_) ?_ ⟨_, Try.func70, rfl, rfl⟩
 rotate_left
 ·
  rintro v σ1 ⟨M, n0, h0, h1, h2, rfl, rfl⟩
  exact ⟨_, M, rfl, by simp, by simp; try omega, M, n0, h0, h1, h2, rfl, rfl⟩
 generalize σ.next = N0 at hlt ⊢
 refine ACalls_fn tok Try.func70 (by kernel_rfl) rfl Try.ntmps70 Try.results70 rfl ?_
 simp only [argsA, Nat.reduceAdd, hp_next]
 unfold s_l6Open_o at H
 refine AWP_sr tok [] [0] (fun a σ => a = [(0, .fsl (encL rI_u8 p0))] ∧ σ = hp E0 [] (N0 + 1)) (fun K hK => ?_) ?_
 ·
  skip
  simp -dsimp -implicitDefEqProofs (maxDischargeDepth := 6)
  exact hK _ _ ⟨rfl, rfl⟩
 rintro a σ ⟨rfl, rfl⟩
 refine AWP_sq [0] fun K1 hK1 => ?_
 refine AWP_sr tok [] [0, 5] (fun a σ => a = [(0, .fsl (encL rI_u8 p0)), (5, .bool (igt (ilen p0) 2000))] ∧ σ = hp E0 [] (N0 + 4)) (fun K hK => ?_) ?_
 ·
  skip
  simp -dsimp -implicitDefEqProofs (maxDischargeDepth := 6)
  exact hK _ _ ⟨rfl, rfl⟩
 rintro a σ ⟨rfl, rfl⟩
 refine AWP_cond (igt (ilen p0) 2000) rfl (fun C1 => ?_) (fun C1 => ?_)
 ·
  replace H := ifT C1 H
  obtain ⟨l1, hl1, H⟩ := bindE H
  refine AWP_rt tok [] [0] (fun a σ => a = [(0, .fsl (encL rI_u8 l1))] ∧ σ = hp E0 [] (N0 + 7)) (fun K hK => ?_) ?_
  ·
   skip
   simp -dsimp -implicitDefEqProofs (maxDischargeDepth := 6) [cuth_59 hl1]
   exact hK _ _ ⟨rfl, rfl⟩
  rintro a σ ⟨ha, rfl⟩
  refine hK1 _ _ ?_; rw [ha]
  refine Rc.mk ?_
  refine AWP_sr tok [] [2] (fun a σ => a = [(2, .ptr (N0 + 9) 0 0)] ∧ σ = hp E0 [(N0 + 9, some ⟨118, 2, [[.fsl (encL rI_u8 l1), .int .i64 0]]⟩)] (N0 + 11)) (fun K hK => ?_) ?_
  ·
   skip
   simp -dsimp -implicitDefEqProofs (maxDischargeDepth := 6)
   exact hK _ _ ⟨rfl, rfl⟩
  rintro a σ ⟨rfl, rfl⟩
  replace H := Option.some.inj H; subst H
  refine AWP_kp [2] [(2, .ptr (N0 + 9) 0 0)] rfl ?_
  refine AWP_ret ?_
  refine ⟨[.ptr (N0 + 9) 0 0], by simp, N0 + 11, N0 + 9, by omega, by omega, by omega, ?_, ?_⟩
  ·
   simp [encL_nil]
  ·
   first | rfl | simp [List.set_set]
 ·
  replace H := ifF C1 H
  refine AWP_skip ?_
  show K1 _ _
  refine keepE (l := [0]) (x := [(0, .fsl (encL rI_u8 p0))]) rfl fun a' ha => ?_
  refine hK1 _ _ ?_; rw [ha]
  refine Rc.mk ?_
  refine AWP_sr tok [] [2] (fun a σ => a = [(2, .ptr (N0 + 6) 0 0)] ∧ σ = hp E0 [(N0 + 6, some ⟨118, 2, [[.fsl (encL rI_u8 p0), .int .i64 0]]⟩)] (N0 + 8)) (fun K hK => ?_) ?_
  ·
   skip
   simp -dsimp -implicitDefEqProofs (maxDischargeDepth := 6)
   exact hK _ _ ⟨rfl, rfl⟩
  rintro a σ ⟨rfl, rfl⟩
  replace H := Option.some.inj H; subst H
  refine AWP_kp [2] [(2, .ptr (N0 + 6) 0 0)] rfl ?_
  refine AWP_ret ?_
  refine ⟨[.ptr (N0 + 6) 0 0], by simp, N0 + 8, N0 + 6, by omega, by omega, by omega, ?_, ?_⟩
  ·
   simp [encL_nil]
  ·
   first | rfl | simp [List.set_set]
theorem c74 {p0 : gL6Rd} {p1 : Int} {r : Int × gL6Rd} (H : s_l6Rd_pick p0 p1 = some r) {σ : AHeap} {w0 : Nat} {W0 : List (List AV)} {r0_ : Nat} (q0 : σ.objs w0 = some ⟨118, 2, W0⟩) (g0 : W0[r0_]? = some [.fsl (encL rI_u8 p0.b), .int .i64 p0.p]) : ACalls Try.prog G 74 [.ptr w0 r0_ 0, .int .i64 p1] σ (fun v σ' => ∃ M : Nat, σ.next ≤ M ∧ v = .int .i64 r.1 ∧ σ' = hp σ.objs [(w0, some ⟨118, 2, W0.set r0_ [.fsl (encL rI_u8 r.2.b), .int .i64 r.2.p]⟩)] M) := by
 refine ACalls_fr (L := [(w0, some ⟨118, 2, W0⟩)]) (Q1 := fun v σ' => ∃ M : Nat, σ.next ≤ M ∧ v = .int .i64 r.1 ∧ σ' = hp E0 [(w0, some ⟨118, 2, W0.set r0_ [.fsl (encL rI_u8 r.2.b), .int .i64 r.2.p]⟩)] M) (by simp [q0]) (fun hlt => ?_) ?_ ⟨_, Try.func74, rfl, rfl⟩
 rotate_left
 ·
  rintro v σ1 ⟨M, h0, rfl, rfl⟩
  exact ⟨_, M, rfl, by simp, by simp; try omega, M, h0, rfl, rfl⟩
 generalize σ.next = N0 at hlt ⊢
 have lw0 : w0 < N0 := hlt _ (.head _) rfl
 have gs_W0 : ∀ x, (W0.set r0_ x)[r0_]? = some x := gsetW g0
 rw [show W0 = W0.set r0_ [.fsl (encL rI_u8 p0.b), .int .i64 p0.p] from (set_same g0).symm]
 refine ACalls_fn tok Try.func74 (by kernel_rfl) rfl Try.ntmps74 Try.results74 rfl ?_
 simp only [argsA, Nat.reduceAdd, hp_next]
 unfold s_l6Rd_pick at H
 refine AWP_sr tok [] [0, 1] (fun a σ => a = [(0, .ptr w0 r0_ 0), (1, .int .i64 p1)] ∧ σ = hp E0 [(w0, some ⟨118, 2, W0.set r0_ [.fsl (encL rI_u8 p0.b), .int .i64 p0.p]⟩)] (N0 + 1)) (fun K hK => ?_) ?_
 ·
  skip
  simp -dsimp -implicitDefEqProofs (maxDischargeDepth := 6) [gs_W0, List.set_set]
  exact hK _ _ ⟨rfl, rfl⟩
 rintro a σ ⟨rfl, rfl⟩
 refine AWP_sr tok [] [0, 1] (fun a σ => a = [(0, .ptr w0 r0_ 0), (1, .int .i64 p1)] ∧ σ = hp E0 [(w0, some ⟨118, 2, W0.set r0_ [.fsl (encL rI_u8 p0.b), .int .i64 (iadd .i64 p0.p 1)]⟩)] (N0 + 10)) (fun K hK => ?_) ?_
 ·
  skip
  simp -dsimp -implicitDefEqProofs (maxDischargeDepth := 6) [gs_W0, List.set_set]
  exact hK _ _ ⟨rfl, rfl⟩
 rintro a σ ⟨rfl, rfl⟩
 refine AWP_sq [0, 1] fun K1 hK1 => ?_
 obtain ⟨g1, hg1, H⟩ := bindE H
 refine AWP_sr tok [] [0, 1, 24] (fun a σ => a = [(0, .ptr w0 r0_ 0), (1, .int .i64 p1), (24, .bool g1)] ∧ σ = hp E0 [(w0, some ⟨118, 2, W0.set r0_ [.fsl (encL rI_u8 p0.b), .int .i64 (iadd .i64 p0.p 1)]⟩)] (N0 + 20)) (fun K hK => ?_) ?_
 ·
  skip
  simp -dsimp -implicitDefEqProofs (maxDischargeDepth := 6) [gs_W0, List.set_set]
  cases hbg1 : ilt p1 1
  ·
   replace hg1 := ifF hbg1 hg1
   replace hg1 := Option.some.inj hg1; subst hg1
   try simp -dsimp -implicitDefEqProofs (maxDischargeDepth := 6) [gs_W0, List.set_set, hbg1]
   exact hK _ _ ⟨rfl, rfl⟩
  ·
   replace hg1 := ifT hbg1 hg1
   replace hg1 := Option.some.inj hg1; subst hg1
   try simp -dsimp -implicitDefEqProofs (maxDischargeDepth := 6) [gs_W0, List.set_set, hbg1]
   exact hK _ _ ⟨rfl, rfl⟩
 rintro a σ ⟨rfl, rfl⟩
 refine AWP_cond g1 rfl (fun C1 => ?_) (fun C1 => ?_)
 ·
  replace H := ifT C1 H
  refine AWP_sr tok [] [4] (fun a σ => a = [(4, .int .i64 0)] ∧ σ = hp E0 [(w0, some ⟨118, 2, W0.set r0_ [.fsl (encL rI_u8 p0.b), .int .i64 (iadd .i64 p0.p 1)]⟩)] (N0 + 21)) (fun K hK => ?_) ?_
  ·
   skip
   simp -dsimp -implicitDefEqProofs (maxDischargeDepth := 6) [gs_W0, List.set_set]
   exact hK _ _ ⟨rfl, rfl⟩
  rintro a σ ⟨rfl, rfl⟩
  replace H := Option.some.inj H; subst H
  refine AWP_kp [4] [(4, .int .i64 0)] rfl ?_
  refine AWP_ret ?_
  refine ⟨[.int .i64 0], by simp [gs_W0], N0 + 21, by omega, ?_, ?_⟩
  ·
   simp [encL_nil]
  ·
   first | rfl | simp [List.set_set]
 ·
  replace H := ifF C1 H
  refine AWP_skip ?_
  show K1 _ _
  refine keepE (l := [0, 1]) (x := [(0, .ptr w0 r0_ 0), (1, .int .i64 p1)]) rfl fun a' ha => ?_
  refine hK1 _ _ ?_; rw [ha]
  refine Rc.mk ?_
  refine AWP_sr tok [] [0, 1, 5] (fun a σ => a = [(0, .ptr w0 r0_ 0), (1, .int .i64 p1), (5, .int .i64 (isub .i64 (iadd .i64 p0.p 1) 1))] ∧ σ = hp E0 [(w0, some ⟨118, 2, W0.set r0_ [.fsl (encL rI_u8 p0.b), .int .i64 (iadd .i64 p0.p 1)]⟩)] (N0 + 26)) (fun K hK => ?_) ?_
  ·
   skip
   simp -dsimp -implicitDefEqProofs (maxDischargeDepth := 6) [gs_W0, List.set_set]
   exact hK _ _ ⟨rfl, rfl⟩
  rintro a σ ⟨rfl, rfl⟩
  refine AWP_sq [0, 1, 5] fun K2 hK2 => ?_
  refine AWP_sr tok [] [0, 1, 5, 36] (fun a σ => a = [(0, .ptr w0 r0_ 0), (1, .int .i64 p1), (5, .int .i64 (isub .i64 (iadd .i64 p0.p 1) 1)), (36, .bool (ilt (isub .i64 (iadd .i64 p0.p 1) 1) (ilen p0.b)))] ∧ σ = hp E0 [(w0, some ⟨118, 2, W0.set r0_ [.fsl (encL rI_u8 p0.b), .int .i64 (iadd .i64 p0.p 1)]⟩)] (N0 + 33)) (fun K hK => ?_) ?_
  ·
   skip
   simp -dsimp -implicitDefEqProofs (maxDischargeDepth := 6) [gs_W0, List.set_set]
   exact hK _ _ ⟨rfl, rfl⟩
  rintro a σ ⟨rfl, rfl⟩
  refine AWP_cond (ilt (isub .i64 (iadd .i64 p0.p 1) 1) (ilen p0.b)) rfl (fun C2 => ?_) (fun C2 => ?_)
  ·
   replace H := ifT C2 H
   obtain ⟨v2, hv2, H⟩ := bindE H
   obtain ⟨v3, hv3, H⟩ := bindE H
   refine AWP_sr tok [] [4] (fun a σ => a = [(4, .int .i64 v3)] ∧ σ = hp E0 [(w0, some ⟨118, 2, W0.set r0_ [.fsl (encL rI_u8 p0.b), .int .i64 (iadd .i64 p0.p 1)]⟩)] (N0 + 44)) (fun K hK => ?_) ?_
   ·
    skip
    simp -dsimp -implicitDefEqProofs (maxDischargeDepth := 6) [gs_W0, List.set_set, ix59 hv2, hv3]
    exact hK _ _ ⟨rfl, rfl⟩
   rintro a σ ⟨rfl, rfl⟩
   replace H := Option.some.inj H; subst H
   refine AWP_kp [4] [(4, .int .i64 v3)] rfl ?_
   refine AWP_ret ?_
   refine ⟨[.int .i64 v3], by simp [gs_W0], N0 + 44, by omega, ?_, ?_⟩
   ·
    simp [encL_nil]
   ·
    first | rfl | simp [List.set_set]
  ·
   replace H := ifF C2 H
   refine AWP_skip ?_
   show K2 _ _
   refine keepE (l := [0, 1, 5]) (x := [(0, .ptr w0 r0_ 0), (1, .int .i64 p1), (5, .int .i64 (isub .i64 (iadd .i64 p0.p 1) 1))]) rfl fun a' ha => ?_
   refine hK2 _ _ ?_; rw [ha]
   refine Rc.mk ?_
   obtain ⟨v4, hv4, H⟩ := bindE H
   obtain ⟨v5, hv5, H⟩ := bindE H
   obtain ⟨v6, hv6, H⟩ := bindE H
   obtain ⟨v7, hv7, H⟩ := bindE H
   obtain ⟨v8, hv8, H⟩ := bindE H
   refine AWP_sd tok tokM [] [3, 8, 9, 10, 18, 25, 26, 27, 28, 29, 30, 31, 40, 41, 42, 43] [0, 1, 2, 4, 5, 6, 7, 15, 16, 17, 19, 20, 21, 22, 23, 24, 33, 34, 36, 37, 38, 39, 3, 8, 9, 10, 11, 12, 13, 14, 18, 25, 26, 27, 28, 29, 30, 31, 32, 35, 40, 41, 42, 43, 44, 45] [1, 6] (fun a σ => a = [(1, .int .i64 p1), (6, .int .i64 (iadd .i64 (iadd .i64 (iadd .i64 (imul .i64 (iconv .i64 v5) 131) (imul .i64 (iconv .i64 v7) 1117)) (imul .i64 (isub .i64 (iadd .i64 p0.p 1) 1) 29)) (imul .i64 v8 53)))] ∧ σ = hp E0 [(w0, some ⟨118, 2, W0.set r0_ [.fsl (encL rI_u8 p0.b), .int .i64 (iadd .i64 p0.p 1)]⟩)] (N0 + 79)) (by decide) (fun K hK => ?_) ?_
   ·
    simp only [pickL, nthO_succ, nthO_zero]
    simp -dsimp -implicitDefEqProofs (maxDischargeDepth := 6) [gs_W0, List.set_set, hv4, ix59 hv5, hv6, ix59 hv7, hv8]
    exact hK _ _ ⟨rfl, rfl⟩
   rintro a σ ⟨rfl, rfl⟩
   obtain ⟨v9, hv9, H⟩ := bindE H
   refine AWP_sr tok [] [1, 6] (fun a σ => a = [(1, .int .i64 p1), (6, .int .i64 (ixor .i64 (iadd .i64 (iadd .i64 (iadd .i64 (imul .i64 (iconv .i64 v5) 131) (imul .i64 (iconv .i64 v7) 1117)) (imul .i64 (isub .i64 (iadd .i64 p0.p 1) 1) 29)) (imul .i64 v8 53)) v9))] ∧ σ = hp E0 [(w0, some ⟨118, 2, W0.set r0_ [.fsl (encL rI_u8 p0.b), .int .i64 (iadd .i64 p0.p 1)]⟩)] (N0 + 84)) (fun K hK => ?_) ?_
   ·
    skip
    simp -dsimp -implicitDefEqProofs (maxDischargeDepth := 6) [gs_W0, List.set_set, hv9]
    exact hK _ _ ⟨rfl, rfl⟩
   rintro a σ ⟨rfl, rfl⟩
   obtain ⟨v10, hv10, H⟩ := bindE H
   refine AWP_sr tok [] [4] (fun a σ => a = [(4, .int .i64 v10)] ∧ σ = hp E0 [(w0, some ⟨118, 2, W0.set r0_ [.fsl (encL rI_u8 p0.b), .int .i64 (iadd .i64 p0.p 1)]⟩)] (N0 + 88)) (fun K hK => ?_) ?_
   ·
    skip
    simp -dsimp -implicitDefEqProofs (maxDischargeDepth := 6) [gs_W0, List.set_set, hv10]
    exact hK _ _ ⟨rfl, rfl⟩
   rintro a σ ⟨rfl, rfl⟩
   replace H := Option.some.inj H; subst H
   refine AWP_kp [4] [(4, .int .i64 v10)] rfl ?_
   refine AWP_ret ?_
   refine ⟨[.int .i64 v10], by simp [gs_W0], N0 + 88, by omega, ?_, ?_⟩
   ·
    simp [encL_nil]
   ·
    first | rfl | simp [List.set_set]
theorem c111 {p0 : gL6Rd} {r : Int × gL6Rd} (H : s_l93Reg p0 = some r) {σ : AHeap} {w0 : Nat} {W0 : List (List AV)} {r0_ : Nat} (q0 : σ.objs w0 = some ⟨118, 2, W0⟩) (g0 : W0[r0_]? = some [.fsl (encL rI_u8 p0.b), .int .i64 p0.p]) : ACalls Try.prog G 111 [.ptr w0 r0_ 0] σ (fun v σ' => ∃ M : Nat, σ.next ≤ M ∧ v = .int .i64 r.1 ∧ σ' = hp σ.objs [(w0, some ⟨118, 2, W0.set r0_ [.fsl (encL rI_u8 r.2.b), .int .i64 r.2.p]⟩)] M) := by
 refine ACalls_fr (L := [(w0, some ⟨118, 2, W0⟩)]) (Q1 := fun v σ' => ∃ M : Nat, σ.next ≤ M ∧ v = .int .i64 r.1 ∧ σ' = hp E0 [(w0, some ⟨118, 2, W0.set r0_ [.fsl (encL rI_u8 r.2.b), .int .i64 r.2.p]⟩)] M) (by simp [q0]) (fun hlt => ?_) ?_ ⟨_, Try.func111, rfl, rfl⟩
 rotate_left
 ·
  rintro v σ1 ⟨M, h0, rfl, rfl⟩
  exact ⟨_, M, rfl, by simp, by simp; try omega, M, h0, rfl, rfl⟩
 generalize σ.next = N0 at hlt ⊢
 have lw0 : w0 < N0 := hlt _ (.head _) rfl
 have gs_W0 : ∀ x, (W0.set r0_ x)[r0_]? = some x := gsetW g0
 rw [show W0 = W0.set r0_ [.fsl (encL rI_u8 p0.b), .int .i64 p0.p] from (set_same g0).symm]
 refine ACalls_fn tok Try.func111 (by kernel_rfl) rfl Try.ntmps111 Try.results111 rfl ?_
 simp only [argsA, Nat.reduceAdd, hp_next]
 unfold s_l93Reg at H
 refine AWP_sr tok [] [0] (fun a σ => a = [(0, .ptr w0 r0_ 0)] ∧ σ = hp E0 [(w0, some ⟨118, 2, W0.set r0_ [.fsl (encL rI_u8 p0.b), .int .i64 p0.p]⟩)] (N0 + 1)) (fun K hK => ?_) ?_
 ·
  skip
  simp -dsimp -implicitDefEqProofs (maxDischargeDepth := 6) [gs_W0, List.set_set]
  exact hK _ _ ⟨rfl, rfl⟩
 rintro a σ ⟨rfl, rfl⟩
 obtain ⟨r1, hr1, H⟩ := bindE H
 refine AWP_sr tok [] [2] (fun a σ => ∃ M1 : Nat, N0 + 4 ≤ M1 ∧ a = [(2, .int .i64 r1.1)] ∧ σ = hp E0 [(w0, some ⟨118, 2, W0.set r0_ [.fsl (encL rI_u8 r1.2.b), .int .i64 r1.2.p]⟩)] M1) (fun K hK => ?_) ?_
 ·
  skip
  simp -dsimp -implicitDefEqProofs (maxDischargeDepth := 6) [gs_W0, List.set_set]
  refine (c74 (W0 := W0.set r0_ [.fsl (encL rI_u8 p0.b), .int .i64 p0.p]) (r0_ := r0_) (H := hr1) (by simp [gs_W0, List.set_set]) (by simp [gs_W0, List.set_set])).mono ?_; rintro _ _ ⟨M1, fM1_0, rfl, rfl⟩; simp only [hp_next] at fM1_0
  try simp -dsimp -implicitDefEqProofs (maxDischargeDepth := 6) [gs_W0, List.set_set, hp_over_some, hp_over_none]
  exact hK _ _ ⟨M1, (by omega), rfl, rfl⟩
 rintro a σ ⟨M1, fM1_0, rfl, rfl⟩
 replace H := Option.some.inj H; subst H
 refine AWP_kp [2] [(2, .int .i64 r1.1)] rfl ?_
 refine AWP_ret ?_
 refine ⟨[.int .i64 r1.1], by simp [gs_W0], M1, by omega, ?_, ?_⟩
 ·
  simp [encL_nil]
 ·
  first | rfl | simp [List.set_set]
theorem c95 {p0 : Int} {r : Int} (H : s_Wrap p0 = some r) : APure Try.prog G 95 [.int .i64 p0] (.int .i64 r) := by
 refine APure_fn (fun N0 => ?_) (by simp)
 refine ACalls_fn tok Try.func95 (by kernel_rfl) rfl Try.ntmps95 Try.results95 rfl ?_
 simp only [argsA, Nat.reduceAdd, hp_next]
 unfold s_Wrap at H
 refine AWP_sr tok [] [0] (fun a σ => a = [(0, .int .i64 p0)] ∧ σ = hp E0 [] (N0 + 1)) (fun K hK => ?_) ?_
 ·
  skip
  simp -dsimp -implicitDefEqProofs (maxDischargeDepth := 6)
  exact hK _ _ ⟨rfl, rfl⟩
 rintro a σ ⟨rfl, rfl⟩
 obtain ⟨v1, hv1, H⟩ := bindE H
 refine AWP_sr tok [] [3] (fun a σ => a = [(3, .int .i64 v1)] ∧ σ = hp E0 [] (N0 + 4)) (fun K hK => ?_) ?_
 ·
  skip
  simp -dsimp -implicitDefEqProofs (maxDischargeDepth := 6) [hv1]
  exact hK _ _ ⟨rfl, rfl⟩
 rintro a σ ⟨rfl, rfl⟩
 refine AWP_sq [3] fun K1 hK1 => ?_
 refine AWP_sr tok [] [3, 7] (fun a σ => a = [(3, .int .i64 v1), (7, .bool (igt v1 2147483647))] ∧ σ = hp E0 [] (N0 + 6)) (fun K hK => ?_) ?_
 ·
  skip
  simp -dsimp -implicitDefEqProofs (maxDischargeDepth := 6)
  exact hK _ _ ⟨rfl, rfl⟩
 rintro a σ ⟨rfl, rfl⟩
 refine AWP_cond (igt v1 2147483647) rfl (fun C1 => ?_) (fun C1 => ?_)
 ·
  replace H := ifT C1 H
  refine AWP_sr tok [] [2] (fun a σ => a = [(2, .int .i64 (isub .i64 v1 4294967296))] ∧ σ = hp E0 [] (N0 + 9)) (fun K hK => ?_) ?_
  ·
   skip
   simp -dsimp -implicitDefEqProofs (maxDischargeDepth := 6)
   exact hK _ _ ⟨rfl, rfl⟩
  rintro a σ ⟨rfl, rfl⟩
  replace H := Option.some.inj H; subst H
  refine AWP_kp [2] [(2, .int .i64 (isub .i64 v1 4294967296))] rfl ?_
  refine AWP_ret ?_
  exact ⟨[.int .i64 (isub .i64 v1 4294967296)], by simp, 4, by simp [encL_nil]⟩
 ·
  replace H := ifF C1 H
  refine AWP_skip ?_
  show K1 _ _
  refine keepE (l := [3]) (x := [(3, .int .i64 v1)]) rfl fun a' ha => ?_
  refine hK1 _ _ ?_; rw [ha]
  refine Rc.mk ?_
  refine AWP_sq [3] fun K2 hK2 => ?_
  refine AWP_sr tok [] [3, 11] (fun a σ => a = [(3, .int .i64 v1), (11, .bool (ilt v1 (-2147483648)))] ∧ σ = hp E0 [] (N0 + 8)) (fun K hK => ?_) ?_
  ·
   skip
   simp -dsimp -implicitDefEqProofs (maxDischargeDepth := 6)
   exact hK _ _ ⟨rfl, rfl⟩
  rintro a σ ⟨rfl, rfl⟩
  refine AWP_cond (ilt v1 (-2147483648)) rfl (fun C2 => ?_) (fun C2 => ?_)
  ·
   replace H := ifT C2 H
   refine AWP_sr tok [] [2] (fun a σ => a = [(2, .int .i64 (iadd .i64 v1 4294967296))] ∧ σ = hp E0 [] (N0 + 11)) (fun K hK => ?_) ?_
   ·
    skip
    simp -dsimp -implicitDefEqProofs (maxDischargeDepth := 6)
    exact hK _ _ ⟨rfl, rfl⟩
   rintro a σ ⟨rfl, rfl⟩
   replace H := Option.some.inj H; subst H
   refine AWP_kp [2] [(2, .int .i64 (iadd .i64 v1 4294967296))] rfl ?_
   refine AWP_ret ?_
   exact ⟨[.int .i64 (iadd .i64 v1 4294967296)], by simp, 4, by simp [encL_nil]⟩
  ·
   replace H := ifF C2 H
   refine AWP_skip ?_
   show K2 _ _
   refine keepE (l := [3]) (x := [(3, .int .i64 v1)]) rfl fun a' ha => ?_
   refine hK2 _ _ ?_; rw [ha]
   refine Rc.mk ?_
   refine AWP_sr tok [] [2] (fun a σ => a = [(2, .int .i64 v1)] ∧ σ = hp E0 [] (N0 + 10)) (fun K hK => ?_) ?_
   ·
    skip
    simp -dsimp -implicitDefEqProofs (maxDischargeDepth := 6)
    exact hK _ _ ⟨rfl, rfl⟩
   rintro a σ ⟨rfl, rfl⟩
   replace H := Option.some.inj H; subst H
   refine AWP_kp [2] [(2, .int .i64 v1)] rfl ?_
   refine AWP_ret ?_
   exact ⟨[.int .i64 v1], by simp, 4, by simp [encL_nil]⟩
theorem c75 {p0 : gL6Rd} {r : Int × gL6Rd} (H : s_l91Word p0 = some r) {σ : AHeap} {w0 : Nat} {W0 : List (List AV)} {r0_ : Nat} (q0 : σ.objs w0 = some ⟨118, 2, W0⟩) (g0 : W0[r0_]? = some [.fsl (encL rI_u8 p0.b), .int .i64 p0.p]) : ACalls Try.prog G 75 [.ptr w0 r0_ 0] σ (fun v σ' => ∃ M : Nat, σ.next ≤ M ∧ v = .int .i64 r.1 ∧ σ' = hp σ.objs [(w0, some ⟨118, 2, W0.set r0_ [.fsl (encL rI_u8 r.2.b), .int .i64 r.2.p]⟩)] M) := by
 refine ACalls_fr (L := [(w0, some ⟨118, 2, W0⟩)]) (Q1 := fun v σ' => ∃ M : Nat, σ.next ≤ M ∧ v = .int .i64 r.1 ∧ σ' = hp E0 [(w0, some ⟨118, 2, W0.set r0_ [.fsl (encL rI_u8 r.2.b), .int .i64 r.2.p]⟩)] M) (by simp [q0]) (fun hlt => ?_) ?_ ⟨_, Try.func75, rfl, rfl⟩
 rotate_left
 ·
  rintro v σ1 ⟨M, h0, rfl, rfl⟩
  exact ⟨_, M, rfl, by simp, by simp; try omega, M, h0, rfl, rfl⟩
 generalize σ.next = N0 at hlt ⊢
 have lw0 : w0 < N0 := hlt _ (.head _) rfl
 have gs_W0 : ∀ x, (W0.set r0_ x)[r0_]? = some x := gsetW g0
 rw [show W0 = W0.set r0_ [.fsl (encL rI_u8 p0.b), .int .i64 p0.p] from (set_same g0).symm]
 refine ACalls_fn tok Try.func75 (by kernel_rfl) rfl Try.ntmps75 Try.results75 rfl ?_
 simp only [argsA, Nat.reduceAdd, hp_next]
 unfold s_l91Word at H
 refine AWP_sr tok [] [0] (fun a σ => a = [(0, .ptr w0 r0_ 0)] ∧ σ = hp E0 [(w0, some ⟨118, 2, W0.set r0_ [.fsl (encL rI_u8 p0.b), .int .i64 p0.p]⟩)] (N0 + 1)) (fun K hK => ?_) ?_
 ·
  skip
  simp -dsimp -implicitDefEqProofs (maxDischargeDepth := 6) [gs_W0, List.set_set]
  exact hK _ _ ⟨rfl, rfl⟩
 rintro a σ ⟨rfl, rfl⟩
 refine AWP_sq [0] fun K1 hK1 => ?_
 obtain ⟨r1, hr1, H⟩ := bindE H
 refine AWP_sr tok [] [0, 4] (fun a σ => ∃ M1 : Nat, N0 + 3 ≤ M1 ∧ a = [(0, .ptr w0 r0_ 0), (4, .int .i64 r1.1)] ∧ σ = hp E0 [(w0, some ⟨118, 2, W0.set r0_ [.fsl (encL rI_u8 r1.2.b), .int .i64 r1.2.p]⟩)] M1) (fun K hK => ?_) ?_
 ·
  skip
  simp -dsimp -implicitDefEqProofs (maxDischargeDepth := 6) [gs_W0, List.set_set]
  refine (c74 (W0 := W0.set r0_ [.fsl (encL rI_u8 p0.b), .int .i64 p0.p]) (r0_ := r0_) (H := hr1) (by simp [gs_W0, List.set_set]) (by simp [gs_W0, List.set_set])).mono ?_; rintro _ _ ⟨M1, fM1_0, rfl, rfl⟩; simp only [hp_next] at fM1_0
  try simp -dsimp -implicitDefEqProofs (maxDischargeDepth := 6) [gs_W0, List.set_set, hp_over_some, hp_over_none]
  exact hK _ _ ⟨M1, (by omega), rfl, rfl⟩
 rintro a σ ⟨M1, fM1_0, rfl, rfl⟩
 refine AWP_block (AWP_thenB ?_)
 refine AWP_sr tok [] [0, 4, 5] (fun a σ => a = [(0, .ptr w0 r0_ 0), (4, .int .i64 r1.1), (5, .bool (ieq r1.1 0))] ∧ σ = hp E0 [(w0, some ⟨118, 2, W0.set r0_ [.fsl (encL rI_u8 r1.2.b), .int .i64 r1.2.p]⟩)] (M1 + 2)) (fun K hK => ?_) ?_
 ·
  skip
  simp -dsimp -implicitDefEqProofs (maxDischargeDepth := 6) [gs_W0, List.set_set]
  exact hK _ _ ⟨rfl, rfl⟩
 rintro a σ ⟨rfl, rfl⟩
 refine AWP_cond (ieq r1.1 0) rfl (fun C1 => ?_) (fun C1 => ?_)
 ·
  replace H := ifT C1 H
  obtain ⟨r2, hr2, H⟩ := bindE H
  obtain ⟨v3, hv3, H⟩ := bindE H
  have q0 : ∀ σ i, buildSliceA T 22 true i 8 [(0, .int .i64 (-2147483648)), (1, .int .i64 2147483647), (2, .int .i64 (-1)), (3, .int .i64 0), (4, .int .i64 1), (5, .int .i64 (-2147483647)), (6, .int .i64 65536), (7, .int .i64 (-65536))] σ = some (.fsl (encL rI ([-2147483648, 2147483647, -1, 0, 1, -2147483647, 65536, -65536] : List Int)), σ) := fun _ _ => rfl
  refine AWP_sr tok [0] [2] (fun a σ => ∃ M2 : Nat, M1 + 8 ≤ M2 ∧ a = [(2, .int .i64 v3)] ∧ σ = hp E0 [(w0, some ⟨118, 2, W0.set r0_ [.fsl (encL rI_u8 r2.2.b), .int .i64 r2.2.p]⟩)] M2) (fun K hK => ?_) ?_
  ·
   skip
   simp -dsimp -implicitDefEqProofs (maxDischargeDepth := 6) [gs_W0, List.set_set, q0, ix22 hv3]
   refine (c74 (W0 := W0.set r0_ [.fsl (encL rI_u8 r1.2.b), .int .i64 r1.2.p]) (r0_ := r0_) (H := hr2) (by simp [gs_W0, List.set_set, q0, ix22 hv3]) (by simp [gs_W0, List.set_set, q0, ix22 hv3])).mono ?_; rintro _ _ ⟨M2, fM2_0, rfl, rfl⟩; simp only [hp_next] at fM2_0
   try simp -dsimp -implicitDefEqProofs (maxDischargeDepth := 6) [gs_W0, List.set_set, q0, ix22 hv3, hp_over_some, hp_over_none]
   exact hK _ _ ⟨M2, (by omega), rfl, rfl⟩
  rintro a σ ⟨M2, fM2_0, rfl, rfl⟩
  replace H := Option.some.inj H; subst H
  refine AWP_kp [2] [(2, .int .i64 v3)] rfl ?_
  refine AWP_ret ?_
  refine ⟨[.int .i64 v3], by simp [gs_W0], M2, by omega, ?_, ?_⟩
  ·
   simp [encL_nil]
  ·
   first | rfl | simp [List.set_set]
 ·
  replace H := ifF C1 H
  refine AWP_sr tok [] [0, 4, 12] (fun a σ => a = [(0, .ptr w0 r0_ 0), (4, .int .i64 r1.1), (12, .bool (ieq r1.1 1))] ∧ σ = hp E0 [(w0, some ⟨118, 2, W0.set r0_ [.fsl (encL rI_u8 r1.2.b), .int .i64 r1.2.p]⟩)] (M1 + 4)) (fun K hK => ?_) ?_
  ·
   skip
   simp -dsimp -implicitDefEqProofs (maxDischargeDepth := 6) [gs_W0, List.set_set]
   exact hK _ _ ⟨rfl, rfl⟩
  rintro a σ ⟨rfl, rfl⟩
  refine AWP_cond (ieq r1.1 1) rfl (fun C2 => ?_) (fun C2 => ?_)
  ·
   replace H := ifT C2 H
   obtain ⟨r4, hr4, H⟩ := bindE H
   obtain ⟨r5, hr5, H⟩ := bindE H
   obtain ⟨r6, hr6, H⟩ := bindE H
   obtain ⟨r7, hr7, H⟩ := bindE H
   obtain ⟨r8, hr8, H⟩ := bindE H
   refine AWP_sr tok [] [2] (fun a σ => ∃ M3 : Nat, ∃ M4 : Nat, ∃ M5 : Nat, ∃ M6 : Nat, M1 + 20 ≤ M3 ∧ M3 ≤ M4 ∧ M4 ≤ M5 ∧ M5 ≤ M6 ∧ a = [(2, .int .i64 r8)] ∧ σ = hp E0 [(w0, some ⟨118, 2, W0.set r0_ [.fsl (encL rI_u8 r7.2.b), .int .i64 r7.2.p]⟩)] M6) (fun K hK => ?_) ?_
   ·
    skip
    simp -dsimp -implicitDefEqProofs (maxDischargeDepth := 6) [gs_W0, List.set_set]
    refine (c74 (W0 := W0.set r0_ [.fsl (encL rI_u8 r1.2.b), .int .i64 r1.2.p]) (r0_ := r0_) (H := hr4) (by simp [gs_W0, List.set_set]) (by simp [gs_W0, List.set_set])).mono ?_; rintro _ _ ⟨M3, fM3_0, rfl, rfl⟩; simp only [hp_next] at fM3_0
    try simp -dsimp -implicitDefEqProofs (maxDischargeDepth := 6) [gs_W0, List.set_set, hp_over_some, hp_over_none]
    refine (c74 (W0 := W0.set r0_ [.fsl (encL rI_u8 r4.2.b), .int .i64 r4.2.p]) (r0_ := r0_) (H := hr5) (by simp [gs_W0, List.set_set, hp_over_some, hp_over_none]) (by simp [gs_W0, List.set_set, hp_over_some, hp_over_none])).mono ?_; rintro _ _ ⟨M4, fM4_0, rfl, rfl⟩; simp only [hp_next] at fM4_0
    try simp -dsimp -implicitDefEqProofs (maxDischargeDepth := 6) [gs_W0, List.set_set, hp_over_some, hp_over_none, hp_over_some, hp_over_none]
    refine (c74 (W0 := W0.set r0_ [.fsl (encL rI_u8 r5.2.b), .int .i64 r5.2.p]) (r0_ := r0_) (H := hr6) (by simp [gs_W0, List.set_set, hp_over_some, hp_over_none, hp_over_some, hp_over_none]) (by simp [gs_W0, List.set_set, hp_over_some, hp_over_none, hp_over_some, hp_over_none])).mono ?_; rintro _ _ ⟨M5, fM5_0, rfl, rfl⟩; simp only [hp_next] at fM5_0
    try simp -dsimp -implicitDefEqProofs (maxDischargeDepth := 6) [gs_W0, List.set_set, hp_over_some, hp_over_none, hp_over_some, hp_over_none, hp_over_some, hp_over_none]
    refine (c74 (W0 := W0.set r0_ [.fsl (encL rI_u8 r6.2.b), .int .i64 r6.2.p]) (r0_ := r0_) (H := hr7) (by simp [gs_W0, List.set_set, hp_over_some, hp_over_none, hp_over_some, hp_over_none, hp_over_some, hp_over_none]) (by simp [gs_W0, List.set_set, hp_over_some, hp_over_none, hp_over_some, hp_over_none, hp_over_some, hp_over_none])).mono ?_; rintro _ _ ⟨M6, fM6_0, rfl, rfl⟩; simp only [hp_next] at fM6_0
    try simp -dsimp -implicitDefEqProofs (maxDischargeDepth := 6) [gs_W0, List.set_set, hp_over_some, hp_over_none, hp_over_some, hp_over_none, hp_over_some, hp_over_none, hp_over_some, hp_over_none]
    refine (c95 hr8).app ?_; try simp -dsimp -implicitDefEqProofs (maxDischargeDepth := 6) [gs_W0, List.set_set, hp_over_some, hp_over_none, hp_over_some, hp_over_none, hp_over_some, hp_over_none, hp_over_some, hp_over_none]
    exact hK _ _ ⟨M3, M4, M5, M6, (by omega), (by omega), (by omega), (by omega), rfl, rfl⟩
   rintro a σ ⟨M3, M4, M5, M6, fM3_0, fM4_0, fM5_0, fM6_0, rfl, rfl⟩
   replace H := Option.some.inj H; subst H
   refine AWP_kp [2] [(2, .int .i64 r8)] rfl ?_
   refine AWP_ret ?_
   refine ⟨[.int .i64 r8], by simp [gs_W0], M6, by omega, ?_, ?_⟩
   ·
    simp [encL_nil]
   ·
    first | rfl | simp [List.set_set]
  ·
   replace H := ifF C2 H
   refine AWP_sr tok [] [0, 29] (fun a σ => a = [(0, .ptr w0 r0_ 0), (29, .bool (ieq r1.1 2))] ∧ σ = hp E0 [(w0, some ⟨118, 2, W0.set r0_ [.fsl (encL rI_u8 r1.2.b), .int .i64 r1.2.p]⟩)] (M1 + 6)) (fun K hK => ?_) ?_
   ·
    skip
    simp -dsimp -implicitDefEqProofs (maxDischargeDepth := 6) [gs_W0, List.set_set]
    exact hK _ _ ⟨rfl, rfl⟩
   rintro a σ ⟨rfl, rfl⟩
   refine AWP_cond (ieq r1.1 2) rfl (fun C3 => ?_) (fun C3 => ?_)
   ·
    replace H := ifT C3 H
    obtain ⟨r9, hr9, H⟩ := bindE H
    refine AWP_sr tok [] [2] (fun a σ => ∃ M7 : Nat, M1 + 10 ≤ M7 ∧ a = [(2, .int .i64 (isub .i64 0 r9.1))] ∧ σ = hp E0 [(w0, some ⟨118, 2, W0.set r0_ [.fsl (encL rI_u8 r9.2.b), .int .i64 r9.2.p]⟩)] M7) (fun K hK => ?_) ?_
    ·
     skip
     simp -dsimp -implicitDefEqProofs (maxDischargeDepth := 6) [gs_W0, List.set_set]
     refine (c74 (W0 := W0.set r0_ [.fsl (encL rI_u8 r1.2.b), .int .i64 r1.2.p]) (r0_ := r0_) (H := hr9) (by simp [gs_W0, List.set_set]) (by simp [gs_W0, List.set_set])).mono ?_; rintro _ _ ⟨M7, fM7_0, rfl, rfl⟩; simp only [hp_next] at fM7_0
     try simp -dsimp -implicitDefEqProofs (maxDischargeDepth := 6) [gs_W0, List.set_set, hp_over_some, hp_over_none]
     exact hK _ _ ⟨M7, (by omega), rfl, rfl⟩
    rintro a σ ⟨M7, fM7_0, rfl, rfl⟩
    replace H := Option.some.inj H; subst H
    refine AWP_kp [2] [(2, .int .i64 (isub .i64 0 r9.1))] rfl ?_
    refine AWP_ret ?_
    refine ⟨[.int .i64 (isub .i64 0 r9.1)], by simp [gs_W0], M7, by omega, ?_, ?_⟩
    ·
     simp [encL_nil]
    ·
     first | rfl | simp [List.set_set]
   ·
    replace H := ifF C3 H
    refine AWP_skip ?_
    show K1 _ _
    refine keepE (l := [0]) (x := [(0, .ptr w0 r0_ 0)]) rfl fun a' ha => ?_
    refine hK1 _ _ ?_; rw [ha]
    refine Rc.mk ?_
    obtain ⟨r10, hr10, H⟩ := bindE H
    refine AWP_sr tok [] [2] (fun a σ => ∃ M8 : Nat, M1 + 9 ≤ M8 ∧ a = [(2, .int .i64 r10.1)] ∧ σ = hp E0 [(w0, some ⟨118, 2, W0.set r0_ [.fsl (encL rI_u8 r10.2.b), .int .i64 r10.2.p]⟩)] M8) (fun K hK => ?_) ?_
    ·
     skip
     simp -dsimp -implicitDefEqProofs (maxDischargeDepth := 6) [gs_W0, List.set_set]
     refine (c74 (W0 := W0.set r0_ [.fsl (encL rI_u8 r1.2.b), .int .i64 r1.2.p]) (r0_ := r0_) (H := hr10) (by simp [gs_W0, List.set_set]) (by simp [gs_W0, List.set_set])).mono ?_; rintro _ _ ⟨M8, fM8_0, rfl, rfl⟩; simp only [hp_next] at fM8_0
     try simp -dsimp -implicitDefEqProofs (maxDischargeDepth := 6) [gs_W0, List.set_set, hp_over_some, hp_over_none]
     exact hK _ _ ⟨M8, (by omega), rfl, rfl⟩
    rintro a σ ⟨M8, fM8_0, rfl, rfl⟩
    replace H := Option.some.inj H; subst H
    refine AWP_kp [2] [(2, .int .i64 r10.1)] rfl ?_
    refine AWP_ret ?_
    refine ⟨[.int .i64 r10.1], by simp [gs_W0], M8, by omega, ?_, ?_⟩
    ·
     simp [encL_nil]
    ·
     first | rfl | simp [List.set_set]
theorem c112 {p0 : gL6Rd} {r : Int × gL6Rd} (H : s_l91Op p0 = some r) {σ : AHeap} {w0 : Nat} {W0 : List (List AV)} {r0_ : Nat} (q0 : σ.objs w0 = some ⟨118, 2, W0⟩) (g0 : W0[r0_]? = some [.fsl (encL rI_u8 p0.b), .int .i64 p0.p]) : ACalls Try.prog G 112 [.ptr w0 r0_ 0] σ (fun v σ' => ∃ M : Nat, σ.next ≤ M ∧ v = .int .i64 r.1 ∧ σ' = hp σ.objs [(w0, some ⟨118, 2, W0.set r0_ [.fsl (encL rI_u8 r.2.b), .int .i64 r.2.p]⟩)] M) := by
 refine ACalls_fr (L := [(w0, some ⟨118, 2, W0⟩)]) (Q1 := fun v σ' => ∃ M : Nat, σ.next ≤ M ∧ v = .int .i64 r.1 ∧ σ' = hp E0 [(w0, some ⟨118, 2, W0.set r0_ [.fsl (encL rI_u8 r.2.b), .int .i64 r.2.p]⟩)] M) (by simp [q0]) (fun hlt => ?_) ?_ ⟨_, Try.func112, rfl, rfl⟩
 rotate_left
 ·
  rintro v σ1 ⟨M, h0, rfl, rfl⟩
  exact ⟨_, M, rfl, by simp, by simp; try omega, M, h0, rfl, rfl⟩
 generalize σ.next = N0 at hlt ⊢
 have lw0 : w0 < N0 := hlt _ (.head _) rfl
 have gs_W0 : ∀ x, (W0.set r0_ x)[r0_]? = some x := gsetW g0
 rw [show W0 = W0.set r0_ [.fsl (encL rI_u8 p0.b), .int .i64 p0.p] from (set_same g0).symm]
 refine ACalls_fn tok Try.func112 (by kernel_rfl) rfl Try.ntmps112 Try.results112 rfl ?_
 simp only [argsA, Nat.reduceAdd, hp_next]
 unfold s_l91Op at H
 refine AWP_sr tok [] [0] (fun a σ => a = [(0, .ptr w0 r0_ 0)] ∧ σ = hp E0 [(w0, some ⟨118, 2, W0.set r0_ [.fsl (encL rI_u8 p0.b), .int .i64 p0.p]⟩)] (N0 + 1)) (fun K hK => ?_) ?_
 ·
  skip
  simp -dsimp -implicitDefEqProofs (maxDischargeDepth := 6) [gs_W0, List.set_set]
  exact hK _ _ ⟨rfl, rfl⟩
 rintro a σ ⟨rfl, rfl⟩
 obtain ⟨r1, hr1, H⟩ := bindE H
 refine AWP_sr tok [] [2] (fun a σ => ∃ M1 : Nat, N0 + 5 ≤ M1 ∧ a = [(2, .int .i64 (iadd .i64 1 r1.1))] ∧ σ = hp E0 [(w0, some ⟨118, 2, W0.set r0_ [.fsl (encL rI_u8 r1.2.b), .int .i64 r1.2.p]⟩)] M1) (fun K hK => ?_) ?_
 ·
  skip
  simp -dsimp -implicitDefEqProofs (maxDischargeDepth := 6) [gs_W0, List.set_set]
  refine (c74 (W0 := W0.set r0_ [.fsl (encL rI_u8 p0.b), .int .i64 p0.p]) (r0_ := r0_) (H := hr1) (by simp [gs_W0, List.set_set]) (by simp [gs_W0, List.set_set])).mono ?_; rintro _ _ ⟨M1, fM1_0, rfl, rfl⟩; simp only [hp_next] at fM1_0
  try simp -dsimp -implicitDefEqProofs (maxDischargeDepth := 6) [gs_W0, List.set_set, hp_over_some, hp_over_none]
  exact hK _ _ ⟨M1, (by omega), rfl, rfl⟩
 rintro a σ ⟨M1, fM1_0, rfl, rfl⟩
 replace H := Option.some.inj H; subst H
 refine AWP_kp [2] [(2, .int .i64 (iadd .i64 1 r1.1))] rfl ?_
 refine AWP_ret ?_
 refine ⟨[.int .i64 (iadd .i64 1 r1.1)], by simp [gs_W0], M1, by omega, ?_, ?_⟩
 ·
  simp [encL_nil]
 ·
  first | rfl | simp [List.set_set]
theorem c94 {p0 : gL6Rd} {p1 : Int} {r : gQuad × gL6Rd} (H : s_l93Quad p0 p1 = some r) {σ : AHeap} {w0 : Nat} {W0 : List (List AV)} {r0_ : Nat} (q0 : σ.objs w0 = some ⟨118, 2, W0⟩) (g0 : W0[r0_]? = some [.fsl (encL rI_u8 p0.b), .int .i64 p0.p]) : ACalls Try.prog G 94 [.ptr w0 r0_ 0, .int .i64 p1] σ (fun v σ' => ∃ M : Nat, σ.next ≤ M ∧ v = .agg [.int .i64 r.1.Op, .int .i64 r.1.Dst, .int .i64 r.1.A, .int .i64 r.1.B, .int .i64 r.1.N] ∧ σ' = hp σ.objs [(w0, some ⟨118, 2, W0.set r0_ [.fsl (encL rI_u8 r.2.b), .int .i64 r.2.p]⟩)] M) := by
 refine ACalls_fr (L := [(w0, some ⟨118, 2, W0⟩)]) (Q1 := fun v σ' => ∃ M : Nat, σ.next ≤ M ∧ v = .agg [.int .i64 r.1.Op, .int .i64 r.1.Dst, .int .i64 r.1.A, .int .i64 r.1.B, .int .i64 r.1.N] ∧ σ' = hp E0 [(w0, some ⟨118, 2, W0.set r0_ [.fsl (encL rI_u8 r.2.b), .int .i64 r.2.p]⟩)] M) (by simp [q0]) (fun hlt => ?_) ?_ ⟨_, Try.func94, rfl, rfl⟩
 rotate_left
 ·
  rintro v σ1 ⟨M, h0, rfl, rfl⟩
  exact ⟨_, M, rfl, by simp, by simp; try omega, M, h0, rfl, rfl⟩
 generalize σ.next = N0 at hlt ⊢
 have lw0 : w0 < N0 := hlt _ (.head _) rfl
 have gs_W0 : ∀ x, (W0.set r0_ x)[r0_]? = some x := gsetW g0
 rw [show W0 = W0.set r0_ [.fsl (encL rI_u8 p0.b), .int .i64 p0.p] from (set_same g0).symm]
 refine ACalls_thaw 4 ?_
 refine ACalls_fn tok Try.func94 (by kernel_rfl) rfl Try.ntmps94 Try.results94 rfl ?_
 simp only [argsA, Nat.reduceAdd, hp_next]
 unfold s_l93Quad at H
 refine AWP_sr tok [] [0, 1, 4] (fun a σ => a = [(0, .ptr w0 r0_ 0), (1, .int .i64 p1), (4, .ptr N0 0 0)] ∧ σ = hp E0 [(w0, some ⟨118, 2, W0.set r0_ [.fsl (encL rI_u8 p0.b), .int .i64 p0.p]⟩), (N0, some ⟨123, 5, [[.int .i64 0, .int .i64 0, .int .i64 0, .int .i64 0, .int .i64 0]]⟩)] (N0 + 1)) (fun K hK => ?_) ?_
 ·
  skip
  have e0 := nq (a := w0) (b := N0) (by omega)
  simp -dsimp -implicitDefEqProofs (maxDischargeDepth := 6) [e0, gs_W0, List.set_set]
  exact hK _ _ ⟨rfl, rfl⟩
 rintro a σ ⟨rfl, rfl⟩
 refine AWP_sq [0, 4] fun K1 hK1 => ?_
 obtain ⟨r1, hr1, H⟩ := bindE H
 refine AWP_sr tok [] [0, 1, 4, 13] (fun a σ => ∃ M1 : Nat, N0 + 3 ≤ M1 ∧ a = [(0, .ptr w0 r0_ 0), (1, .int .i64 p1), (4, .ptr N0 0 0), (13, .int .i64 r1.1)] ∧ σ = hp E0 [(w0, some ⟨118, 2, W0.set r0_ [.fsl (encL rI_u8 r1.2.b), .int .i64 r1.2.p]⟩), (N0, some ⟨123, 5, [[.int .i64 0, .int .i64 0, .int .i64 0, .int .i64 0, .int .i64 0]]⟩)] M1) (fun K hK => ?_) ?_
 ·
  skip
  have e0 := nq (a := w0) (b := N0) (by omega)
  simp -dsimp -implicitDefEqProofs (maxDischargeDepth := 6) [e0, gs_W0, List.set_set]
  refine (c74 (W0 := W0.set r0_ [.fsl (encL rI_u8 p0.b), .int .i64 p0.p]) (r0_ := r0_) (H := hr1) (by simp [e0, gs_W0, List.set_set]) (by simp [e0, gs_W0, List.set_set])).mono ?_; rintro _ _ ⟨M1, fM1_0, rfl, rfl⟩; simp only [hp_next] at fM1_0
  try simp -dsimp -implicitDefEqProofs (maxDischargeDepth := 6) [e0, gs_W0, List.set_set, hp_over_some, hp_over_none]
  exact hK _ _ ⟨M1, (by omega), rfl, rfl⟩
 rintro a σ ⟨M1, fM1_0, rfl, rfl⟩
 refine AWP_block (AWP_thenB ?_)
 obtain ⟨j1, hj1, H⟩ := bindE H
 refine AWP_seq (AWP_named fun K5 hK5 => ?_)
 have hJ1 : ∀ a σ, Rc G 90 N0 (fun a σ => ∃ M2 : Nat, N0 ≤ M2 ∧ N0 < M2 ∧ a = [(0, .ptr w0 r0_ 0), (1, .int .i64 p1), (4, .ptr N0 0 0), (13, .int .i64 r1.1), (14, .bool j1)] ∧ σ = hp E0 [(w0, some ⟨118, 2, W0.set r0_ [.fsl (encL rI_u8 r1.2.b), .int .i64 r1.2.p]⟩), (N0, some ⟨123, 5, [[.int .i64 0, .int .i64 0, .int .i64 0, .int .i64 0, .int .i64 0]]⟩)] M2) (a.keep [0, 1, 4, 13, 14]) σ → K5 a σ := by
  rintro a σ ⟨b, τ, hr, M2, fM2_0, fM2_1, rfl, rfl⟩
  refine hK5 _ _ (AWP_keep [0, 1, 4, 13, 14] (AWP_ref hr ?_))
  refine AWP_cond j1 rfl (fun C1 => ?_) (fun C1 => ?_)
  ·
   replace H := ifT C1 H
   obtain ⟨r3, hr3, H⟩ := bindE H
   obtain ⟨r4, hr4, H⟩ := bindE H
   obtain ⟨r5, hr5, H⟩ := bindE H
   obtain ⟨v6, hv6, H⟩ := bindE H
   have q0 : ∀ σ i, buildSliceA T 22 true i 4 [(0, .int .i64 0), (1, .int .i64 1), (2, .int .i64 2), (3, .int .i64 r4.1)] σ = some (.fsl (encL rI ([0, 1, 2, r4.1] : List Int)), σ) := fun _ _ => rfl
   refine AWP_sr tok [4] [4] (fun a σ => ∃ M3 : Nat, ∃ M4 : Nat, ∃ M5 : Nat, M2 + 11 ≤ M3 ∧ M3 ≤ M4 ∧ M4 ≤ M5 ∧ a = [(4, .ptr N0 0 0)] ∧ σ = hp E0 [(w0, some ⟨118, 2, W0.set r0_ [.fsl (encL rI_u8 r5.2.b), .int .i64 r5.2.p]⟩), (N0, some ⟨123, 5, [[.int .i64 1, .int .i64 r3.1, .int .i64 0, .int .i64 0, .int .i64 v6]]⟩)] M5) (fun K hK => ?_) ?_
   ·
    skip
    have e0 := nq (a := w0) (b := N0) (by omega)
    simp -dsimp -implicitDefEqProofs (maxDischargeDepth := 6) [e0, gs_W0, List.set_set, q0, ix22 hv6]
    refine (c111 (W0 := W0.set r0_ [.fsl (encL rI_u8 r1.2.b), .int .i64 r1.2.p]) (r0_ := r0_) (H := hr3) (by simp [e0, gs_W0, List.set_set, q0, ix22 hv6]) (by simp [e0, gs_W0, List.set_set, q0, ix22 hv6])).mono ?_; rintro _ _ ⟨M3, fM3_0, rfl, rfl⟩; simp only [hp_next] at fM3_0
    try simp -dsimp -implicitDefEqProofs (maxDischargeDepth := 6) [e0, gs_W0, List.set_set, q0, ix22 hv6, hp_over_some, hp_over_none]
    refine (c75 (W0 := W0.set r0_ [.fsl (encL rI_u8 r3.2.b), .int .i64 r3.2.p]) (r0_ := r0_) (H := hr4) (by simp [e0, gs_W0, List.set_set, q0, ix22 hv6, hp_over_some, hp_over_none]) (by simp [e0, gs_W0, List.set_set, q0, ix22 hv6, hp_over_some, hp_over_none])).mono ?_; rintro _ _ ⟨M4, fM4_0, rfl, rfl⟩; simp only [hp_next] at fM4_0
    try simp -dsimp -implicitDefEqProofs (maxDischargeDepth := 6) [e0, gs_W0, List.set_set, q0, ix22 hv6, hp_over_some, hp_over_none, hp_over_some, hp_over_none]
    refine (c74 (W0 := W0.set r0_ [.fsl (encL rI_u8 r4.2.b), .int .i64 r4.2.p]) (r0_ := r0_) (H := hr5) (by simp [e0, gs_W0, List.set_set, q0, ix22 hv6, hp_over_some, hp_over_none, hp_over_some, hp_over_none]) (by simp [e0, gs_W0, List.set_set, q0, ix22 hv6, hp_over_some, hp_over_none, hp_over_some, hp_over_none])).mono ?_; rintro _ _ ⟨M5, fM5_0, rfl, rfl⟩; simp only [hp_next] at fM5_0
    try simp -dsimp -implicitDefEqProofs (maxDischargeDepth := 6) [e0, gs_W0, List.set_set, q0, ix22 hv6, hp_over_some, hp_over_none, hp_over_some, hp_over_none, hp_over_some, hp_over_none]
    exact hK _ _ ⟨M3, M4, M5, (by omega), (by omega), (by omega), rfl, rfl⟩
   rintro a σ ⟨M3, M4, M5, fM3_0, fM4_0, fM5_0, rfl, rfl⟩
   replace H := Option.some.inj H; subst H
   refine AWP_kp [4] [(4, .ptr N0 0 0)] rfl ?_
   have z0 := nq (a := w0) (b := N0) (by omega)
   refine AWP_ret ?_
   refine ⟨[.agg [.int .i64 1, .int .i64 r3.1, .int .i64 0, .int .i64 0, .int .i64 v6]], by simp [z0, gs_W0], (fun o => [N0].contains o), M5, by omega, ?_, ?_⟩
   ·
    simp [encL_nil, z0, gs_W0]
   ·
    rw [cutD (L' := [(w0, some ⟨118, 2, W0.set r0_ [.fsl (encL rI_u8 r5.2.b), .int .i64 r5.2.p]⟩)]) (by simp [z0, gs_W0])]
    first | done | rfl | simp [List.set_set]
  ·
   replace H := ifF C1 H
   obtain ⟨j2, hj2, H⟩ := bindE H
   refine AWP_seq (AWP_named fun K4 hK4 => ?_)
   have hJ2 : ∀ a σ, Rc G 90 N0 (fun a σ => ∃ M6 : Nat, N0 ≤ M6 ∧ N0 < M6 ∧ a = [(0, .ptr w0 r0_ 0), (1, .int .i64 p1), (4, .ptr N0 0 0), (13, .int .i64 r1.1), (27, .bool j2)] ∧ σ = hp E0 [(w0, some ⟨118, 2, W0.set r0_ [.fsl (encL rI_u8 r1.2.b), .int .i64 r1.2.p]⟩), (N0, some ⟨123, 5, [[.int .i64 0, .int .i64 0, .int .i64 0, .int .i64 0, .int .i64 0]]⟩)] M6) (a.keep [0, 1, 4, 13, 27]) σ → K4 a σ := by
    rintro a σ ⟨b, τ, hr, M6, fM6_0, fM6_1, rfl, rfl⟩
    refine hK4 _ _ (AWP_keep [0, 1, 4, 13, 27] (AWP_ref hr ?_))
    refine AWP_cond j2 rfl (fun C2 => ?_) (fun C2 => ?_)
    ·
     replace H := ifT C2 H
     obtain ⟨r8, hr8, H⟩ := bindE H
     refine AWP_sr tok [] [0, 4, 5] (fun a σ => ∃ M7 : Nat, M6 + 3 ≤ M7 ∧ a = [(0, .ptr w0 r0_ 0), (4, .ptr N0 0 0), (5, .int .i64 r8.1)] ∧ σ = hp E0 [(w0, some ⟨118, 2, W0.set r0_ [.fsl (encL rI_u8 r8.2.b), .int .i64 r8.2.p]⟩), (N0, some ⟨123, 5, [[.int .i64 0, .int .i64 0, .int .i64 0, .int .i64 0, .int .i64 0]]⟩)] M7) (fun K hK => ?_) ?_
     ·
      skip
      have e0 := nq (a := w0) (b := N0) (by omega)
      simp -dsimp -implicitDefEqProofs (maxDischargeDepth := 6) [e0, gs_W0, List.set_set]
      refine (c111 (W0 := W0.set r0_ [.fsl (encL rI_u8 r1.2.b), .int .i64 r1.2.p]) (r0_ := r0_) (H := hr8) (by simp [e0, gs_W0, List.set_set]) (by simp [e0, gs_W0, List.set_set])).mono ?_; rintro _ _ ⟨M7, fM7_0, rfl, rfl⟩; simp only [hp_next] at fM7_0
      try simp -dsimp -implicitDefEqProofs (maxDischargeDepth := 6) [e0, gs_W0, List.set_set, hp_over_some, hp_over_none]
      exact hK _ _ ⟨M7, (by omega), rfl, rfl⟩
     rintro a σ ⟨M7, fM7_0, rfl, rfl⟩
     obtain ⟨r9, hr9, H⟩ := bindE H
     refine AWP_sr tok [] [4] (fun a σ => ∃ M8 : Nat, M7 + 5 ≤ M8 ∧ a = [(4, .ptr N0 0 0)] ∧ σ = hp E0 [(w0, some ⟨118, 2, W0.set r0_ [.fsl (encL rI_u8 r9.2.b), .int .i64 r9.2.p]⟩), (N0, some ⟨123, 5, [[.int .i64 2, .int .i64 r8.1, .int .i64 r9.1, .int .i64 0, .int .i64 0]]⟩)] M8) (fun K hK => ?_) ?_
     ·
      skip
      have e0 := nq (a := w0) (b := N0) (by omega)
      simp -dsimp -implicitDefEqProofs (maxDischargeDepth := 6) [e0, gs_W0, List.set_set]
      refine (c111 (W0 := W0.set r0_ [.fsl (encL rI_u8 r8.2.b), .int .i64 r8.2.p]) (r0_ := r0_) (H := hr9) (by simp [e0, gs_W0, List.set_set]) (by simp [e0, gs_W0, List.set_set])).mono ?_; rintro _ _ ⟨M8, fM8_0, rfl, rfl⟩; simp only [hp_next] at fM8_0
      try simp -dsimp -implicitDefEqProofs (maxDischargeDepth := 6) [e0, gs_W0, List.set_set, hp_over_some, hp_over_none]
      exact hK _ _ ⟨M8, (by omega), rfl, rfl⟩
     rintro a σ ⟨M8, fM8_0, rfl, rfl⟩
     replace H := Option.some.inj H; subst H
     refine AWP_kp [4] [(4, .ptr N0 0 0)] rfl ?_
     have z1 := nq (a := w0) (b := N0) (by omega)
     refine AWP_ret ?_
     refine ⟨[.agg [.int .i64 2, .int .i64 r8.1, .int .i64 r9.1, .int .i64 0, .int .i64 0]], by simp [z1, gs_W0], (fun o => [N0].contains o), M8, by omega, ?_, ?_⟩
     ·
      simp [encL_nil, z1, gs_W0]
     ·
      rw [cutD (L' := [(w0, some ⟨118, 2, W0.set r0_ [.fsl (encL rI_u8 r9.2.b), .int .i64 r9.2.p]⟩)]) (by simp [z1, gs_W0])]
      first | done | rfl | simp [List.set_set]
    ·
     replace H := ifF C2 H
     obtain ⟨j3, hj3, H⟩ := bindE H
     refine AWP_seq (AWP_named fun K3 hK3 => ?_)
     have hJ3 : ∀ a σ, Rc G 90 N0 (fun a σ => ∃ M9 : Nat, N0 ≤ M9 ∧ N0 < M9 ∧ a = [(0, .ptr w0 r0_ 0), (1, .int .i64 p1), (4, .ptr N0 0 0), (13, .int .i64 r1.1), (36, .bool j3)] ∧ σ = hp E0 [(w0, some ⟨118, 2, W0.set r0_ [.fsl (encL rI_u8 r1.2.b), .int .i64 r1.2.p]⟩), (N0, some ⟨123, 5, [[.int .i64 0, .int .i64 0, .int .i64 0, .int .i64 0, .int .i64 0]]⟩)] M9) (a.keep [0, 1, 4, 13, 36]) σ → K3 a σ := by
      rintro a σ ⟨b, τ, hr, M9, fM9_0, fM9_1, rfl, rfl⟩
      refine hK3 _ _ (AWP_keep [0, 1, 4, 13, 36] (AWP_ref hr ?_))
      refine AWP_cond j3 rfl (fun C3 => ?_) (fun C3 => ?_)
      ·
       replace H := ifT C3 H
       obtain ⟨r11, hr11, H⟩ := bindE H
       refine AWP_sr tok [] [0, 4, 6] (fun a σ => ∃ M10 : Nat, M9 + 3 ≤ M10 ∧ a = [(0, .ptr w0 r0_ 0), (4, .ptr N0 0 0), (6, .int .i64 r11.1)] ∧ σ = hp E0 [(w0, some ⟨118, 2, W0.set r0_ [.fsl (encL rI_u8 r11.2.b), .int .i64 r11.2.p]⟩), (N0, some ⟨123, 5, [[.int .i64 0, .int .i64 0, .int .i64 0, .int .i64 0, .int .i64 0]]⟩)] M10) (fun K hK => ?_) ?_
       ·
        skip
        have e0 := nq (a := w0) (b := N0) (by omega)
        simp -dsimp -implicitDefEqProofs (maxDischargeDepth := 6) [e0, gs_W0, List.set_set]
        refine (c111 (W0 := W0.set r0_ [.fsl (encL rI_u8 r1.2.b), .int .i64 r1.2.p]) (r0_ := r0_) (H := hr11) (by simp [e0, gs_W0, List.set_set]) (by simp [e0, gs_W0, List.set_set])).mono ?_; rintro _ _ ⟨M10, fM10_0, rfl, rfl⟩; simp only [hp_next] at fM10_0
        try simp -dsimp -implicitDefEqProofs (maxDischargeDepth := 6) [e0, gs_W0, List.set_set, hp_over_some, hp_over_none]
        exact hK _ _ ⟨M10, (by omega), rfl, rfl⟩
       rintro a σ ⟨M10, fM10_0, rfl, rfl⟩
       obtain ⟨r12, hr12, H⟩ := bindE H
       refine AWP_sr tok [] [0, 4, 6, 7] (fun a σ => ∃ M11 : Nat, M10 + 3 ≤ M11 ∧ a = [(0, .ptr w0 r0_ 0), (4, .ptr N0 0 0), (6, .int .i64 r11.1), (7, .int .i64 r12.1)] ∧ σ = hp E0 [(w0, some ⟨118, 2, W0.set r0_ [.fsl (encL rI_u8 r12.2.b), .int .i64 r12.2.p]⟩), (N0, some ⟨123, 5, [[.int .i64 0, .int .i64 0, .int .i64 0, .int .i64 0, .int .i64 0]]⟩)] M11) (fun K hK => ?_) ?_
       ·
        skip
        have e0 := nq (a := w0) (b := N0) (by omega)
        simp -dsimp -implicitDefEqProofs (maxDischargeDepth := 6) [e0, gs_W0, List.set_set]
        refine (c111 (W0 := W0.set r0_ [.fsl (encL rI_u8 r11.2.b), .int .i64 r11.2.p]) (r0_ := r0_) (H := hr12) (by simp [e0, gs_W0, List.set_set]) (by simp [e0, gs_W0, List.set_set])).mono ?_; rintro _ _ ⟨M11, fM11_0, rfl, rfl⟩; simp only [hp_next] at fM11_0
        try simp -dsimp -implicitDefEqProofs (maxDischargeDepth := 6) [e0, gs_W0, List.set_set, hp_over_some, hp_over_none]
        exact hK _ _ ⟨M11, (by omega), rfl, rfl⟩
       rintro a σ ⟨M11, fM11_0, rfl, rfl⟩
       obtain ⟨r13, hr13, H⟩ := bindE H
       refine AWP_sr tok [] [0, 4, 6, 7, 8] (fun a σ => ∃ M12 : Nat, M11 + 3 ≤ M12 ∧ a = [(0, .ptr w0 r0_ 0), (4, .ptr N0 0 0), (6, .int .i64 r11.1), (7, .int .i64 r12.1), (8, .int .i64 r13.1)] ∧ σ = hp E0 [(w0, some ⟨118, 2, W0.set r0_ [.fsl (encL rI_u8 r13.2.b), .int .i64 r13.2.p]⟩), (N0, some ⟨123, 5, [[.int .i64 0, .int .i64 0, .int .i64 0, .int .i64 0, .int .i64 0]]⟩)] M12) (fun K hK => ?_) ?_
       ·
        skip
        have e0 := nq (a := w0) (b := N0) (by omega)
        simp -dsimp -implicitDefEqProofs (maxDischargeDepth := 6) [e0, gs_W0, List.set_set]
        refine (c111 (W0 := W0.set r0_ [.fsl (encL rI_u8 r12.2.b), .int .i64 r12.2.p]) (r0_ := r0_) (H := hr13) (by simp [e0, gs_W0, List.set_set]) (by simp [e0, gs_W0, List.set_set])).mono ?_; rintro _ _ ⟨M12, fM12_0, rfl, rfl⟩; simp only [hp_next] at fM12_0
        try simp -dsimp -implicitDefEqProofs (maxDischargeDepth := 6) [e0, gs_W0, List.set_set, hp_over_some, hp_over_none]
        exact hK _ _ ⟨M12, (by omega), rfl, rfl⟩
       rintro a σ ⟨M12, fM12_0, rfl, rfl⟩
       obtain ⟨r14, hr14, H⟩ := bindE H
       refine AWP_sr tok [] [4] (fun a σ => ∃ M13 : Nat, M12 + 7 ≤ M13 ∧ a = [(4, .ptr N0 0 0)] ∧ σ = hp E0 [(w0, some ⟨118, 2, W0.set r0_ [.fsl (encL rI_u8 r14.2.b), .int .i64 r14.2.p]⟩), (N0, some ⟨123, 5, [[.int .i64 3, .int .i64 r11.1, .int .i64 r12.1, .int .i64 r13.1, .int .i64 r14.1]]⟩)] M13) (fun K hK => ?_) ?_
       ·
        skip
        have e0 := nq (a := w0) (b := N0) (by omega)
        simp -dsimp -implicitDefEqProofs (maxDischargeDepth := 6) [e0, gs_W0, List.set_set]
        refine (c112 (W0 := W0.set r0_ [.fsl (encL rI_u8 r13.2.b), .int .i64 r13.2.p]) (r0_ := r0_) (H := hr14) (by simp [e0, gs_W0, List.set_set]) (by simp [e0, gs_W0, List.set_set])).mono ?_; rintro _ _ ⟨M13, fM13_0, rfl, rfl⟩; simp only [hp_next] at fM13_0
        try simp -dsimp -implicitDefEqProofs (maxDischargeDepth := 6) [e0, gs_W0, List.set_set, hp_over_some, hp_over_none]
        exact hK _ _ ⟨M13, (by omega), rfl, rfl⟩
       rintro a σ ⟨M13, fM13_0, rfl, rfl⟩
       replace H := Option.some.inj H; subst H
       refine AWP_kp [4] [(4, .ptr N0 0 0)] rfl ?_
       have z2 := nq (a := w0) (b := N0) (by omega)
       refine AWP_ret ?_
       refine ⟨[.agg [.int .i64 3, .int .i64 r11.1, .int .i64 r12.1, .int .i64 r13.1, .int .i64 r14.1]], by simp [z2, gs_W0], (fun o => [N0].contains o), M13, by omega, ?_, ?_⟩
       ·
        simp [encL_nil, z2, gs_W0]
       ·
        rw [cutD (L' := [(w0, some ⟨118, 2, W0.set r0_ [.fsl (encL rI_u8 r14.2.b), .int .i64 r14.2.p]⟩)]) (by simp [z2, gs_W0])]
        first | done | rfl | simp [List.set_set]
      ·
       replace H := ifF C3 H
       refine AWP_sr tok [] [0, 1, 4, 13, 52] (fun a σ => a = [(0, .ptr w0 r0_ 0), (1, .int .i64 p1), (4, .ptr N0 0 0), (13, .int .i64 r1.1), (52, .bool (ieq r1.1 7))] ∧ σ = hp E0 [(w0, some ⟨118, 2, W0.set r0_ [.fsl (encL rI_u8 r1.2.b), .int .i64 r1.2.p]⟩), (N0, some ⟨123, 5, [[.int .i64 0, .int .i64 0, .int .i64 0, .int .i64 0, .int .i64 0]]⟩)] (M9 + 2)) (fun K hK => ?_) ?_
       ·
        skip
        have e0 := nq (a := w0) (b := N0) (by omega)
        simp -dsimp -implicitDefEqProofs (maxDischargeDepth := 6) [e0, gs_W0, List.set_set]
        exact hK _ _ ⟨rfl, rfl⟩
       rintro a σ ⟨rfl, rfl⟩
       refine AWP_cond (ieq r1.1 7) rfl (fun C4 => ?_) (fun C4 => ?_)
       ·
        replace H := ifT C4 H
        obtain ⟨r15, hr15, H⟩ := bindE H
        refine AWP_sr tok [] [4] (fun a σ => ∃ M14 : Nat, M9 + 7 ≤ M14 ∧ a = [(4, .ptr N0 0 0)] ∧ σ = hp E0 [(w0, some ⟨118, 2, W0.set r0_ [.fsl (encL rI_u8 r15.2.b), .int .i64 r15.2.p]⟩), (N0, some ⟨123, 5, [[.int .i64 4, .int .i64 0, .int .i64 0, .int .i64 0, .int .i64 r15.1]]⟩)] M14) (fun K hK => ?_) ?_
        ·
         skip
         have e0 := nq (a := w0) (b := N0) (by omega)
         simp -dsimp -implicitDefEqProofs (maxDischargeDepth := 6) [e0, gs_W0, List.set_set]
         refine (c74 (W0 := W0.set r0_ [.fsl (encL rI_u8 r1.2.b), .int .i64 r1.2.p]) (r0_ := r0_) (H := hr15) (by simp [e0, gs_W0, List.set_set]) (by simp [e0, gs_W0, List.set_set])).mono ?_; rintro _ _ ⟨M14, fM14_0, rfl, rfl⟩; simp only [hp_next] at fM14_0
         try simp -dsimp -implicitDefEqProofs (maxDischargeDepth := 6) [e0, gs_W0, List.set_set, hp_over_some, hp_over_none]
         exact hK _ _ ⟨M14, (by omega), rfl, rfl⟩
        rintro a σ ⟨M14, fM14_0, rfl, rfl⟩
        replace H := Option.some.inj H; subst H
        refine AWP_kp [4] [(4, .ptr N0 0 0)] rfl ?_
        have z3 := nq (a := w0) (b := N0) (by omega)
        refine AWP_ret ?_
        refine ⟨[.agg [.int .i64 4, .int .i64 0, .int .i64 0, .int .i64 0, .int .i64 r15.1]], by simp [z3, gs_W0], (fun o => [N0].contains o), M14, by omega, ?_, ?_⟩
        ·
         simp [encL_nil, z3, gs_W0]
        ·
         rw [cutD (L' := [(w0, some ⟨118, 2, W0.set r0_ [.fsl (encL rI_u8 r15.2.b), .int .i64 r15.2.p]⟩)]) (by simp [z3, gs_W0])]
         first | done | rfl | simp [List.set_set]
       ·
        replace H := ifF C4 H
        refine AWP_sr tok [] [0, 1, 4, 13, 58] (fun a σ => a = [(0, .ptr w0 r0_ 0), (1, .int .i64 p1), (4, .ptr N0 0 0), (13, .int .i64 r1.1), (58, .bool (ieq r1.1 8))] ∧ σ = hp E0 [(w0, some ⟨118, 2, W0.set r0_ [.fsl (encL rI_u8 r1.2.b), .int .i64 r1.2.p]⟩), (N0, some ⟨123, 5, [[.int .i64 0, .int .i64 0, .int .i64 0, .int .i64 0, .int .i64 0]]⟩)] (M9 + 4)) (fun K hK => ?_) ?_
        ·
         skip
         have e0 := nq (a := w0) (b := N0) (by omega)
         simp -dsimp -implicitDefEqProofs (maxDischargeDepth := 6) [e0, gs_W0, List.set_set]
         exact hK _ _ ⟨rfl, rfl⟩
        rintro a σ ⟨rfl, rfl⟩
        refine AWP_cond (ieq r1.1 8) rfl (fun C5 => ?_) (fun C5 => ?_)
        ·
         replace H := ifT C5 H
         obtain ⟨r16, hr16, H⟩ := bindE H
         refine AWP_sr tok [] [0, 1, 4, 9] (fun a σ => ∃ M15 : Nat, M9 + 7 ≤ M15 ∧ a = [(0, .ptr w0 r0_ 0), (1, .int .i64 p1), (4, .ptr N0 0 0), (9, .int .i64 r16.1)] ∧ σ = hp E0 [(w0, some ⟨118, 2, W0.set r0_ [.fsl (encL rI_u8 r16.2.b), .int .i64 r16.2.p]⟩), (N0, some ⟨123, 5, [[.int .i64 0, .int .i64 0, .int .i64 0, .int .i64 0, .int .i64 0]]⟩)] M15) (fun K hK => ?_) ?_
         ·
          skip
          have e0 := nq (a := w0) (b := N0) (by omega)
          simp -dsimp -implicitDefEqProofs (maxDischargeDepth := 6) [e0, gs_W0, List.set_set]
          refine (c111 (W0 := W0.set r0_ [.fsl (encL rI_u8 r1.2.b), .int .i64 r1.2.p]) (r0_ := r0_) (H := hr16) (by simp [e0, gs_W0, List.set_set]) (by simp [e0, gs_W0, List.set_set])).mono ?_; rintro _ _ ⟨M15, fM15_0, rfl, rfl⟩; simp only [hp_next] at fM15_0
          try simp -dsimp -implicitDefEqProofs (maxDischargeDepth := 6) [e0, gs_W0, List.set_set, hp_over_some, hp_over_none]
          exact hK _ _ ⟨M15, (by omega), rfl, rfl⟩
         rintro a σ ⟨M15, fM15_0, rfl, rfl⟩
         obtain ⟨r17, hr17, H⟩ := bindE H
         refine AWP_sr tok [] [4] (fun a σ => ∃ M16 : Nat, M15 + 6 ≤ M16 ∧ a = [(4, .ptr N0 0 0)] ∧ σ = hp E0 [(w0, some ⟨118, 2, W0.set r0_ [.fsl (encL rI_u8 r17.2.b), .int .i64 r17.2.p]⟩), (N0, some ⟨123, 5, [[.int .i64 5, .int .i64 0, .int .i64 r16.1, .int .i64 0, .int .i64 r17.1]]⟩)] M16) (fun K hK => ?_) ?_
         ·
          skip
          have e0 := nq (a := w0) (b := N0) (by omega)
          simp -dsimp -implicitDefEqProofs (maxDischargeDepth := 6) [e0, gs_W0, List.set_set]
          refine (c74 (W0 := W0.set r0_ [.fsl (encL rI_u8 r16.2.b), .int .i64 r16.2.p]) (r0_ := r0_) (H := hr17) (by simp [e0, gs_W0, List.set_set]) (by simp [e0, gs_W0, List.set_set])).mono ?_; rintro _ _ ⟨M16, fM16_0, rfl, rfl⟩; simp only [hp_next] at fM16_0
          try simp -dsimp -implicitDefEqProofs (maxDischargeDepth := 6) [e0, gs_W0, List.set_set, hp_over_some, hp_over_none]
          exact hK _ _ ⟨M16, (by omega), rfl, rfl⟩
         rintro a σ ⟨M16, fM16_0, rfl, rfl⟩
         replace H := Option.some.inj H; subst H
         refine AWP_kp [4] [(4, .ptr N0 0 0)] rfl ?_
         have z4 := nq (a := w0) (b := N0) (by omega)
         refine AWP_ret ?_
         refine ⟨[.agg [.int .i64 5, .int .i64 0, .int .i64 r16.1, .int .i64 0, .int .i64 r17.1]], by simp [z4, gs_W0], (fun o => [N0].contains o), M16, by omega, ?_, ?_⟩
         ·
          simp [encL_nil, z4, gs_W0]
         ·
          rw [cutD (L' := [(w0, some ⟨118, 2, W0.set r0_ [.fsl (encL rI_u8 r17.2.b), .int .i64 r17.2.p]⟩)]) (by simp [z4, gs_W0])]
          first | done | rfl | simp [List.set_set]
        ·
         replace H := ifF C5 H
         refine AWP_sr tok [] [0, 4, 13, 67] (fun a σ => a = [(0, .ptr w0 r0_ 0), (4, .ptr N0 0 0), (13, .int .i64 r1.1), (67, .bool (ieq r1.1 9))] ∧ σ = hp E0 [(w0, some ⟨118, 2, W0.set r0_ [.fsl (encL rI_u8 r1.2.b), .int .i64 r1.2.p]⟩), (N0, some ⟨123, 5, [[.int .i64 0, .int .i64 0, .int .i64 0, .int .i64 0, .int .i64 0]]⟩)] (M9 + 6)) (fun K hK => ?_) ?_
         ·
          skip
          have e0 := nq (a := w0) (b := N0) (by omega)
          simp -dsimp -implicitDefEqProofs (maxDischargeDepth := 6) [e0, gs_W0, List.set_set]
          exact hK _ _ ⟨rfl, rfl⟩
         rintro a σ ⟨rfl, rfl⟩
         refine AWP_cond (ieq r1.1 9) rfl (fun C6 => ?_) (fun C6 => ?_)
         ·
          replace H := ifT C6 H
          obtain ⟨r18, hr18, H⟩ := bindE H
          refine AWP_sr tok [] [0, 4, 10] (fun a σ => ∃ M17 : Nat, M9 + 9 ≤ M17 ∧ a = [(0, .ptr w0 r0_ 0), (4, .ptr N0 0 0), (10, .int .i64 r18.1)] ∧ σ = hp E0 [(w0, some ⟨118, 2, W0.set r0_ [.fsl (encL rI_u8 r18.2.b), .int .i64 r18.2.p]⟩), (N0, some ⟨123, 5, [[.int .i64 0, .int .i64 0, .int .i64 0, .int .i64 0, .int .i64 0]]⟩)] M17) (fun K hK => ?_) ?_
          ·
           skip
           have e0 := nq (a := w0) (b := N0) (by omega)
           simp -dsimp -implicitDefEqProofs (maxDischargeDepth := 6) [e0, gs_W0, List.set_set]
           refine (c111 (W0 := W0.set r0_ [.fsl (encL rI_u8 r1.2.b), .int .i64 r1.2.p]) (r0_ := r0_) (H := hr18) (by simp [e0, gs_W0, List.set_set]) (by simp [e0, gs_W0, List.set_set])).mono ?_; rintro _ _ ⟨M17, fM17_0, rfl, rfl⟩; simp only [hp_next] at fM17_0
           try simp -dsimp -implicitDefEqProofs (maxDischargeDepth := 6) [e0, gs_W0, List.set_set, hp_over_some, hp_over_none]
           exact hK _ _ ⟨M17, (by omega), rfl, rfl⟩
          rintro a σ ⟨M17, fM17_0, rfl, rfl⟩
          obtain ⟨r19, hr19, H⟩ := bindE H
          refine AWP_sr tok [] [4] (fun a σ => ∃ M18 : Nat, M17 + 5 ≤ M18 ∧ a = [(4, .ptr N0 0 0)] ∧ σ = hp E0 [(w0, some ⟨118, 2, W0.set r0_ [.fsl (encL rI_u8 r19.2.b), .int .i64 r19.2.p]⟩), (N0, some ⟨123, 5, [[.int .i64 6, .int .i64 0, .int .i64 r18.1, .int .i64 0, .int .i64 r19.1]]⟩)] M18) (fun K hK => ?_) ?_
          ·
           skip
           have e0 := nq (a := w0) (b := N0) (by omega)
           simp -dsimp -implicitDefEqProofs (maxDischargeDepth := 6) [e0, gs_W0, List.set_set]
           refine (c74 (W0 := W0.set r0_ [.fsl (encL rI_u8 r18.2.b), .int .i64 r18.2.p]) (r0_ := r0_) (H := hr19) (by simp [e0, gs_W0, List.set_set]) (by simp [e0, gs_W0, List.set_set])).mono ?_; rintro _ _ ⟨M18, fM18_0, rfl, rfl⟩; simp only [hp_next] at fM18_0
           try simp -dsimp -implicitDefEqProofs (maxDischargeDepth := 6) [e0, gs_W0, List.set_set, hp_over_some, hp_over_none]
           exact hK _ _ ⟨M18, (by omega), rfl, rfl⟩
          rintro a σ ⟨M18, fM18_0, rfl, rfl⟩
          replace H := Option.some.inj H; subst H
          refine AWP_kp [4] [(4, .ptr N0 0 0)] rfl ?_
          have z5 := nq (a := w0) (b := N0) (by omega)
          refine AWP_ret ?_
          refine ⟨[.agg [.int .i64 6, .int .i64 0, .int .i64 r18.1, .int .i64 0, .int .i64 r19.1]], by simp [z5, gs_W0], (fun o => [N0].contains o), M18, by omega, ?_, ?_⟩
          ·
           simp [encL_nil, z5, gs_W0]
          ·
           rw [cutD (L' := [(w0, some ⟨118, 2, W0.set r0_ [.fsl (encL rI_u8 r19.2.b), .int .i64 r19.2.p]⟩)]) (by simp [z5, gs_W0])]
           first | done | rfl | simp [List.set_set]
         ·
          replace H := ifF C6 H
          refine AWP_sr tok [] [0, 4, 75] (fun a σ => a = [(0, .ptr w0 r0_ 0), (4, .ptr N0 0 0), (75, .bool (ieq r1.1 10))] ∧ σ = hp E0 [(w0, some ⟨118, 2, W0.set r0_ [.fsl (encL rI_u8 r1.2.b), .int .i64 r1.2.p]⟩), (N0, some ⟨123, 5, [[.int .i64 0, .int .i64 0, .int .i64 0, .int .i64 0, .int .i64 0]]⟩)] (M9 + 8)) (fun K hK => ?_) ?_
          ·
           skip
           have e0 := nq (a := w0) (b := N0) (by omega)
           simp -dsimp -implicitDefEqProofs (maxDischargeDepth := 6) [e0, gs_W0, List.set_set]
           exact hK _ _ ⟨rfl, rfl⟩
          rintro a σ ⟨rfl, rfl⟩
          refine AWP_cond (ieq r1.1 10) rfl (fun C7 => ?_) (fun C7 => ?_)
          ·
           replace H := ifT C7 H
           obtain ⟨r20, hr20, H⟩ := bindE H
           refine AWP_sr tok [] [0, 4, 11] (fun a σ => ∃ M19 : Nat, M9 + 11 ≤ M19 ∧ a = [(0, .ptr w0 r0_ 0), (4, .ptr N0 0 0), (11, .int .i64 r20.1)] ∧ σ = hp E0 [(w0, some ⟨118, 2, W0.set r0_ [.fsl (encL rI_u8 r20.2.b), .int .i64 r20.2.p]⟩), (N0, some ⟨123, 5, [[.int .i64 0, .int .i64 0, .int .i64 0, .int .i64 0, .int .i64 0]]⟩)] M19) (fun K hK => ?_) ?_
           ·
            skip
            have e0 := nq (a := w0) (b := N0) (by omega)
            simp -dsimp -implicitDefEqProofs (maxDischargeDepth := 6) [e0, gs_W0, List.set_set]
            refine (c111 (W0 := W0.set r0_ [.fsl (encL rI_u8 r1.2.b), .int .i64 r1.2.p]) (r0_ := r0_) (H := hr20) (by simp [e0, gs_W0, List.set_set]) (by simp [e0, gs_W0, List.set_set])).mono ?_; rintro _ _ ⟨M19, fM19_0, rfl, rfl⟩; simp only [hp_next] at fM19_0
            try simp -dsimp -implicitDefEqProofs (maxDischargeDepth := 6) [e0, gs_W0, List.set_set, hp_over_some, hp_over_none]
            exact hK _ _ ⟨M19, (by omega), rfl, rfl⟩
           rintro a σ ⟨M19, fM19_0, rfl, rfl⟩
           obtain ⟨r21, hr21, H⟩ := bindE H
           refine AWP_sr tok [] [4] (fun a σ => ∃ M20 : Nat, M19 + 5 ≤ M20 ∧ a = [(4, .ptr N0 0 0)] ∧ σ = hp E0 [(w0, some ⟨118, 2, W0.set r0_ [.fsl (encL rI_u8 r21.2.b), .int .i64 r21.2.p]⟩), (N0, some ⟨123, 5, [[.int .i64 7, .int .i64 r20.1, .int .i64 0, .int .i64 0, .int .i64 r21.1]]⟩)] M20) (fun K hK => ?_) ?_
           ·
            skip
            have e0 := nq (a := w0) (b := N0) (by omega)
            simp -dsimp -implicitDefEqProofs (maxDischargeDepth := 6) [e0, gs_W0, List.set_set]
            refine (c74 (W0 := W0.set r0_ [.fsl (encL rI_u8 r20.2.b), .int .i64 r20.2.p]) (r0_ := r0_) (H := hr21) (by simp [e0, gs_W0, List.set_set]) (by simp [e0, gs_W0, List.set_set])).mono ?_; rintro _ _ ⟨M20, fM20_0, rfl, rfl⟩; simp only [hp_next] at fM20_0
            try simp -dsimp -implicitDefEqProofs (maxDischargeDepth := 6) [e0, gs_W0, List.set_set, hp_over_some, hp_over_none]
            exact hK _ _ ⟨M20, (by omega), rfl, rfl⟩
           rintro a σ ⟨M20, fM20_0, rfl, rfl⟩
           replace H := Option.some.inj H; subst H
           refine AWP_kp [4] [(4, .ptr N0 0 0)] rfl ?_
           have z6 := nq (a := w0) (b := N0) (by omega)
           refine AWP_ret ?_
           refine ⟨[.agg [.int .i64 7, .int .i64 r20.1, .int .i64 0, .int .i64 0, .int .i64 r21.1]], by simp [z6, gs_W0], (fun o => [N0].contains o), M20, by omega, ?_, ?_⟩
           ·
            simp [encL_nil, z6, gs_W0]
           ·
            rw [cutD (L' := [(w0, some ⟨118, 2, W0.set r0_ [.fsl (encL rI_u8 r21.2.b), .int .i64 r21.2.p]⟩)]) (by simp [z6, gs_W0])]
            first | done | rfl | simp [List.set_set]
          ·
           replace H := ifF C7 H
           refine AWP_skip ?_
           show K1 _ _
           refine keepE (l := [0, 4]) (x := [(0, .ptr w0 r0_ 0), (4, .ptr N0 0 0)]) rfl fun a' ha => ?_
           refine hK1 _ _ ?_; rw [ha]
           refine Rc.mk ?_
           refine AWP_sq [0, 4] fun K2 hK2 => ?_
           obtain ⟨r22, hr22, H⟩ := bindE H
           refine AWP_sr tok [] [0, 4, 85] (fun a σ => ∃ M21 : Nat, M9 + 11 ≤ M21 ∧ a = [(0, .ptr w0 r0_ 0), (4, .ptr N0 0 0), (85, .bool (ieq r22.1 0))] ∧ σ = hp E0 [(w0, some ⟨118, 2, W0.set r0_ [.fsl (encL rI_u8 r22.2.b), .int .i64 r22.2.p]⟩), (N0, some ⟨123, 5, [[.int .i64 0, .int .i64 0, .int .i64 0, .int .i64 0, .int .i64 0]]⟩)] M21) (fun K hK => ?_) ?_
           ·
            skip
            have e0 := nq (a := w0) (b := N0) (by omega)
            simp -dsimp -implicitDefEqProofs (maxDischargeDepth := 6) [e0, gs_W0, List.set_set]
            refine (c74 (W0 := W0.set r0_ [.fsl (encL rI_u8 r1.2.b), .int .i64 r1.2.p]) (r0_ := r0_) (H := hr22) (by simp [e0, gs_W0, List.set_set]) (by simp [e0, gs_W0, List.set_set])).mono ?_; rintro _ _ ⟨M21, fM21_0, rfl, rfl⟩; simp only [hp_next] at fM21_0
            try simp -dsimp -implicitDefEqProofs (maxDischargeDepth := 6) [e0, gs_W0, List.set_set, hp_over_some, hp_over_none]
            exact hK _ _ ⟨M21, (by omega), rfl, rfl⟩
           rintro a σ ⟨M21, fM21_0, rfl, rfl⟩
           refine AWP_cond (ieq r22.1 0) rfl (fun C8 => ?_) (fun C8 => ?_)
           ·
            replace H := ifT C8 H
            refine AWP_sr tok [] [4] (fun a σ => a = [(4, .ptr N0 0 0)] ∧ σ = hp E0 [(w0, some ⟨118, 2, W0.set r0_ [.fsl (encL rI_u8 r22.2.b), .int .i64 r22.2.p]⟩), (N0, some ⟨123, 5, [[.int .i64 8, .int .i64 0, .int .i64 0, .int .i64 0, .int .i64 0]]⟩)] (M21 + 2)) (fun K hK => ?_) ?_
            ·
             skip
             have e0 := nq (a := w0) (b := N0) (by omega)
             simp -dsimp -implicitDefEqProofs (maxDischargeDepth := 6) [e0, gs_W0, List.set_set]
             exact hK _ _ ⟨rfl, rfl⟩
            rintro a σ ⟨rfl, rfl⟩
            replace H := Option.some.inj H; subst H
            refine AWP_kp [4] [(4, .ptr N0 0 0)] rfl ?_
            have z7 := nq (a := w0) (b := N0) (by omega)
            refine AWP_ret ?_
            refine ⟨[.agg [.int .i64 8, .int .i64 0, .int .i64 0, .int .i64 0, .int .i64 0]], by simp [z7, gs_W0], (fun o => [N0].contains o), M21 + 2, by omega, ?_, ?_⟩
            ·
             simp [encL_nil, z7, gs_W0]
            ·
             rw [cutD (L' := [(w0, some ⟨118, 2, W0.set r0_ [.fsl (encL rI_u8 r22.2.b), .int .i64 r22.2.p]⟩)]) (by simp [z7, gs_W0])]
             first | done | rfl | simp [List.set_set]
           ·
            replace H := ifF C8 H
            refine AWP_skip ?_
            show K2 _ _
            refine keepE (l := [0, 4]) (x := [(0, .ptr w0 r0_ 0), (4, .ptr N0 0 0)]) rfl fun a' ha => ?_
            refine hK2 _ _ ?_; rw [ha]
            refine Rc.mk ?_
            obtain ⟨r23, hr23, H⟩ := bindE H
            refine AWP_sr tok [] [4] (fun a σ => ∃ M22 : Nat, M21 + 4 ≤ M22 ∧ a = [(4, .ptr N0 0 0)] ∧ σ = hp E0 [(w0, some ⟨118, 2, W0.set r0_ [.fsl (encL rI_u8 r23.2.b), .int .i64 r23.2.p]⟩), (N0, some ⟨123, 5, [[.int .i64 9, .int .i64 0, .int .i64 r23.1, .int .i64 0, .int .i64 0]]⟩)] M22) (fun K hK => ?_) ?_
            ·
             skip
             have e0 := nq (a := w0) (b := N0) (by omega)
             simp -dsimp -implicitDefEqProofs (maxDischargeDepth := 6) [e0, gs_W0, List.set_set]
             refine (c111 (W0 := W0.set r0_ [.fsl (encL rI_u8 r22.2.b), .int .i64 r22.2.p]) (r0_ := r0_) (H := hr23) (by simp [e0, gs_W0, List.set_set]) (by simp [e0, gs_W0, List.set_set])).mono ?_; rintro _ _ ⟨M22, fM22_0, rfl, rfl⟩; simp only [hp_next] at fM22_0
             try simp -dsimp -implicitDefEqProofs (maxDischargeDepth := 6) [e0, gs_W0, List.set_set, hp_over_some, hp_over_none]
             exact hK _ _ ⟨M22, (by omega), rfl, rfl⟩
            rintro a σ ⟨M22, fM22_0, rfl, rfl⟩
            replace H := Option.some.inj H; subst H
            refine AWP_kp [4] [(4, .ptr N0 0 0)] rfl ?_
            have z8 := nq (a := w0) (b := N0) (by omega)
            refine AWP_ret ?_
            refine ⟨[.agg [.int .i64 9, .int .i64 0, .int .i64 r23.1, .int .i64 0, .int .i64 0]], by simp [z8, gs_W0], (fun o => [N0].contains o), M22, by omega, ?_, ?_⟩
            ·
             simp [encL_nil, z8, gs_W0]
            ·
             rw [cutD (L' := [(w0, some ⟨118, 2, W0.set r0_ [.fsl (encL rI_u8 r23.2.b), .int .i64 r23.2.p]⟩)]) (by simp [z8, gs_W0])]
             first | done | rfl | simp [List.set_set]
     replace H := hj3
     refine AWP_sr tok [] [0, 1, 4, 13, 36] (fun a σ => a = [(0, .ptr w0 r0_ 0), (1, .int .i64 p1), (4, .ptr N0 0 0), (13, .int .i64 r1.1), (36, .bool (ieq r1.1 4))] ∧ σ = hp E0 [(w0, some ⟨118, 2, W0.set r0_ [.fsl (encL rI_u8 r1.2.b), .int .i64 r1.2.p]⟩), (N0, some ⟨123, 5, [[.int .i64 0, .int .i64 0, .int .i64 0, .int .i64 0, .int .i64 0]]⟩)] (M6 + 2)) (fun K hK => ?_) ?_
     ·
      skip
      have e0 := nq (a := w0) (b := N0) (by omega)
      simp -dsimp -implicitDefEqProofs (maxDischargeDepth := 6) [e0, gs_W0, List.set_set]
      exact hK _ _ ⟨rfl, rfl⟩
     rintro a σ ⟨rfl, rfl⟩
     refine AWP_cond (ieq r1.1 4) rfl (fun C9 => ?_) (fun C9 => ?_)
     ·
      replace H := ifT C9 H
      refine AWP_skip ?_
      show K3 _ _
      refine keepE (l := [0, 1, 4, 13, 36]) (x := [(0, .ptr w0 r0_ 0), (1, .int .i64 p1), (4, .ptr N0 0 0), (13, .int .i64 r1.1), (36, .bool (ieq r1.1 4))]) rfl fun a' ha => ?_
      replace H := Option.some.inj H; subst H
      refine hJ3 _ _ ?_; rw [ha]
      exact Rc.fin (AHeap.Sub.refl _) ⟨M6 + 2, (by omega), (by omega), rfl, rfl⟩
     ·
      replace H := ifF C9 H
      refine AWP_sr tok [] [0, 1, 4, 13, 36] (fun a σ => a = [(0, .ptr w0 r0_ 0), (1, .int .i64 p1), (4, .ptr N0 0 0), (13, .int .i64 r1.1), (36, .bool (ieq r1.1 5))] ∧ σ = hp E0 [(w0, some ⟨118, 2, W0.set r0_ [.fsl (encL rI_u8 r1.2.b), .int .i64 r1.2.p]⟩), (N0, some ⟨123, 5, [[.int .i64 0, .int .i64 0, .int .i64 0, .int .i64 0, .int .i64 0]]⟩)] (M6 + 4)) (fun K hK => ?_) ?_
      ·
       skip
       have e0 := nq (a := w0) (b := N0) (by omega)
       simp -dsimp -implicitDefEqProofs (maxDischargeDepth := 6) [e0, gs_W0, List.set_set]
       exact hK _ _ ⟨rfl, rfl⟩
      rintro a σ ⟨rfl, rfl⟩
      refine AWP_cond (ieq r1.1 5) rfl (fun C10 => ?_) (fun C10 => ?_)
      ·
       replace H := ifT C10 H
       refine AWP_skip ?_
       show K3 _ _
       refine keepE (l := [0, 1, 4, 13, 36]) (x := [(0, .ptr w0 r0_ 0), (1, .int .i64 p1), (4, .ptr N0 0 0), (13, .int .i64 r1.1), (36, .bool (ieq r1.1 5))]) rfl fun a' ha => ?_
       replace H := Option.some.inj H; subst H
       refine hJ3 _ _ ?_; rw [ha]
       exact Rc.fin (AHeap.Sub.refl _) ⟨M6 + 4, (by omega), (by omega), rfl, rfl⟩
      ·
       replace H := ifF C10 H
       refine AWP_rt tok [] [0, 1, 4, 13, 36] (fun a σ => a = [(0, .ptr w0 r0_ 0), (1, .int .i64 p1), (4, .ptr N0 0 0), (13, .int .i64 r1.1), (36, .bool (ieq r1.1 6))] ∧ σ = hp E0 [(w0, some ⟨118, 2, W0.set r0_ [.fsl (encL rI_u8 r1.2.b), .int .i64 r1.2.p]⟩), (N0, some ⟨123, 5, [[.int .i64 0, .int .i64 0, .int .i64 0, .int .i64 0, .int .i64 0]]⟩)] (M6 + 6)) (fun K hK => ?_) ?_
       ·
        skip
        have e0 := nq (a := w0) (b := N0) (by omega)
        simp -dsimp -implicitDefEqProofs (maxDischargeDepth := 6) [e0, gs_W0, List.set_set]
        exact hK _ _ ⟨rfl, rfl⟩
       rintro a σ ⟨ha, rfl⟩
       replace H := Option.some.inj H; subst H
       refine hJ3 _ _ ?_; rw [ha]
       exact Rc.fin (AHeap.Sub.refl _) ⟨M6 + 6, (by omega), (by omega), rfl, rfl⟩
   replace H := hj2
   refine AWP_sr tok [] [0, 1, 4, 13, 27] (fun a σ => a = [(0, .ptr w0 r0_ 0), (1, .int .i64 p1), (4, .ptr N0 0 0), (13, .int .i64 r1.1), (27, .bool (ieq r1.1 2))] ∧ σ = hp E0 [(w0, some ⟨118, 2, W0.set r0_ [.fsl (encL rI_u8 r1.2.b), .int .i64 r1.2.p]⟩), (N0, some ⟨123, 5, [[.int .i64 0, .int .i64 0, .int .i64 0, .int .i64 0, .int .i64 0]]⟩)] (M2 + 2)) (fun K hK => ?_) ?_
   ·
    skip
    have e0 := nq (a := w0) (b := N0) (by omega)
    simp -dsimp -implicitDefEqProofs (maxDischargeDepth := 6) [e0, gs_W0, List.set_set]
    exact hK _ _ ⟨rfl, rfl⟩
   rintro a σ ⟨rfl, rfl⟩
   refine AWP_cond (ieq r1.1 2) rfl (fun C11 => ?_) (fun C11 => ?_)
   ·
    replace H := ifT C11 H
    refine AWP_skip ?_
    show K4 _ _
    refine keepE (l := [0, 1, 4, 13, 27]) (x := [(0, .ptr w0 r0_ 0), (1, .int .i64 p1), (4, .ptr N0 0 0), (13, .int .i64 r1.1), (27, .bool (ieq r1.1 2))]) rfl fun a' ha => ?_
    replace H := Option.some.inj H; subst H
    refine hJ2 _ _ ?_; rw [ha]
    exact Rc.fin (AHeap.Sub.refl _) ⟨M2 + 2, (by omega), (by omega), rfl, rfl⟩
   ·
    replace H := ifF C11 H
    refine AWP_rt tok [] [0, 1, 4, 13, 27] (fun a σ => a = [(0, .ptr w0 r0_ 0), (1, .int .i64 p1), (4, .ptr N0 0 0), (13, .int .i64 r1.1), (27, .bool (ieq r1.1 3))] ∧ σ = hp E0 [(w0, some ⟨118, 2, W0.set r0_ [.fsl (encL rI_u8 r1.2.b), .int .i64 r1.2.p]⟩), (N0, some ⟨123, 5, [[.int .i64 0, .int .i64 0, .int .i64 0, .int .i64 0, .int .i64 0]]⟩)] (M2 + 4)) (fun K hK => ?_) ?_
    ·
     skip
     have e0 := nq (a := w0) (b := N0) (by omega)
     simp -dsimp -implicitDefEqProofs (maxDischargeDepth := 6) [e0, gs_W0, List.set_set]
     exact hK _ _ ⟨rfl, rfl⟩
    rintro a σ ⟨ha, rfl⟩
    replace H := Option.some.inj H; subst H
    refine hJ2 _ _ ?_; rw [ha]
    exact Rc.fin (AHeap.Sub.refl _) ⟨M2 + 4, (by omega), (by omega), rfl, rfl⟩
 replace H := hj1
 refine AWP_sr tok [] [0, 1, 4, 13, 14] (fun a σ => a = [(0, .ptr w0 r0_ 0), (1, .int .i64 p1), (4, .ptr N0 0 0), (13, .int .i64 r1.1), (14, .bool (ieq r1.1 0))] ∧ σ = hp E0 [(w0, some ⟨118, 2, W0.set r0_ [.fsl (encL rI_u8 r1.2.b), .int .i64 r1.2.p]⟩), (N0, some ⟨123, 5, [[.int .i64 0, .int .i64 0, .int .i64 0, .int .i64 0, .int .i64 0]]⟩)] (M1 + 2)) (fun K hK => ?_) ?_
 ·
  skip
  have e0 := nq (a := w0) (b := N0) (by omega)
  simp -dsimp -implicitDefEqProofs (maxDischargeDepth := 6) [e0, gs_W0, List.set_set]
  exact hK _ _ ⟨rfl, rfl⟩
 rintro a σ ⟨rfl, rfl⟩
 refine AWP_cond (ieq r1.1 0) rfl (fun C12 => ?_) (fun C12 => ?_)
 ·
  replace H := ifT C12 H
  refine AWP_skip ?_
  show K5 _ _
  refine keepE (l := [0, 1, 4, 13, 14]) (x := [(0, .ptr w0 r0_ 0), (1, .int .i64 p1), (4, .ptr N0 0 0), (13, .int .i64 r1.1), (14, .bool (ieq r1.1 0))]) rfl fun a' ha => ?_
  replace H := Option.some.inj H; subst H
  refine hJ1 _ _ ?_; rw [ha]
  exact Rc.fin (AHeap.Sub.refl _) ⟨M1 + 2, (by omega), (by omega), rfl, rfl⟩
 ·
  replace H := ifF C12 H
  refine AWP_rt tok [] [0, 1, 4, 13, 14] (fun a σ => a = [(0, .ptr w0 r0_ 0), (1, .int .i64 p1), (4, .ptr N0 0 0), (13, .int .i64 r1.1), (14, .bool (ieq r1.1 1))] ∧ σ = hp E0 [(w0, some ⟨118, 2, W0.set r0_ [.fsl (encL rI_u8 r1.2.b), .int .i64 r1.2.p]⟩), (N0, some ⟨123, 5, [[.int .i64 0, .int .i64 0, .int .i64 0, .int .i64 0, .int .i64 0]]⟩)] (M1 + 4)) (fun K hK => ?_) ?_
  ·
   skip
   have e0 := nq (a := w0) (b := N0) (by omega)
   simp -dsimp -implicitDefEqProofs (maxDischargeDepth := 6) [e0, gs_W0, List.set_set]
   exact hK _ _ ⟨rfl, rfl⟩
  rintro a σ ⟨ha, rfl⟩
  replace H := Option.some.inj H; subst H
  refine hJ1 _ _ ?_; rw [ha]
  exact Rc.fin (AHeap.Sub.refl _) ⟨M1 + 4, (by omega), (by omega), rfl, rfl⟩
theorem c73 {p0 : gL6Rd} {r : (List gQuad) × gL6Rd} (H : s_l93Random p0 = some r) {σ : AHeap} {w0 : Nat} {W0 : List (List AV)} {r0_ : Nat} (q0 : σ.objs w0 = some ⟨118, 2, W0⟩) (g0 : W0[r0_]? = some [.fsl (encL rI_u8 p0.b), .int .i64 p0.p]) : ACalls Try.prog G 73 [.ptr w0 r0_ 0] σ (fun v σ' => ∃ M : Nat, σ.next ≤ M ∧ v = .fsl (encL rQuad r.1) ∧ σ' = hp σ.objs [(w0, some ⟨118, 2, W0.set r0_ [.fsl (encL rI_u8 r.2.b), .int .i64 r.2.p]⟩)] M) := by
 refine ACalls_fr (L := [(w0, some ⟨118, 2, W0⟩)]) (Q1 := fun v σ' => ∃ M : Nat, σ.next ≤ M ∧ v = .fsl (encL rQuad r.1) ∧ σ' = hp E0 [(w0, some ⟨118, 2, W0.set r0_ [.fsl (encL rI_u8 r.2.b), .int .i64 r.2.p]⟩)] M) (by simp [q0]) (fun hlt => ?_) ?_ ⟨_, Try.func73, rfl, rfl⟩
 rotate_left
 ·
  rintro v σ1 ⟨M, h0, rfl, rfl⟩
  exact ⟨_, M, rfl, by simp, by simp; try omega, M, h0, rfl, rfl⟩
 generalize σ.next = N0 at hlt ⊢
 have lw0 : w0 < N0 := hlt _ (.head _) rfl
 have gs_W0 : ∀ x, (W0.set r0_ x)[r0_]? = some x := gsetW g0
 rw [show W0 = W0.set r0_ [.fsl (encL rI_u8 p0.b), .int .i64 p0.p] from (set_same g0).symm]
 refine ACalls_fn tok Try.func73 (by kernel_rfl) rfl Try.ntmps73 Try.results73 rfl ?_
 simp only [argsA, Nat.reduceAdd, hp_next]
 unfold s_l93Random at H
 refine AWP_sr tok [] [0] (fun a σ => a = [(0, .ptr w0 r0_ 0)] ∧ σ = hp E0 [(w0, some ⟨118, 2, W0.set r0_ [.fsl (encL rI_u8 p0.b), .int .i64 p0.p]⟩)] (N0 + 1)) (fun K hK => ?_) ?_
 ·
  skip
  simp -dsimp -implicitDefEqProofs (maxDischargeDepth := 6) [gs_W0, List.set_set]
  exact hK _ _ ⟨rfl, rfl⟩
 rintro a σ ⟨rfl, rfl⟩
 obtain ⟨r1, hr1, H⟩ := bindE H
 refine AWP_sr tok [] [0, 3] (fun a σ => ∃ M1 : Nat, N0 + 5 ≤ M1 ∧ a = [(0, .ptr w0 r0_ 0), (3, .int .i64 (iadd .i64 1 r1.1))] ∧ σ = hp E0 [(w0, some ⟨118, 2, W0.set r0_ [.fsl (encL rI_u8 r1.2.b), .int .i64 r1.2.p]⟩)] M1) (fun K hK => ?_) ?_
 ·
  skip
  simp -dsimp -implicitDefEqProofs (maxDischargeDepth := 6) [gs_W0, List.set_set]
  refine (c74 (W0 := W0.set r0_ [.fsl (encL rI_u8 p0.b), .int .i64 p0.p]) (r0_ := r0_) (H := hr1) (by simp [gs_W0, List.set_set]) (by simp [gs_W0, List.set_set])).mono ?_; rintro _ _ ⟨M1, fM1_0, rfl, rfl⟩; simp only [hp_next] at fM1_0
  try simp -dsimp -implicitDefEqProofs (maxDischargeDepth := 6) [gs_W0, List.set_set, hp_over_some, hp_over_none]
  exact hK _ _ ⟨M1, (by omega), rfl, rfl⟩
 rintro a σ ⟨M1, fM1_0, rfl, rfl⟩
 have q0 : ∀ σ i, buildSliceA T 102 true i 0 [] σ = some (.esl, σ) := fun _ _ => rfl
 refine AWP_sr tok [0] [0, 3, 4] (fun a σ => a = [(0, .ptr w0 r0_ 0), (3, .int .i64 (iadd .i64 1 r1.1)), (4, .esl)] ∧ σ = hp E0 [(w0, some ⟨118, 2, W0.set r0_ [.fsl (encL rI_u8 r1.2.b), .int .i64 r1.2.p]⟩)] (M1 + 2)) (fun K hK => ?_) ?_
 ·
  skip
  simp -dsimp -implicitDefEqProofs (maxDischargeDepth := 6) [gs_W0, List.set_set, q0]
  exact hK _ _ ⟨rfl, rfl⟩
 rintro a σ ⟨rfl, rfl⟩
 refine AWP_sq [0, 3, 4] fun K1 hK1 => ?_
 refine AWP_sr tok [] [0, 3, 4, 5] (fun a σ => a = [(0, .ptr w0 r0_ 0), (3, .int .i64 (iadd .i64 1 r1.1)), (4, .esl), (5, .int .i64 0)] ∧ σ = hp E0 [(w0, some ⟨118, 2, W0.set r0_ [.fsl (encL rI_u8 r1.2.b), .int .i64 r1.2.p]⟩)] (M1 + 3)) (fun K hK => ?_) ?_
 ·
  skip
  simp -dsimp -implicitDefEqProofs (maxDischargeDepth := 6) [gs_W0, List.set_set]
  exact hK _ _ ⟨rfl, rfl⟩
 rintro a σ ⟨rfl, rfl⟩
 refine AWP_block (AWP_thenB ?_)
 obtain ⟨e1, hse1, H⟩ := bindE H
 refine AWP_lp [0, 3, 4, 5] (fun s a σ => ∃ M2 o1 : Nat, N0 ≤ M2 ∧ N0 ≤ o1 ∧ o1 < M2 ∧ a = [(0, .ptr w0 r0_ 0), (3, .int .i64 (iadd .i64 1 r1.1)), (4, .sl o1 0 s.2.2.length), (5, .int .i64 s.1)] ∧ σ = hp E0 [(w0, some ⟨118, 2, W0.set r0_ [.fsl (encL rI_u8 s.2.1.b), .int .i64 s.2.1.p]⟩), (o1, some ⟨123, 5, encL rQuad s.2.2⟩)] M2) (fun s x a σ => x = .exit 0 ∧ Rc G 36 N0 (fun a σ => ∃ M3 o2 : Nat, N0 ≤ M3 ∧ N0 ≤ o2 ∧ o2 < M3 ∧ a = [(0, .ptr w0 r0_ 0), (3, .int .i64 (iadd .i64 1 r1.1)), (4, .sl o2 0 s.2.length)] ∧ σ = hp E0 [(w0, some ⟨118, 2, W0.set r0_ [.fsl (encL rI_u8 s.1.b), .int .i64 s.1.p]⟩), (o2, some ⟨123, 5, encL rQuad s.2⟩)] M3) (AAct.keep a [0, 3, 4]) σ) hse1 ?_ ?_ ?_
 ·
  refine Rc.kp [0, 3, 4, 5] [(0, .ptr w0 r0_ 0), (3, .int .i64 (iadd .i64 1 r1.1)), (4, .esl), (5, .int .i64 0)] rfl ?_
  refine gNilS Rc_ref 4 123 5 [(w0, some ⟨118, 2, W0.set r0_ [.fsl (encL rI_u8 r1.2.b), .int .i64 r1.2.p]⟩), (M1 + 3, some ⟨123, 5, encL rQuad ([] : List gQuad)⟩)] [(0, .ptr w0 r0_ 0), (3, .int .i64 (iadd .i64 1 r1.1)), (4, .sl (M1 + 3) 0 ([] : List gQuad).length), (5, .int .i64 0)] (by simp (disch := omega)) (by simp (disch := omega) [encL_nil]) [0, 3, 4, 5] rfl ?_
  exact Rc.fin (AHeap.Sub.refl _) ⟨M1 + 4, (M1 + 3), (by omega), (by omega), (by omega), rfl, rfl⟩
 ·
  clear H hse1
  rintro ⟨s2, s3, s4⟩ fl a σ H ⟨M2, o1, fM2_0, fM2_1, fM2_2, rfl, rfl⟩ K2 O2 hK2 hO2
  unfold s_l93Random_L1 at H; dsimp only at H
  refine AWP_sq [0, 3, 4, 5] fun K3 hK3 => ?_
  refine AWP_sr tok [] [0, 3, 4, 5, 13] (fun a σ => a = [(0, .ptr w0 r0_ 0), (3, .int .i64 (iadd .i64 1 r1.1)), (4, .sl o1 0 s4.length), (5, .int .i64 s2), (13, .bool (ilt (iadd .i64 s2 1) (iadd .i64 1 r1.1)))] ∧ σ = hp E0 [(w0, some ⟨118, 2, W0.set r0_ [.fsl (encL rI_u8 s3.b), .int .i64 s3.p]⟩), (o1, some ⟨123, 5, encL rQuad s4⟩)] (M2 + 4)) (fun K hK => ?_) ?_
  ·
   skip
   have e0 := nq (a := w0) (b := o1) (by omega)
   simp -dsimp -implicitDefEqProofs (maxDischargeDepth := 6) [e0, gs_W0, List.set_set]
   exact hK _ _ ⟨rfl, rfl⟩
  rintro a σ ⟨rfl, rfl⟩
  refine AWP_cond (ilt (iadd .i64 s2 1) (iadd .i64 1 r1.1)) rfl (fun C1 => ?_) (fun C1 => ?_)
  ·
   replace H := ifT C1 H
   refine AWP_skip ?_
   show K3 _ _
   refine keepE (l := [0, 3, 4, 5]) (x := [(0, .ptr w0 r0_ 0), (3, .int .i64 (iadd .i64 1 r1.1)), (4, .sl o1 0 s4.length), (5, .int .i64 s2)]) rfl fun a' ha => ?_
   refine hK3 _ _ ?_; rw [ha]
   refine Rc.mk ?_
   refine AWP_sq [0, 3, 4, 5] fun K4 hK4 => ?_
   refine AWP_block (AWP_thenB ?_)
   obtain ⟨r7, hr7, H⟩ := bindE H
   obtain ⟨l8, hl8, H⟩ := bindE H
   have q1 : ∀ σ i, buildSliceA T 102 true i 1 [(0, .agg [.int .i64 r7.1.Op, .int .i64 r7.1.Dst, .int .i64 r7.1.A, .int .i64 r7.1.B, .int .i64 r7.1.N])] σ = some (.fsl (encL rQuad ([r7.1] : List gQuad)), σ) := fun _ _ => rfl
   refine AWP_rt tok [4] [0, 3, 4, 5] (fun a σ => ∃ M4 : Nat, M2 + 11 ≤ M4 ∧ a = [(0, .ptr w0 r0_ 0), (3, .int .i64 (iadd .i64 1 r1.1)), (4, .sl (M2 + 9) 0 l8.length), (5, .int .i64 s2)] ∧ σ = hp E0 [(w0, some ⟨118, 2, W0.set r0_ [.fsl (encL rI_u8 r7.2.b), .int .i64 r7.2.p]⟩), (M2 + 9, some ⟨123, 5, encL rQuad l8⟩)] M4) (fun K hK => ?_) ?_
   ·
    skip
    have e0 := nq (a := w0) (b := o1) (by omega)
    have e1 := nq (a := w0) (b := M2 + 9) (by omega)
    have e2 := nq (a := o1) (b := M2 + 9) (by omega)
    simp -dsimp -implicitDefEqProofs (maxDischargeDepth := 6) [e0, e1, e2, gs_W0, List.set_set, q1, app102 hl8]
    refine (c94 (W0 := W0.set r0_ [.fsl (encL rI_u8 s3.b), .int .i64 s3.p]) (r0_ := r0_) (H := hr7) (by simp [e0, e1, e2, gs_W0, List.set_set, q1, app102 hl8]) (by simp [e0, e1, e2, gs_W0, List.set_set, q1, app102 hl8])).mono ?_; rintro _ _ ⟨M4, fM4_0, rfl, rfl⟩; simp only [hp_next] at fM4_0
    try simp -dsimp -implicitDefEqProofs (maxDischargeDepth := 6) [e0, e1, e2, gs_W0, List.set_set, q1, app102 hl8, hp_over_some, hp_over_none]
    exact hK _ _ ⟨M4, (by omega), rfl, rfl⟩
   rintro a σ ⟨M4, fM4_0, ha, rfl⟩
   refine hK4 _ _ ?_; rw [ha]
   refine Rc.mk ?_
   refine AWP_rt tok [] [0, 3, 4, 5] (fun a σ => a = [(0, .ptr w0 r0_ 0), (3, .int .i64 (iadd .i64 1 r1.1)), (4, .sl (M2 + 9) 0 l8.length), (5, .int .i64 (iadd .i64 s2 1))] ∧ σ = hp E0 [(w0, some ⟨118, 2, W0.set r0_ [.fsl (encL rI_u8 r7.2.b), .int .i64 r7.2.p]⟩), (M2 + 9, some ⟨123, 5, encL rQuad l8⟩)] (M4 + 3)) (fun K hK => ?_) ?_
   ·
    skip
    have e0 := nq (a := w0) (b := M2 + 9) (by omega)
    simp -dsimp -implicitDefEqProofs (maxDischargeDepth := 6) [e0, gs_W0, List.set_set]
    exact hK _ _ ⟨rfl, rfl⟩
   rintro a σ ⟨ha, rfl⟩
   replace H := Option.some.inj H; subst H
   refine hK2 _ _ _ rfl ?_; rw [ha]
   exact Rc.fin (AHeap.Sub.refl _) ⟨M4 + 3, (M2 + 9), (by omega), (by omega), (by omega), rfl, rfl⟩
  ·
   replace H := ifF C1 H
   replace H := Option.some.inj H; subst H
   refine AWP_exit (hO2 _ _ _ _ rfl ⟨rfl, ?_⟩)
   refine Rc.rw (l := [0, 3, 4]) (X := [(0, .ptr w0 r0_ 0), (3, .int .i64 (iadd .i64 1 r1.1)), (4, .sl o1 0 s4.length)]) rfl ?_
   exact Rc.fin (AHeap.Sub.refl _) ⟨M2 + 4, o1, (by omega), (by omega), (by omega), rfl, rfl⟩
 ·
  intro x a σ hx
  obtain ⟨y5, y6⟩ := e1
  obtain ⟨rfl, b, τ, hr, M3, o2, fM3_0, fM3_1, fM3_2, rfl, rfl⟩ := hx
  dsimp only at H
  show K1 _ _
  refine hK1 _ _ (Rc_ref hr ?_)
  refine Rc.mk ?_
  refine AWP_sq [4] fun K5 hK5 => ?_
  obtain ⟨r9, hr9, H⟩ := bindE H
  refine AWP_sr tok [] [0, 3, 4, 24] (fun a σ => ∃ M5 : Nat, M3 + 3 ≤ M5 ∧ a = [(0, .ptr w0 r0_ 0), (3, .int .i64 (iadd .i64 1 r1.1)), (4, .sl o2 0 y6.length), (24, .bool (ieq r9.1 0))] ∧ σ = hp E0 [(w0, some ⟨118, 2, W0.set r0_ [.fsl (encL rI_u8 r9.2.b), .int .i64 r9.2.p]⟩), (o2, some ⟨123, 5, encL rQuad y6⟩)] M5) (fun K hK => ?_) ?_
  ·
   skip
   have e0 := nq (a := w0) (b := o2) (by omega)
   simp -dsimp -implicitDefEqProofs (maxDischargeDepth := 6) [e0, gs_W0, List.set_set]
   refine (c74 (W0 := W0.set r0_ [.fsl (encL rI_u8 y5.b), .int .i64 y5.p]) (r0_ := r0_) (H := hr9) (by simp [e0, gs_W0, List.set_set]) (by simp [e0, gs_W0, List.set_set])).mono ?_; rintro _ _ ⟨M5, fM5_0, rfl, rfl⟩; simp only [hp_next] at fM5_0
   try simp -dsimp -implicitDefEqProofs (maxDischargeDepth := 6) [e0, gs_W0, List.set_set, hp_over_some, hp_over_none]
   exact hK _ _ ⟨M5, (by omega), rfl, rfl⟩
  rintro a σ ⟨M5, fM5_0, rfl, rfl⟩
  refine AWP_cond (ieq r9.1 0) rfl (fun C2 => ?_) (fun C2 => ?_)
  ·
   replace H := ifT C2 H
   obtain ⟨r10, hr10, H⟩ := bindE H
   obtain ⟨l11, hl11, H⟩ := bindE H
   have q2 : ∀ σ i, buildSliceA T 102 true i 1 [(0, .agg [.int .i64 4, .int .i64 0, .int .i64 0, .int .i64 0, .int .i64 r10.1])] σ = some (.fsl (encL rQuad ([(⟨4, 0, 0, 0, r10.1⟩ : gQuad)] : List gQuad)), σ) := fun _ _ => rfl
   refine AWP_sr tok [5] [2] (fun a σ => ∃ M6 : Nat, M5 + 8 ≤ M6 ∧ a = [(2, .sl (M5 + 6) 0 l11.length)] ∧ σ = hp E0 [(w0, some ⟨118, 2, W0.set r0_ [.fsl (encL rI_u8 r10.2.b), .int .i64 r10.2.p]⟩), (M5 + 6, some ⟨123, 5, encL rQuad l11⟩)] M6) (fun K hK => ?_) ?_
   ·
    skip
    have e0 := nq (a := w0) (b := o2) (by omega)
    have e1 := nq (a := w0) (b := M5 + 6) (by omega)
    have e2 := nq (a := o2) (b := M5 + 6) (by omega)
    simp -dsimp -implicitDefEqProofs (maxDischargeDepth := 6) [e0, e1, e2, gs_W0, List.set_set, q2, app102 hl11]
    refine (c74 (W0 := W0.set r0_ [.fsl (encL rI_u8 r9.2.b), .int .i64 r9.2.p]) (r0_ := r0_) (H := hr10) (by simp [e0, e1, e2, gs_W0, List.set_set, q2, app102 hl11]) (by simp [e0, e1, e2, gs_W0, List.set_set, q2, app102 hl11])).mono ?_; rintro _ _ ⟨M6, fM6_0, rfl, rfl⟩; simp only [hp_next] at fM6_0
    try simp -dsimp -implicitDefEqProofs (maxDischargeDepth := 6) [e0, e1, e2, gs_W0, List.set_set, q2, app102 hl11, hp_over_some, hp_over_none]
    exact hK _ _ ⟨M6, (by omega), rfl, rfl⟩
   rintro a σ ⟨M6, fM6_0, rfl, rfl⟩
   have z0 := nq (a := w0) (b := M5 + 6) (by omega)
   refine gFrz AWP_ref 4 [M5 + 6] [(w0, some ⟨118, 2, W0.set r0_ [.fsl (encL rI_u8 r10.2.b), .int .i64 r10.2.p]⟩)] [(2, .fsl (encL rQuad l11))] (by simp [z0]) (cutD (by simp [z0])) ?_
   replace H := Option.some.inj H; subst H
   refine AWP_kp [2] [(2, .fsl (encL rQuad l11))] rfl ?_
   refine AWP_ret ?_
   refine ⟨[.fsl (encL rQuad l11)], by simp [gs_W0], M6, by omega, ?_, ?_⟩
   ·
    simp [encL_nil]
   ·
    first | rfl | simp [List.set_set]
  ·
   replace H := ifF C2 H
   refine AWP_skip ?_
   show K5 _ _
   refine keepE (l := [4]) (x := [(4, .sl o2 0 y6.length)]) rfl fun a' ha => ?_
   refine hK5 _ _ ?_; rw [ha]
   refine Rc.mk ?_
   obtain ⟨l12, hl12, H⟩ := bindE H
   have q3 : ∀ σ i, buildSliceA T 102 true i 1 [(0, .agg [.int .i64 10, .int .i64 0, .int .i64 0, .int .i64 0, .int .i64 0])] σ = some (.fsl (encL rQuad ([(⟨10, 0, 0, 0, 0⟩ : gQuad)] : List gQuad)), σ) := fun _ _ => rfl
   refine AWP_sr tok [2] [2] (fun a σ => a = [(2, .sl (M5 + 3) 0 l12.length)] ∧ σ = hp E0 [(w0, some ⟨118, 2, W0.set r0_ [.fsl (encL rI_u8 r9.2.b), .int .i64 r9.2.p]⟩), (M5 + 3, some ⟨123, 5, encL rQuad l12⟩)] (M5 + 5)) (fun K hK => ?_) ?_
   ·
    skip
    have e0 := nq (a := w0) (b := o2) (by omega)
    have e1 := nq (a := w0) (b := M5 + 3) (by omega)
    have e2 := nq (a := o2) (b := M5 + 3) (by omega)
    simp -dsimp -implicitDefEqProofs (maxDischargeDepth := 6) [e0, e1, e2, gs_W0, List.set_set, q3, app102 hl12]
    exact hK _ _ ⟨rfl, rfl⟩
   rintro a σ ⟨rfl, rfl⟩
   have z1 := nq (a := w0) (b := M5 + 3) (by omega)
   refine gFrz AWP_ref 4 [M5 + 3] [(w0, some ⟨118, 2, W0.set r0_ [.fsl (encL rI_u8 r9.2.b), .int .i64 r9.2.p]⟩)] [(2, .fsl (encL rQuad l12))] (by simp [z1]) (cutD (by simp [z1])) ?_
   replace H := Option.some.inj H; subst H
   refine AWP_kp [2] [(2, .fsl (encL rQuad l12))] rfl ?_
   refine AWP_ret ?_
   refine ⟨[.fsl (encL rQuad l12)], by simp [gs_W0], M5 + 5, by omega, ?_, ?_⟩
   ·
    simp [encL_nil]
   ·
    first | rfl | simp [List.set_set]
theorem c101 {p0 : Int} {p1 : Int} {p2 : Int} {r : Int} (H : s_l43Reg p0 p1 p2 = some r) : APure Try.prog G 101 [.int .i64 p0, .int .i64 p1, .int .i64 p2] (.int .i64 r) := by
 refine APure_fn (fun N0 => ?_) (by simp)
 refine ACalls_fn tok Try.func101 (by kernel_rfl) rfl Try.ntmps101 Try.results101 rfl ?_
 simp only [argsA, Nat.reduceAdd, hp_next]
 unfold s_l43Reg at H
 refine AWP_sr tok [] [0, 1, 2] (fun a σ => a = [(0, .int .i64 p0), (1, .int .i64 p1), (2, .int .i64 p2)] ∧ σ = hp E0 [] (N0 + 1)) (fun K hK => ?_) ?_
 ·
  skip
  simp -dsimp -implicitDefEqProofs (maxDischargeDepth := 6)
  exact hK _ _ ⟨rfl, rfl⟩
 rintro a σ ⟨rfl, rfl⟩
 refine AWP_sq [0] fun K1 hK1 => ?_
 refine AWP_sr tok [] [0, 2, 9] (fun a σ => a = [(0, .int .i64 p0), (2, .int .i64 p2), (9, .bool (ige p0 p1))] ∧ σ = hp E0 [] (N0 + 4)) (fun K hK => ?_) ?_
 ·
  skip
  simp -dsimp -implicitDefEqProofs (maxDischargeDepth := 6)
  exact hK _ _ ⟨rfl, rfl⟩
 rintro a σ ⟨rfl, rfl⟩
 refine AWP_cond (ige p0 p1) rfl (fun C1 => ?_) (fun C1 => ?_)
 ·
  replace H := ifT C1 H
  refine AWP_sr tok [] [6] (fun a σ => a = [(6, .int .i64 p2)] ∧ σ = hp E0 [] (N0 + 6)) (fun K hK => ?_) ?_
  ·
   skip
   simp -dsimp -implicitDefEqProofs (maxDischargeDepth := 6)
   exact hK _ _ ⟨rfl, rfl⟩
  rintro a σ ⟨rfl, rfl⟩
  replace H := Option.some.inj H; subst H
  refine AWP_kp [6] [(6, .int .i64 p2)] rfl ?_
  refine AWP_ret ?_
  exact ⟨[.int .i64 p2], by simp, 4, by simp [encL_nil]⟩
 ·
  replace H := ifF C1 H
  refine AWP_skip ?_
  show K1 _ _
  refine keepE (l := [0]) (x := [(0, .int .i64 p0)]) rfl fun a' ha => ?_
  refine hK1 _ _ ?_; rw [ha]
  refine Rc.mk ?_
  obtain ⟨v1, hv1, H⟩ := bindE H
  have q0 : ∀ σ i, buildSliceA T 22 true i 8 [(0, .int .i64 8), (1, .int .i64 9), (2, .int .i64 18), (3, .int .i64 19), (4, .int .i64 20), (5, .int .i64 21), (6, .int .i64 22), (7, .int .i64 23)] σ = some (.fsl (encL rI ([8, 9, 18, 19, 20, 21, 22, 23] : List Int)), σ) := fun _ _ => rfl
  refine AWP_sr tok [0] [6] (fun a σ => a = [(6, .int .i64 v1)] ∧ σ = hp E0 [] (N0 + 9)) (fun K hK => ?_) ?_
  ·
   skip
   simp -dsimp -implicitDefEqProofs (maxDischargeDepth := 6) [q0, ix22 hv1]
   exact hK _ _ ⟨rfl, rfl⟩
  rintro a σ ⟨rfl, rfl⟩
  replace H := Option.some.inj H; subst H
  refine AWP_kp [6] [(6, .int .i64 v1)] rfl ?_
  refine AWP_ret ?_
  exact ⟨[.int .i64 v1], by simp, 4, by simp [encL_nil]⟩
theorem c117 {p0 : Int} {r : Int} (H : s_Unsigned p0 = some r) : APure Try.prog G 117 [.int .i64 p0] (.int .i64 r) := by
 refine APure_fn (fun N0 => ?_) (by simp)
 refine ACalls_fn tok Try.func117 (by kernel_rfl) rfl Try.ntmps117 Try.results117 rfl ?_
 simp only [argsA, Nat.reduceAdd, hp_next]
 unfold s_Unsigned at H
 refine AWP_sr tok [] [0] (fun a σ => a = [(0, .int .i64 p0)] ∧ σ = hp E0 [] (N0 + 1)) (fun K hK => ?_) ?_
 ·
  skip
  simp -dsimp -implicitDefEqProofs (maxDischargeDepth := 6)
  exact hK _ _ ⟨rfl, rfl⟩
 rintro a σ ⟨rfl, rfl⟩
 refine AWP_sq [0] fun K1 hK1 => ?_
 obtain ⟨r1, hr1, H⟩ := bindE H
 refine AWP_sr tok [] [0, 5] (fun a σ => a = [(0, .int .i64 p0), (5, .bool (bnot r1))] ∧ σ = hp E0 [] (N0 + 4)) (fun K hK => ?_) ?_
 ·
  skip
  simp -dsimp -implicitDefEqProofs (maxDischargeDepth := 6)
  refine (c81 hr1).app ?_; try simp -dsimp -implicitDefEqProofs (maxDischargeDepth := 6)
  exact hK _ _ ⟨rfl, rfl⟩
 rintro a σ ⟨rfl, rfl⟩
 refine AWP_cond (bnot r1) rfl (fun C1 => ?_) (fun C1 => ?_)
 ·
  replace H := ifT C1 H
  refine AWP_sr tok [] [2] (fun a σ => a = [(2, .int .i64 (-1))] ∧ σ = hp E0 [] (N0 + 5)) (fun K hK => ?_) ?_
  ·
   skip
   simp -dsimp -implicitDefEqProofs (maxDischargeDepth := 6)
   exact hK _ _ ⟨rfl, rfl⟩
  rintro a σ ⟨rfl, rfl⟩
  replace H := Option.some.inj H; subst H
  refine AWP_kp [2] [(2, .int .i64 (-1))] rfl ?_
  refine AWP_ret ?_
  exact ⟨[.int .i64 (-1)], by simp, 4, by simp [encL_nil]⟩
 ·
  replace H := ifF C1 H
  refine AWP_skip ?_
  show K1 _ _
  refine keepE (l := [0]) (x := [(0, .int .i64 p0)]) rfl fun a' ha => ?_
  refine hK1 _ _ ?_; rw [ha]
  refine Rc.mk ?_
  refine AWP_sq [0] fun K2 hK2 => ?_
  refine AWP_sr tok [] [0, 7] (fun a σ => a = [(0, .int .i64 p0), (7, .bool (ilt p0 0))] ∧ σ = hp E0 [] (N0 + 6)) (fun K hK => ?_) ?_
  ·
   skip
   simp -dsimp -implicitDefEqProofs (maxDischargeDepth := 6)
   exact hK _ _ ⟨rfl, rfl⟩
  rintro a σ ⟨rfl, rfl⟩
  refine AWP_cond (ilt p0 0) rfl (fun C2 => ?_) (fun C2 => ?_)
  ·
   replace H := ifT C2 H
   refine AWP_sr tok [] [2] (fun a σ => a = [(2, .int .i64 (iadd .i64 p0 4294967296))] ∧ σ = hp E0 [] (N0 + 9)) (fun K hK => ?_) ?_
   ·
    skip
    simp -dsimp -implicitDefEqProofs (maxDischargeDepth := 6)
    exact hK _ _ ⟨rfl, rfl⟩
   rintro a σ ⟨rfl, rfl⟩
   replace H := Option.some.inj H; subst H
   refine AWP_kp [2] [(2, .int .i64 (iadd .i64 p0 4294967296))] rfl ?_
   refine AWP_ret ?_
   exact ⟨[.int .i64 (iadd .i64 p0 4294967296)], by simp, 4, by simp [encL_nil]⟩
  ·
   replace H := ifF C2 H
   refine AWP_skip ?_
   show K2 _ _
   refine keepE (l := [0]) (x := [(0, .int .i64 p0)]) rfl fun a' ha => ?_
   refine hK2 _ _ ?_; rw [ha]
   refine Rc.mk ?_
   refine AWP_sr tok [] [2] (fun a σ => a = [(2, .int .i64 p0)] ∧ σ = hp E0 [] (N0 + 8)) (fun K hK => ?_) ?_
   ·
    skip
    simp -dsimp -implicitDefEqProofs (maxDischargeDepth := 6)
    exact hK _ _ ⟨rfl, rfl⟩
   rintro a σ ⟨rfl, rfl⟩
   replace H := Option.some.inj H; subst H
   refine AWP_kp [2] [(2, .int .i64 p0)] rfl ?_
   refine AWP_ret ?_
   exact ⟨[.int .i64 p0], by simp, 4, by simp [encL_nil]⟩
theorem c128 {p0 : Int} {r : Int} (H : s_l1Power p0 = some r) : APure Try.prog G 128 [.int .i64 p0] (.int .i64 r) := by
 refine APure_fn (fun N0 => ?_) (by simp)
 refine ACalls_fn tok Try.func128 (by kernel_rfl) rfl Try.ntmps128 Try.results128 rfl ?_
 simp only [argsA, Nat.reduceAdd, hp_next]
 unfold s_l1Power at H
 refine AWP_sr tok [] [0] (fun a σ => a = [(0, .int .i64 p0)] ∧ σ = hp E0 [] (N0 + 1)) (fun K hK => ?_) ?_
 ·
  skip
  simp -dsimp -implicitDefEqProofs (maxDischargeDepth := 6)
  exact hK _ _ ⟨rfl, rfl⟩
 rintro a σ ⟨rfl, rfl⟩
 refine AWP_sr tok [] [0, 3] (fun a σ => a = [(0, .int .i64 p0), (3, .int .i64 1)] ∧ σ = hp E0 [] (N0 + 2)) (fun K hK => ?_) ?_
 ·
  skip
  simp -dsimp -implicitDefEqProofs (maxDischargeDepth := 6)
  exact hK _ _ ⟨rfl, rfl⟩
 rintro a σ ⟨rfl, rfl⟩
 refine AWP_sq [3] fun K1 hK1 => ?_
 refine AWP_sr tok [] [0, 3, 4] (fun a σ => a = [(0, .int .i64 p0), (3, .int .i64 1), (4, .int .i64 0)] ∧ σ = hp E0 [] (N0 + 3)) (fun K hK => ?_) ?_
 ·
  skip
  simp -dsimp -implicitDefEqProofs (maxDischargeDepth := 6)
  exact hK _ _ ⟨rfl, rfl⟩
 rintro a σ ⟨rfl, rfl⟩
 refine AWP_block (AWP_thenB ?_)
 obtain ⟨e1, hse1, H⟩ := bindE H
 refine AWP_lp [0, 3, 4] (fun s a σ => ∃ M1 : Nat, N0 ≤ M1 ∧ a = [(0, .int .i64 p0), (3, .int .i64 s.1), (4, .int .i64 s.2)] ∧ σ = hp E0 [] M1) (fun s x a σ => x = .exit 0 ∧ Rc G 13 N0 (fun a σ => ∃ M2 : Nat, N0 ≤ M2 ∧ a = [(3, .int .i64 s)] ∧ σ = hp E0 [] M2) (AAct.keep a [3]) σ) hse1 ?_ ?_ ?_
 ·
  refine Rc.kp [0, 3, 4] [(0, .int .i64 p0), (3, .int .i64 1), (4, .int .i64 0)] rfl ?_
  exact Rc.fin (AHeap.Sub.refl _) ⟨N0 + 3, (by omega), rfl, rfl⟩
 ·
  clear H hse1
  rintro ⟨s1, s2⟩ fl a σ H ⟨M1, fM1_0, rfl, rfl⟩ K2 O2 hK2 hO2
  unfold s_l1Power_L1 at H; dsimp only at H
  refine AWP_sq [0, 3, 4] fun K3 hK3 => ?_
  refine AWP_sr tok [] [0, 3, 4, 7] (fun a σ => a = [(0, .int .i64 p0), (3, .int .i64 s1), (4, .int .i64 s2), (7, .bool (ilt s2 p0))] ∧ σ = hp E0 [] (M1 + 3)) (fun K hK => ?_) ?_
  ·
   skip
   simp -dsimp -implicitDefEqProofs (maxDischargeDepth := 6)
   exact hK _ _ ⟨rfl, rfl⟩
  rintro a σ ⟨rfl, rfl⟩
  refine AWP_cond (ilt s2 p0) rfl (fun C1 => ?_) (fun C1 => ?_)
  ·
   replace H := ifT C1 H
   refine AWP_skip ?_
   show K3 _ _
   refine keepE (l := [0, 3, 4]) (x := [(0, .int .i64 p0), (3, .int .i64 s1), (4, .int .i64 s2)]) rfl fun a' ha => ?_
   refine hK3 _ _ ?_; rw [ha]
   refine Rc.mk ?_
   refine AWP_sq [0, 3, 4] fun K4 hK4 => ?_
   refine AWP_block (AWP_thenB ?_)
   refine AWP_rt tok [] [0, 3, 4] (fun a σ => a = [(0, .int .i64 p0), (3, .int .i64 (imul .i64 s1 2)), (4, .int .i64 s2)] ∧ σ = hp E0 [] (M1 + 6)) (fun K hK => ?_) ?_
   ·
    skip
    simp -dsimp -implicitDefEqProofs (maxDischargeDepth := 6)
    exact hK _ _ ⟨rfl, rfl⟩
   rintro a σ ⟨ha, rfl⟩
   refine hK4 _ _ ?_; rw [ha]
   refine Rc.mk ?_
   refine AWP_rt tok [] [0, 3, 4] (fun a σ => a = [(0, .int .i64 p0), (3, .int .i64 (imul .i64 s1 2)), (4, .int .i64 (iadd .i64 s2 1))] ∧ σ = hp E0 [] (M1 + 9)) (fun K hK => ?_) ?_
   ·
    skip
    simp -dsimp -implicitDefEqProofs (maxDischargeDepth := 6)
    exact hK _ _ ⟨rfl, rfl⟩
   rintro a σ ⟨ha, rfl⟩
   replace H := Option.some.inj H; subst H
   refine hK2 _ _ _ rfl ?_; rw [ha]
   exact Rc.fin (AHeap.Sub.refl _) ⟨M1 + 9, (by omega), rfl, rfl⟩
  ·
   replace H := ifF C1 H
   replace H := Option.some.inj H; subst H
   refine AWP_exit (hO2 _ _ _ _ rfl ⟨rfl, ?_⟩)
   refine Rc.rw (l := [3]) (X := [(3, .int .i64 s1)]) rfl ?_
   exact Rc.fin (AHeap.Sub.refl _) ⟨M1 + 3, (by omega), rfl, rfl⟩
 ·
  intro x a σ hx
  obtain ⟨y3, rfl⟩ : ∃ x, x = e1 := ⟨_, rfl⟩
  obtain ⟨rfl, b, τ, hr, M2, fM2_0, rfl, rfl⟩ := hx
  dsimp only at H
  show K1 _ _
  refine hK1 _ _ (Rc_ref hr ?_)
  refine Rc.mk ?_
  refine AWP_sr tok [] [2] (fun a σ => a = [(2, .int .i64 y3)] ∧ σ = hp E0 [] (M2 + 2)) (fun K hK => ?_) ?_
  ·
   skip
   simp -dsimp -implicitDefEqProofs (maxDischargeDepth := 6)
   exact hK _ _ ⟨rfl, rfl⟩
  rintro a σ ⟨rfl, rfl⟩
  replace H := Option.some.inj H; subst H
  refine AWP_kp [2] [(2, .int .i64 y3)] rfl ?_
  refine AWP_ret ?_
  exact ⟨[.int .i64 y3], by simp, 4, by simp [encL_nil]⟩
theorem c116 {p0 : Int} {p1 : Int} {p2 : Int} {r : Int} (H : s_Bits p0 p1 p2 = some r) : APure Try.prog G 116 [.int .i64 p0, .int .i64 p1, .int .i64 p2] (.int .i64 r) := by
 refine APure_fn (fun N0 => ?_) (by simp)
 refine ACalls_fn tok Try.func116 (by kernel_rfl) rfl Try.ntmps116 Try.results116 rfl ?_
 simp only [argsA, Nat.reduceAdd, hp_next]
 unfold s_Bits at H
 refine AWP_sr tok [] [0, 1, 2] (fun a σ => a = [(0, .int .i64 p0), (1, .int .i64 p1), (2, .int .i64 p2)] ∧ σ = hp E0 [] (N0 + 1)) (fun K hK => ?_) ?_
 ·
  skip
  simp -dsimp -implicitDefEqProofs (maxDischargeDepth := 6)
  exact hK _ _ ⟨rfl, rfl⟩
 rintro a σ ⟨rfl, rfl⟩
 refine AWP_sq [0, 1, 2] fun K1 hK1 => ?_
 obtain ⟨r1, hr1, H⟩ := bindE H
 obtain ⟨g3, hg3, H⟩ := bindE H
 obtain ⟨g5, hg5, H⟩ := bindE H
 refine AWP_sr tok [] [0, 1, 2, 21] (fun a σ => a = [(0, .int .i64 p0), (1, .int .i64 p1), (2, .int .i64 p2), (21, .bool g5)] ∧ σ = hp E0 [] (N0 + 16)) (fun K hK => ?_) ?_
 ·
  skip
  simp -dsimp -implicitDefEqProofs (maxDischargeDepth := 6)
  refine (c83 hr1).app ?_; try simp -dsimp -implicitDefEqProofs (maxDischargeDepth := 6)
  cases hbg3 : bnot r1
  ·
   replace hg3 := ifF hbg3 hg3
   obtain ⟨r2, hr2, hg3⟩ := bindE hg3
   replace hg3 := Option.some.inj hg3; subst hg3
   try simp -dsimp -implicitDefEqProofs (maxDischargeDepth := 6) [hbg3]
   refine (c83 hr2).app ?_; try simp -dsimp -implicitDefEqProofs (maxDischargeDepth := 6) [hbg3]
   cases hbg5 : (bnot r2)
   ·
    replace hg5 := ifF hbg5 hg5
    obtain ⟨r4, hr4, hg5⟩ := bindE hg5
    replace hg5 := Option.some.inj hg5; subst hg5
    try simp -dsimp -implicitDefEqProofs (maxDischargeDepth := 6) [hbg3, hbg5]
    refine (c83 hr4).app ?_; try simp -dsimp -implicitDefEqProofs (maxDischargeDepth := 6) [hbg3, hbg5]
    exact hK _ _ ⟨rfl, rfl⟩
   ·
    replace hg5 := ifT hbg5 hg5
    replace hg5 := Option.some.inj hg5; subst hg5
    try simp -dsimp -implicitDefEqProofs (maxDischargeDepth := 6) [hbg3, hbg5]
    exact hK _ _ ⟨rfl, rfl⟩
  ·
   replace hg3 := ifT hbg3 hg3
   replace hg3 := Option.some.inj hg3; subst hg3
   try simp -dsimp -implicitDefEqProofs (maxDischargeDepth := 6) [hbg3]
   replace hg5 := ifT rfl hg5
   replace hg5 := Option.some.inj hg5; subst hg5
   try simp -dsimp -implicitDefEqProofs (maxDischargeDepth := 6) [hbg3]
   exact hK _ _ ⟨rfl, rfl⟩
 rintro a σ ⟨rfl, rfl⟩
 refine AWP_cond g5 rfl (fun C1 => ?_) (fun C1 => ?_)
 ·
  replace H := ifT C1 H
  refine AWP_sr tok [] [6] (fun a σ => a = [(6, .int .i64 0)] ∧ σ = hp E0 [] (N0 + 17)) (fun K hK => ?_) ?_
  ·
   skip
   simp -dsimp -implicitDefEqProofs (maxDischargeDepth := 6)
   exact hK _ _ ⟨rfl, rfl⟩
  rintro a σ ⟨rfl, rfl⟩
  replace H := Option.some.inj H; subst H
  refine AWP_kp [6] [(6, .int .i64 0)] rfl ?_
  refine AWP_ret ?_
  exact ⟨[.int .i64 0], by simp, 4, by simp [encL_nil]⟩
 ·
  replace H := ifF C1 H
  refine AWP_skip ?_
  show K1 _ _
  refine keepE (l := [0, 1, 2]) (x := [(0, .int .i64 p0), (1, .int .i64 p1), (2, .int .i64 p2)]) rfl fun a' ha => ?_
  refine hK1 _ _ ?_; rw [ha]
  refine Rc.mk ?_
  obtain ⟨r6, hr6, H⟩ := bindE H
  obtain ⟨v7, hv7, H⟩ := bindE H
  obtain ⟨r8, hr8, H⟩ := bindE H
  obtain ⟨v9, hv9, H⟩ := bindE H
  refine AWP_sd tok tokM [] [] [0, 1, 2, 3, 4, 5, 6, 7] [6] (fun a σ => a = [(6, .int .i64 v9)] ∧ σ = hp E0 [] (N0 + 24)) (by decide) (fun K hK => ?_) ?_
  ·
   simp only [pickL, nthO_succ, nthO_zero]
   simp -dsimp -implicitDefEqProofs (maxDischargeDepth := 6) [hv7, hv9]
   refine Pc.mk (c128 hr6) ?_; try simp -dsimp -implicitDefEqProofs (maxDischargeDepth := 6) [hv7, hv9]
   refine Pc.mk (c128 hr8) ?_; try simp -dsimp -implicitDefEqProofs (maxDischargeDepth := 6) [hv7, hv9]
   exact hK _ _ ⟨rfl, rfl⟩
  rintro a σ ⟨rfl, rfl⟩
  replace H := Option.some.inj H; subst H
  refine AWP_kp [6] [(6, .int .i64 v9)] rfl ?_
  refine AWP_ret ?_
  exact ⟨[.int .i64 v9], by simp, 4, by simp [encL_nil]⟩
theorem c115 {p0 : Int} {p1 : Int} {r : Int} (H : s_SignExtend p0 p1 = some r) : APure Try.prog G 115 [.int .i64 p0, .int .i64 p1] (.int .i64 r) := by
 refine APure_fn (fun N0 => ?_) (by simp)
 refine ACalls_fn tok Try.func115 (by kernel_rfl) rfl Try.ntmps115 Try.results115 rfl ?_
 simp only [argsA, Nat.reduceAdd, hp_next]
 unfold s_SignExtend at H
 refine AWP_sr tok [] [0, 1] (fun a σ => a = [(0, .int .i64 p0), (1, .int .i64 p1)] ∧ σ = hp E0 [] (N0 + 1)) (fun K hK => ?_) ?_
 ·
  skip
  simp -dsimp -implicitDefEqProofs (maxDischargeDepth := 6)
  exact hK _ _ ⟨rfl, rfl⟩
 rintro a σ ⟨rfl, rfl⟩
 refine AWP_sq [0, 1] fun K1 hK1 => ?_
 obtain ⟨r1, hr1, H⟩ := bindE H
 obtain ⟨g4, hg4, H⟩ := bindE H
 refine AWP_sr tok [] [0, 1, 15] (fun a σ => a = [(0, .int .i64 p0), (1, .int .i64 p1), (15, .bool g4)] ∧ σ = hp E0 [] (N0 + 12)) (fun K hK => ?_) ?_
 ·
  skip
  simp -dsimp -implicitDefEqProofs (maxDischargeDepth := 6)
  refine (c83 hr1).app ?_; try simp -dsimp -implicitDefEqProofs (maxDischargeDepth := 6)
  cases hbg4 : bnot r1
  ·
   replace hg4 := ifF hbg4 hg4
   obtain ⟨r2, hr2, hg4⟩ := bindE hg4
   obtain ⟨r3, hr3, hg4⟩ := bindE hg4
   replace hg4 := Option.some.inj hg4; subst hg4
   try simp -dsimp -implicitDefEqProofs (maxDischargeDepth := 6) [hbg4]
   refine (c128 hr2).app ?_; try simp -dsimp -implicitDefEqProofs (maxDischargeDepth := 6) [hbg4]
   refine (c83 hr3).app ?_; try simp -dsimp -implicitDefEqProofs (maxDischargeDepth := 6) [hbg4]
   exact hK _ _ ⟨rfl, rfl⟩
  ·
   replace hg4 := ifT hbg4 hg4
   replace hg4 := Option.some.inj hg4; subst hg4
   try simp -dsimp -implicitDefEqProofs (maxDischargeDepth := 6) [hbg4]
   exact hK _ _ ⟨rfl, rfl⟩
 rintro a σ ⟨rfl, rfl⟩
 refine AWP_cond g4 rfl (fun C1 => ?_) (fun C1 => ?_)
 ·
  replace H := ifT C1 H
  refine AWP_sr tok [] [4] (fun a σ => a = [(4, .int .i64 0)] ∧ σ = hp E0 [] (N0 + 13)) (fun K hK => ?_) ?_
  ·
   skip
   simp -dsimp -implicitDefEqProofs (maxDischargeDepth := 6)
   exact hK _ _ ⟨rfl, rfl⟩
  rintro a σ ⟨rfl, rfl⟩
  replace H := Option.some.inj H; subst H
  refine AWP_kp [4] [(4, .int .i64 0)] rfl ?_
  refine AWP_ret ?_
  exact ⟨[.int .i64 0], by simp, 4, by simp [encL_nil]⟩
 ·
  replace H := ifF C1 H
  refine AWP_skip ?_
  show K1 _ _
  refine keepE (l := [0, 1]) (x := [(0, .int .i64 p0), (1, .int .i64 p1)]) rfl fun a' ha => ?_
  refine hK1 _ _ ?_; rw [ha]
  refine Rc.mk ?_
  refine AWP_sq [0] fun K2 hK2 => ?_
  obtain ⟨r5, hr5, H⟩ := bindE H
  refine AWP_sr tok [] [0, 1, 20] (fun a σ => a = [(0, .int .i64 p0), (1, .int .i64 p1), (20, .bool (ige p0 r5))] ∧ σ = hp E0 [] (N0 + 17)) (fun K hK => ?_) ?_
  ·
   skip
   simp -dsimp -implicitDefEqProofs (maxDischargeDepth := 6)
   refine (c128 hr5).app ?_; try simp -dsimp -implicitDefEqProofs (maxDischargeDepth := 6)
   exact hK _ _ ⟨rfl, rfl⟩
  rintro a σ ⟨rfl, rfl⟩
  refine AWP_cond (ige p0 r5) rfl (fun C2 => ?_) (fun C2 => ?_)
  ·
   replace H := ifT C2 H
   obtain ⟨r6, hr6, H⟩ := bindE H
   refine AWP_sr tok [] [4] (fun a σ => a = [(4, .int .i64 (isub .i64 p0 r6))] ∧ σ = hp E0 [] (N0 + 22)) (fun K hK => ?_) ?_
   ·
    skip
    simp -dsimp -implicitDefEqProofs (maxDischargeDepth := 6)
    refine (c128 hr6).app ?_; try simp -dsimp -implicitDefEqProofs (maxDischargeDepth := 6)
    exact hK _ _ ⟨rfl, rfl⟩
   rintro a σ ⟨rfl, rfl⟩
   replace H := Option.some.inj H; subst H
   refine AWP_kp [4] [(4, .int .i64 (isub .i64 p0 r6))] rfl ?_
   refine AWP_ret ?_
   exact ⟨[.int .i64 (isub .i64 p0 r6)], by simp, 4, by simp [encL_nil]⟩
  ·
   replace H := ifF C2 H
   refine AWP_skip ?_
   show K2 _ _
   refine keepE (l := [0]) (x := [(0, .int .i64 p0)]) rfl fun a' ha => ?_
   refine hK2 _ _ ?_; rw [ha]
   refine Rc.mk ?_
   refine AWP_sr tok [] [4] (fun a σ => a = [(4, .int .i64 p0)] ∧ σ = hp E0 [] (N0 + 19)) (fun K hK => ?_) ?_
   ·
    skip
    simp -dsimp -implicitDefEqProofs (maxDischargeDepth := 6)
    exact hK _ _ ⟨rfl, rfl⟩
   rintro a σ ⟨rfl, rfl⟩
   replace H := Option.some.inj H; subst H
   refine AWP_kp [4] [(4, .int .i64 p0)] rfl ?_
   refine AWP_ret ?_
   exact ⟨[.int .i64 p0], by simp, 4, by simp [encL_nil]⟩
theorem c102 {p0 : (List gInstr)} {p1 : Int} {p2 : Int} {r : (List gInstr)} (H : s_l43Write p0 p1 p2 = some r) {σ : AHeap} {w0 : Nat} (q0 : σ.objs w0 = some ⟨131, 5, encL rInstr p0⟩) : ACalls Try.prog G 102 [.sl w0 0 p0.length, .int .i64 p1, .int .i64 p2] σ (fun v σ' => ∃ M : Nat, σ.next ≤ M ∧ v = .fsl (encL rInstr r) ∧ σ' = hp σ.objs [(w0, none)] M) := by
 refine ACalls_fr (L := [(w0, some ⟨131, 5, encL rInstr p0⟩)]) (Q1 := fun v σ' => ∃ M : Nat, σ.next ≤ M ∧ v = .fsl (encL rInstr r) ∧ σ' = hp E0 [(w0, none)] M) (by simp [q0]) (fun hlt => ?_) ?_ ⟨_, Try.func102, rfl, rfl⟩
 rotate_left
 ·
  rintro v σ1 ⟨M, h0, rfl, rfl⟩
  exact ⟨_, M, rfl, by simp, by simp; try omega, M, h0, rfl, rfl⟩
 generalize σ.next = N0 at hlt ⊢
 have lw0 : w0 < N0 := hlt _ (.head _) rfl
 refine ACalls_fn tok Try.func102 (by kernel_rfl) rfl Try.ntmps102 Try.results102 rfl ?_
 simp only [argsA, Nat.reduceAdd, hp_next]
 unfold s_l43Write at H
 refine AWP_sr tok [] [0, 1, 2] (fun a σ => a = [(0, .sl w0 0 p0.length), (1, .int .i64 p1), (2, .int .i64 p2)] ∧ σ = hp E0 [(w0, some ⟨131, 5, encL rInstr p0⟩)] (N0 + 1)) (fun K hK => ?_) ?_
 ·
  skip
  simp -dsimp -implicitDefEqProofs (maxDischargeDepth := 6)
  exact hK _ _ ⟨rfl, rfl⟩
 rintro a σ ⟨rfl, rfl⟩
 refine AWP_sq [0, 1, 2] fun K1 hK1 => ?_
 refine AWP_sr tok [] [0, 1, 2, 9] (fun a σ => a = [(0, .sl w0 0 p0.length), (1, .int .i64 p1), (2, .int .i64 p2), (9, .bool (ilt p1 p2))] ∧ σ = hp E0 [(w0, some ⟨131, 5, encL rInstr p0⟩)] (N0 + 4)) (fun K hK => ?_) ?_
 ·
  skip
  simp -dsimp -implicitDefEqProofs (maxDischargeDepth := 6)
  exact hK _ _ ⟨rfl, rfl⟩
 rintro a σ ⟨rfl, rfl⟩
 refine AWP_cond (ilt p1 p2) rfl (fun C1 => ?_) (fun C1 => ?_)
 ·
  replace H := ifT C1 H
  refine AWP_sr tok [] [6] (fun a σ => a = [(6, .sl w0 0 p0.length)] ∧ σ = hp E0 [(w0, some ⟨131, 5, encL rInstr p0⟩)] (N0 + 6)) (fun K hK => ?_) ?_
  ·
   skip
   simp -dsimp -implicitDefEqProofs (maxDischargeDepth := 6)
   exact hK _ _ ⟨rfl, rfl⟩
  rintro a σ ⟨rfl, rfl⟩
  replace H := Option.some.inj H; subst H
  refine AWP_kp [6] [(6, .sl w0 0 p0.length)] rfl ?_
  refine gFrz AWP_ref 4 [w0] [] [(6, .fsl (encL rInstr p0))] (by simp) (cutD (by simp)) ?_
  refine AWP_ret ?_
  refine ⟨[.fsl (encL rInstr p0)], by simp, N0 + 6, by omega, ?_, ?_⟩
  ·
   simp [encL_nil]
  ·
   symm; first | exact hp_tail (L := []) | (simp only [List.set_set]; exact hp_tail (L := []))
 ·
  replace H := ifF C1 H
  refine AWP_skip ?_
  show K1 _ _
  refine keepE (l := [0, 1, 2]) (x := [(0, .sl w0 0 p0.length), (1, .int .i64 p1), (2, .int .i64 p2)]) rfl fun a' ha => ?_
  refine hK1 _ _ ?_; rw [ha]
  refine Rc.mk ?_
  obtain ⟨l1, hl1, H⟩ := bindE H
  have q0 : ∀ σ i, buildSliceA T 100 true i 1 [(0, .agg [.int .i64 16, .int .i64 0, .int .i64 2, .int .i64 7, .int .i64 (imul .i64 4 (isub .i64 p1 p2))])] σ = some (.fsl (encL rInstr ([(⟨16, 0, 2, 7, imul .i64 4 (isub .i64 p1 p2)⟩ : gInstr)] : List gInstr)), σ) := fun _ _ => rfl
  refine AWP_sr tok [6] [6] (fun a σ => a = [(6, .sl (N0 + 11) 0 l1.length)] ∧ σ = hp E0 [(N0 + 11, some ⟨131, 5, encL rInstr l1⟩)] (N0 + 13)) (fun K hK => ?_) ?_
  ·
   skip
   have e0 := nq (a := w0) (b := N0 + 11) (by omega)
   simp -dsimp -implicitDefEqProofs (maxDischargeDepth := 6) [e0, q0, app100 hl1]
   exact hK _ _ ⟨rfl, rfl⟩
  rintro a σ ⟨rfl, rfl⟩
  refine gFrz AWP_ref 4 [N0 + 11] [] [(6, .fsl (encL rInstr l1))] (by simp) (cutD (by simp)) ?_
  replace H := Option.some.inj H; subst H
  refine AWP_kp [6] [(6, .fsl (encL rInstr l1))] rfl ?_
  refine AWP_ret ?_
  refine ⟨[.fsl (encL rInstr l1)], by simp, N0 + 13, by omega, ?_, ?_⟩
  ·
   simp [encL_nil]
  ·
   symm; first | exact hp_tail (L := []) | (simp only [List.set_set]; exact hp_tail (L := []))
theorem c103_o {p0 : Int} {p1 : Int} {r : (List gInstr)} (H : s_l43Const_o p0 p1 = some r) {σ : AHeap} : ACalls Try.prog G 103 [.int .i64 p0, .int .i64 p1] σ (fun v σ' => ∃ M n0 : Nat, σ.next ≤ M ∧ σ.next ≤ n0 ∧ n0 < M ∧ v = .sl n0 0 r.length ∧ σ' = hp σ.objs [(n0, some ⟨131, 5, encL rInstr r⟩)] M) := by
 refine ACalls_fr (L := []) (Q1 := fun v σ' => ∃ M n0 : Nat, σ.next ≤ M ∧ σ.next ≤ n0 ∧ n0 < M ∧ v = .sl n0 0 r.length ∧ σ' = hp E0 [(n0, some ⟨131, 5, encL rInstr r⟩)] M) (by simp []) (fun hlt => ?_) ?_ ⟨_, Try.func103, rfl, rfl⟩
 rotate_left
 ·
  rintro v σ1 ⟨M, n0, h0, h1, h2, rfl, rfl⟩
  exact ⟨_, M, rfl, by simp, by simp; try omega, M, n0, h0, h1, h2, rfl, rfl⟩
 generalize σ.next = N0 at hlt ⊢
 refine ACalls_fn tok Try.func103 (by kernel_rfl) rfl Try.ntmps103 Try.results103 rfl ?_
 simp only [argsA, Nat.reduceAdd, hp_next]
 unfold s_l43Const_o at H
 refine AWP_sr tok [] [0, 1] (fun a σ => a = [(0, .int .i64 p0), (1, .int .i64 p1)] ∧ σ = hp E0 [] (N0 + 1)) (fun K hK => ?_) ?_
 ·
  skip
  simp -dsimp -implicitDefEqProofs (maxDischargeDepth := 6)
  exact hK _ _ ⟨rfl, rfl⟩
 rintro a σ ⟨rfl, rfl⟩
 refine AWP_sq [0, 1] fun K1 hK1 => ?_
 obtain ⟨r1, hr1, H⟩ := bindE H
 refine AWP_sr tok [] [0, 1, 9] (fun a σ => a = [(0, .int .i64 p0), (1, .int .i64 p1), (9, .bool r1)] ∧ σ = hp E0 [] (N0 + 3)) (fun K hK => ?_) ?_
 ·
  skip
  simp -dsimp -implicitDefEqProofs (maxDischargeDepth := 6)
  refine (c83 hr1).app ?_; try simp -dsimp -implicitDefEqProofs (maxDischargeDepth := 6)
  exact hK _ _ ⟨rfl, rfl⟩
 rintro a σ ⟨rfl, rfl⟩
 refine AWP_cond r1 rfl (fun C1 => ?_) (fun C1 => ?_)
 ·
  replace H := ifT C1 H
  obtain ⟨l2, hl2, H⟩ := bindE H
  have q0 : ∀ σ i, buildSliceA T 100 false i 1 [(0, .agg [.int .i64 12, .int .i64 p0, .int .i64 0, .int .i64 0, .int .i64 p1])] σ = some (.sl i 0 (List.length l2), σ.put i ⟨131, 5, encL rInstr l2⟩) := by rw [← Option.some.inj hl2]; intro _ _; rfl
  refine AWP_sr tok [] [4] (fun a σ => a = [(4, .sl (N0 + 6) 0 l2.length)] ∧ σ = hp E0 [(N0 + 6, some ⟨131, 5, encL rInstr l2⟩)] (N0 + 8)) (fun K hK => ?_) ?_
  ·
   skip
   simp -dsimp -implicitDefEqProofs (maxDischargeDepth := 6) [q0]
   exact hK _ _ ⟨rfl, rfl⟩
  rintro a σ ⟨rfl, rfl⟩
  replace H := Option.some.inj H; subst H
  refine AWP_kp [4] [(4, .sl (N0 + 6) 0 l2.length)] rfl ?_
  refine AWP_ret ?_
  refine ⟨[.sl (N0 + 6) 0 l2.length], by simp, N0 + 8, N0 + 6, by omega, by omega, by omega, ?_, ?_⟩
  ·
   simp [encL_nil]
  ·
   first | rfl | simp [List.set_set]
 ·
  replace H := ifF C1 H
  refine AWP_skip ?_
  show K1 _ _
  refine keepE (l := [0, 1]) (x := [(0, .int .i64 p0), (1, .int .i64 p1)]) rfl fun a' ha => ?_
  refine hK1 _ _ ?_; rw [ha]
  refine Rc.mk ?_
  obtain ⟨r3, hr3, H⟩ := bindE H
  obtain ⟨r4, hr4, H⟩ := bindE H
  obtain ⟨r5, hr5, H⟩ := bindE H
  refine AWP_sr tok [] [0, 1, 5] (fun a σ => a = [(0, .int .i64 p0), (1, .int .i64 p1), (5, .int .i64 r5)] ∧ σ = hp E0 [] (N0 + 8)) (fun K hK => ?_) ?_
  ·
   skip
   simp -dsimp -implicitDefEqProofs (maxDischargeDepth := 6)
   refine (c117 hr3).app ?_; try simp -dsimp -implicitDefEqProofs (maxDischargeDepth := 6)
   refine (c116 hr4).app ?_; try simp -dsimp -implicitDefEqProofs (maxDischargeDepth := 6)
   refine (c115 hr5).app ?_; try simp -dsimp -implicitDefEqProofs (maxDischargeDepth := 6)
   exact hK _ _ ⟨rfl, rfl⟩
  rintro a σ ⟨rfl, rfl⟩
  obtain ⟨r6, hr6, H⟩ := bindE H
  obtain ⟨r7, hr7, H⟩ := bindE H
  obtain ⟨r8, hr8, H⟩ := bindE H
  refine AWP_sr tok [] [0, 5, 6] (fun a σ => a = [(0, .int .i64 p0), (5, .int .i64 r5), (6, .int .i64 r8)] ∧ σ = hp E0 [] (N0 + 15)) (fun K hK => ?_) ?_
  ·
   skip
   simp -dsimp -implicitDefEqProofs (maxDischargeDepth := 6)
   refine (c95 hr6).app ?_; try simp -dsimp -implicitDefEqProofs (maxDischargeDepth := 6)
   refine (c117 hr7).app ?_; try simp -dsimp -implicitDefEqProofs (maxDischargeDepth := 6)
   refine (c116 hr8).app ?_; try simp -dsimp -implicitDefEqProofs (maxDischargeDepth := 6)
   exact hK _ _ ⟨rfl, rfl⟩
  rintro a σ ⟨rfl, rfl⟩
  obtain ⟨l9, hl9, H⟩ := bindE H
  have q1 : ∀ σ i, buildSliceA T 100 false i 1 [(0, .agg [.int .i64 19, .int .i64 p0, .int .i64 0, .int .i64 0, .int .i64 r8])] σ = some (.sl i 0 (List.length l9), σ.put i ⟨131, 5, encL rInstr l9⟩) := by rw [← Option.some.inj hl9]; intro _ _; rfl
  refine AWP_sr tok [] [0, 5, 7] (fun a σ => a = [(0, .int .i64 p0), (5, .int .i64 r5), (7, .sl (N0 + 18) 0 l9.length)] ∧ σ = hp E0 [(N0 + 18, some ⟨131, 5, encL rInstr l9⟩)] (N0 + 20)) (fun K hK => ?_) ?_
  ·
   skip
   simp -dsimp -implicitDefEqProofs (maxDischargeDepth := 6) [q1]
   exact hK _ _ ⟨rfl, rfl⟩
  rintro a σ ⟨rfl, rfl⟩
  obtain ⟨l10, hl10, H⟩ := bindE H
  have q2 : ∀ σ i, buildSliceA T 100 true i 1 [(0, .agg [.int .i64 12, .int .i64 p0, .int .i64 p0, .int .i64 0, .int .i64 r5])] σ = some (.fsl (encL rInstr ([(⟨12, p0, p0, 0, r5⟩ : gInstr)] : List gInstr)), σ) := fun _ _ => rfl
  refine AWP_sr tok [5] [4] (fun a σ => a = [(4, .sl (N0 + 26) 0 l10.length)] ∧ σ = hp E0 [(N0 + 26, some ⟨131, 5, encL rInstr l10⟩)] (N0 + 28)) (fun K hK => ?_) ?_
  ·
   skip
   simp -dsimp -implicitDefEqProofs (maxDischargeDepth := 6) [q2, app100 hl10]
   exact hK _ _ ⟨rfl, rfl⟩
  rintro a σ ⟨rfl, rfl⟩
  replace H := Option.some.inj H; subst H
  refine AWP_kp [4] [(4, .sl (N0 + 26) 0 l10.length)] rfl ?_
  refine AWP_ret ?_
  refine ⟨[.sl (N0 + 26) 0 l10.length], by simp, N0 + 28, N0 + 26, by omega, by omega, by omega, ?_, ?_⟩
  ·
   simp [encL_nil]
  ·
   first | rfl | simp [List.set_set]
theorem c104 {p0 : Int} {p1 : Int} {p2 : Int} {r : (List gInstr)} (H : s_l43Read p0 p1 p2 = some r) : APure Try.prog G 104 [.int .i64 p0, .int .i64 p1, .int .i64 p2] (.fsl (encL rInstr r)) := by
 refine APure_fn (fun N0 => ?_) (by simp)
 refine ACalls_fn tok Try.func104 (by kernel_rfl) rfl Try.ntmps104 Try.results104 rfl ?_
 simp only [argsA, Nat.reduceAdd, hp_next]
 unfold s_l43Read at H
 refine AWP_sr tok [] [0, 1, 2] (fun a σ => a = [(0, .int .i64 p0), (1, .int .i64 p1), (2, .int .i64 p2)] ∧ σ = hp E0 [] (N0 + 1)) (fun K hK => ?_) ?_
 ·
  skip
  simp -dsimp -implicitDefEqProofs (maxDischargeDepth := 6)
  exact hK _ _ ⟨rfl, rfl⟩
 rintro a σ ⟨rfl, rfl⟩
 refine AWP_sq [0, 1, 2] fun K1 hK1 => ?_
 refine AWP_sr tok [] [0, 1, 2, 9] (fun a σ => a = [(0, .int .i64 p0), (1, .int .i64 p1), (2, .int .i64 p2), (9, .bool (ilt p0 p1))] ∧ σ = hp E0 [] (N0 + 4)) (fun K hK => ?_) ?_
 ·
  skip
  simp -dsimp -implicitDefEqProofs (maxDischargeDepth := 6)
  exact hK _ _ ⟨rfl, rfl⟩
 rintro a σ ⟨rfl, rfl⟩
 refine AWP_cond (ilt p0 p1) rfl (fun C1 => ?_) (fun C1 => ?_)
 ·
  replace H := ifT C1 H
  have q0 : ∀ σ i, buildSliceA T 100 true i 0 [] σ = some (.esl, σ) := fun _ _ => rfl
  refine AWP_sr tok [0] [6] (fun a σ => a = [(6, .esl)] ∧ σ = hp E0 [] (N0 + 6)) (fun K hK => ?_) ?_
  ·
   skip
   simp -dsimp -implicitDefEqProofs (maxDischargeDepth := 6) [q0]
   exact hK _ _ ⟨rfl, rfl⟩
  rintro a σ ⟨rfl, rfl⟩
  replace H := Option.some.inj H; subst H
  refine AWP_kp [6] [(6, .esl)] rfl ?_
  refine AWP_ret ?_
  exact ⟨[.esl], by simp, 4, by simp [encL_nil]⟩
 ·
  replace H := ifF C1 H
  refine AWP_skip ?_
  show K1 _ _
  refine keepE (l := [0, 1, 2]) (x := [(0, .int .i64 p0), (1, .int .i64 p1), (2, .int .i64 p2)]) rfl fun a' ha => ?_
  refine hK1 _ _ ?_; rw [ha]
  refine Rc.mk ?_
  have q1 : ∀ σ i, buildSliceA T 100 true i 1 [(0, .agg [.int .i64 14, .int .i64 p2, .int .i64 2, .int .i64 0, .int .i64 (imul .i64 4 (isub .i64 p0 p1))])] σ = some (.fsl (encL rInstr ([(⟨14, p2, 2, 0, imul .i64 4 (isub .i64 p0 p1)⟩ : gInstr)] : List gInstr)), σ) := fun _ _ => rfl
  refine AWP_sr tok [6] [6] (fun a σ => a = [(6, .fsl (encL rInstr ([(⟨14, p2, 2, 0, imul .i64 4 (isub .i64 p0 p1)⟩ : gInstr)] : List gInstr)))] ∧ σ = hp E0 [] (N0 + 12)) (fun K hK => ?_) ?_
  ·
   skip
   simp -dsimp -implicitDefEqProofs (maxDischargeDepth := 6) [q1]
   exact hK _ _ ⟨rfl, rfl⟩
  rintro a σ ⟨rfl, rfl⟩
  replace H := Option.some.inj H; subst H
  refine AWP_kp [6] [(6, .fsl (encL rInstr ([(⟨14, p2, 2, 0, imul .i64 4 (isub .i64 p0 p1)⟩ : gInstr)] : List gInstr)))] rfl ?_
  refine AWP_ret ?_
  exact ⟨[.fsl (encL rInstr ([(⟨14, p2, 2, 0, imul .i64 4 (isub .i64 p0 p1)⟩ : gInstr)] : List gInstr))], by simp, 4, by simp [encL_nil]⟩
end Go.Proofs.Ytoklfbdcghgmlaa
