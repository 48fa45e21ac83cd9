/- The contracts of functions of the program, part 2: each computes what its mirror computes. No conditions. -/
import Derived.Test.YtoklfbdcghgmlaaDoorNDT1
set_option linter.unusedSimpArgs false
set_option linter.unusedVariables false
set_option maxRecDepth 20000
set_option maxHeartbeats 4000000
namespace Go.Proofs.YtoklfbdcghgmlaaDoor
open Go Go.Abs Go.RowKit

theorem c134_o {p0 : (List Int)} {r : (List Int)} (H : slices_Clone_int_int_o p0 = some r) {σ : AHeap} : ACalls Tryd.prog G 134 [.fsl (encL rI p0)] σ (fun v σ' => ∃ M n0 : Nat, σ.next ≤ M ∧ σ.next ≤ n0 ∧ n0 < M ∧ v = .sl n0 0 r.length ∧ σ' = hp σ.objs [(n0, some ⟨3, 1, encL rI r⟩)] M) := by
 refine ACalls_fr (L := []) (Q1 := fun v σ' => ∃ M n0 : Nat, σ.next ≤ M ∧ σ.next ≤ n0 ∧ n0 < M ∧ v = .sl n0 0 r.length ∧ σ' = hp E0 [(n0, some ⟨3, 1, encL rI r⟩)] M) (by simp []) (fun hlt => ?_) ?_ ⟨_, Tryd.func134, rfl, rfl⟩
 rotate_left
 ·
  rintro v σ1 ⟨M, n0, h0, h1, h2, rfl, rfl⟩
  exact ⟨_, M, rfl, by simp, by simp; try omega, M, n0, h0, h1, h2, rfl, rfl⟩
 generalize σ.next = N0 at hlt ⊢
 refine ACalls_fn tok Tryd.func134 (by kernel_rfl) rfl Tryd.ntmps134 Tryd.results134 rfl ?_
 simp only [argsA, Nat.reduceAdd, hp_next]
 unfold slices_Clone_int_int_o at H
 refine AWP_sr tok [] [0] (fun a σ => a = [(0, .fsl (encL rI p0))] ∧ σ = hp E0 [] (N0 + 1)) (fun K hK => ?_) ?_
 ·
  skip
  simp -dsimp -implicitDefEqProofs (maxDischargeDepth := 6)
  exact hK _ _ ⟨rfl, rfl⟩
 rintro a σ ⟨rfl, rfl⟩
 refine AWP_sq [0] fun K1 hK1 => ?_
 refine AWP_isnil tok [4, 0] ([(0, .fsl (encL rI p0))]) rfl rfl (by decide) (by decide) (by decide) (fun _ => rfl) (fun n0 => ?_) ?_
 ·
  replace n0 : p0 = [] := encL_isnil n0
  replace H : (if true = true then   some ([] : List Int) else   (appx 8 ([] : List Int) p0).bind fun l2 =>   some l2 : Option ((List Int))) = some r := by simpa [n0, appx] using H
  refine AWP_cond true rfl (fun C2 => ?_) (fun C2 => ?_)
  ·
   replace H := ifT C2 H
   refine AWP_sr tok [] [2] (fun a σ => a = [(2, .nilsl)] ∧ σ = hp E0 [] (N0 + 2)) (fun K hK => ?_) ?_
   ·
    skip
    simp -dsimp -implicitDefEqProofs (maxDischargeDepth := 6)
    exact hK _ _ ⟨rfl, rfl⟩
   rintro a σ ⟨rfl, rfl⟩
   replace H := Option.some.inj H; subst H
   refine AWP_kp [2] [(2, .nilsl)] rfl ?_
   refine gNilS AWP_ref 2 3 1 [(N0 + 2, some ⟨3, 1, encL rI ([] : List Int)⟩)] [(2, .sl (N0 + 2) 0 ([] : List Int).length)] (by simp (disch := omega)) (by simp (disch := omega) [encL_nil]) [2] rfl ?_
   refine AWP_ret ?_
   refine ⟨[.sl (N0 + 2) 0 ([] : List Int).length], by simp, N0 + 3, N0 + 2, by omega, by omega, by omega, ?_, ?_⟩
   ·
    simp [encL_nil]
   ·
    first | rfl | simp [List.set_set]
  ·
   replace H := ifF C2 H
   refine AWP_skip ?_
   show K1 _ _
   refine keepE (l := [0]) (x := [(0, .fsl (encL rI p0))]) rfl fun a' ha => ?_
   refine hK1 _ _ ?_; rw [ha]
   refine Rc.mk ?_
   obtain ⟨l2, hl2, H⟩ := bindE H
   have q2 : ∀ σ i, buildSliceA T 24 true i 0 [] σ = some (.esl, σ) := fun _ _ => rfl
   refine AWP_sr tok [0] [2] (fun a σ => a = [(2, .sl (N0 + 3) 0 l2.length)] ∧ σ = hp E0 [(N0 + 3, some ⟨3, 1, encL rI l2⟩)] (N0 + 5)) (fun K hK => ?_) ?_
   ·
    skip
    simp -dsimp -implicitDefEqProofs (maxDischargeDepth := 6) [q2, appe24 hl2]
    exact hK _ _ ⟨rfl, rfl⟩
   rintro a σ ⟨rfl, rfl⟩
   replace H := Option.some.inj H; subst H
   refine AWP_kp [2] [(2, .sl (N0 + 3) 0 l2.length)] rfl ?_
   refine AWP_ret ?_
   refine ⟨[.sl (N0 + 3) 0 l2.length], by simp, N0 + 5, N0 + 3, by omega, by omega, by omega, ?_, ?_⟩
   ·
    simp [encL_nil]
   ·
    first | rfl | simp [List.set_set]
 ·
  refine AWP_cond false rfl (fun C1 => ?_) (fun C1 => ?_)
  ·
   replace H := ifT C1 H
   refine AWP_sr tok [] [2] (fun a σ => a = [(2, .nilsl)] ∧ σ = hp E0 [] (N0 + 2)) (fun K hK => ?_) ?_
   ·
    skip
    simp -dsimp -implicitDefEqProofs (maxDischargeDepth := 6)
    exact hK _ _ ⟨rfl, rfl⟩
   rintro a σ ⟨rfl, rfl⟩
   replace H := Option.some.inj H; subst H
   refine AWP_kp [2] [(2, .nilsl)] rfl ?_
   refine gNilS AWP_ref 2 3 1 [(N0 + 2, some ⟨3, 1, encL rI ([] : List Int)⟩)] [(2, .sl (N0 + 2) 0 ([] : List Int).length)] (by simp (disch := omega)) (by simp (disch := omega) [encL_nil]) [2] rfl ?_
   refine AWP_ret ?_
   refine ⟨[.sl (N0 + 2) 0 ([] : List Int).length], by simp, N0 + 3, N0 + 2, by omega, by omega, by omega, ?_, ?_⟩
   ·
    simp [encL_nil]
   ·
    first | rfl | simp [List.set_set]
  ·
   replace H := ifF C1 H
   refine AWP_skip ?_
   show K1 _ _
   refine keepE (l := [0]) (x := [(0, .fsl (encL rI p0))]) rfl fun a' ha => ?_
   refine hK1 _ _ ?_; rw [ha]
   refine Rc.mk ?_
   obtain ⟨l1, hl1, H⟩ := bindE H
   have q1 : ∀ σ i, buildSliceA T 24 true i 0 [] σ = some (.esl, σ) := fun _ _ => rfl
   refine AWP_sr tok [0] [2] (fun a σ => a = [(2, .sl (N0 + 3) 0 l1.length)] ∧ σ = hp E0 [(N0 + 3, some ⟨3, 1, encL rI l1⟩)] (N0 + 5)) (fun K hK => ?_) ?_
   ·
    skip
    simp -dsimp -implicitDefEqProofs (maxDischargeDepth := 6) [q1, appe24 hl1]
    exact hK _ _ ⟨rfl, rfl⟩
   rintro a σ ⟨rfl, rfl⟩
   replace H := Option.some.inj H; subst H
   refine AWP_kp [2] [(2, .sl (N0 + 3) 0 l1.length)] rfl ?_
   refine AWP_ret ?_
   refine ⟨[.sl (N0 + 3) 0 l1.length], by simp, N0 + 5, N0 + 3, by omega, by omega, by omega, ?_, ?_⟩
   ·
    simp [encL_nil]
   ·
    first | rfl | simp [List.set_set]
theorem c79_o2 {p0 : gMachine} {r : gMachine} (H : i_machineCopy_o2 p0 = some r) {σ : AHeap} : ACalls Tryd.prog G 79 [.agg [.fsl (encL rI p0.Regs), .int .i64 p0.Pc, .fsl (encL rI p0.Mem)]] σ (fun v σ' => ∃ M n0 n1 : Nat, σ.next ≤ M ∧ σ.next ≤ n0 ∧ n0 < M ∧ σ.next ≤ n1 ∧ n1 < M ∧ ¬ n0 = n1 ∧ v = .agg [.sl n0 0 r.Regs.length, .int .i64 r.Pc, .sl n1 0 r.Mem.length] ∧ σ' = hp σ.objs [(n0, some ⟨3, 1, encL rI r.Regs⟩), (n1, some ⟨3, 1, encL rI r.Mem⟩)] M) := by
 refine ACalls_fr (L := []) (Q1 := fun v σ' => ∃ M n0 n1 : Nat, σ.next ≤ M ∧ σ.next ≤ n0 ∧ n0 < M ∧ σ.next ≤ n1 ∧ n1 < M ∧ ¬ n0 = n1 ∧ v = .agg [.sl n0 0 r.Regs.length, .int .i64 r.Pc, .sl n1 0 r.Mem.length] ∧ σ' = hp E0 [(n0, some ⟨3, 1, encL rI r.Regs⟩), (n1, some ⟨3, 1, encL rI r.Mem⟩)] M) (by simp []) (fun hlt => ?_) ?_ ⟨_, Tryd.func79, rfl, rfl⟩
 rotate_left
 ·
  rintro v σ1 ⟨M, n0, n1, h0, h1, h2, h3, h4, h5, rfl, rfl⟩
  exact ⟨_, M, rfl, by simp, by simp; try omega, M, n0, n1, h0, h1, h2, h3, h4, h5, rfl, rfl⟩
 generalize σ.next = N0 at hlt ⊢
 refine ACalls_thaw 4 ?_
 refine ACalls_fn tok Tryd.func79 (by kernel_rfl) rfl Tryd.ntmps79 Tryd.results79 rfl ?_
 simp only [argsA, Nat.reduceAdd, hp_next]
 unfold i_machineCopy_o2 at H
 refine AWP_sr tok [0] [1, 2] (fun a σ => a = [(1, .fptr [.fsl (encL rI p0.Regs), .int .i64 p0.Pc, .fsl (encL rI p0.Mem)] 0), (2, .ptr (N0 + 1) 0 0)] ∧ σ = hp E0 [(N0 + 1, some ⟨26, 3, [[.nilsl, .int .i64 0, .nilsl]]⟩)] (N0 + 2)) (fun K hK => ?_) ?_
 ·
  skip
  simp -dsimp -implicitDefEqProofs (maxDischargeDepth := 6)
  exact hK _ _ ⟨rfl, rfl⟩
 rintro a σ ⟨rfl, rfl⟩
 refine gPk0 AWP_ref (o := (N0 + 1)) (ob := ⟨26, 3, [[.nilsl, .int .i64 0, .nilsl]]⟩) (row := [.nilsl, .int .i64 0, .nilsl]) (r := 0) (i := 0) 3 1 [(N0 + 1, some ⟨26, 3, [[.osl 3 1 (encL rI ([] : List Int)), .int .i64 0, .nilsl]]⟩)] (by simp (disch := omega)) rfl rfl (by simp (disch := omega)) (by simp (disch := omega) [encL_nil, List.set_set, app_set]) ?_
 refine gPk0 AWP_ref (o := (N0 + 1)) (ob := ⟨26, 3, [[.osl 3 1 (encL rI ([] : List Int)), .int .i64 0, .nilsl]]⟩) (row := [.osl 3 1 (encL rI ([] : List Int)), .int .i64 0, .nilsl]) (r := 0) (i := 2) 3 1 [(N0 + 1, some ⟨26, 3, [[.osl 3 1 (encL rI ([] : List Int)), .int .i64 0, .osl 3 1 (encL rI ([] : List Int))]]⟩)] (by simp (disch := omega)) rfl rfl (by simp (disch := omega)) (by simp (disch := omega) [encL_nil, List.set_set, app_set]) ?_
 obtain ⟨r1, hr1, H⟩ := bindE H
 obtain ⟨r2, hr2, H⟩ := bindE H
 refine AWP_sd tok tokM [] [2, 7, 9] [0, 1, 3, 4, 5, 6, 2, 7, 8, 9] [2] (fun a σ => ∃ M1 o1 : Nat, ∃ M2 o2 : Nat, N0 + 12 ≤ M1 ∧ N0 + 12 ≤ o1 ∧ o1 < M1 ∧ M1 ≤ M2 ∧ M1 ≤ o2 ∧ o2 < M2 ∧ a = [(2, .ptr (N0 + 1) 0 0)] ∧ σ = hp E0 [(N0 + 1, some ⟨26, 3, [[.sl o1 0 r1.length, .int .i64 p0.Pc, .sl o2 0 r2.length]]⟩), (o1, some ⟨3, 1, encL rI r1⟩), (o2, some ⟨3, 1, encL rI r2⟩)] M2) (by decide) (fun K hK => ?_) ?_
 ·
  simp only [pickL, nthO_succ, nthO_zero]
  simp -dsimp -implicitDefEqProofs (maxDischargeDepth := 6)
  refine (c134_o (H := hr1) ).mono ?_; rintro _ _ ⟨M1, o1, fM1_0, fM1_1, fM1_2, rfl, rfl⟩; simp only [hp_next] at fM1_0 fM1_1 fM1_2
  have eM1_0 := nq (a := o1) (b := N0 + 1) (by omega)
  try simp -dsimp -implicitDefEqProofs (maxDischargeDepth := 6) [eM1_0, hp_over_some, hp_over_none]
  refine (c134_o (H := hr2) ).mono ?_; rintro _ _ ⟨M2, o2, fM2_0, fM2_1, fM2_2, rfl, rfl⟩; simp only [hp_next] at fM2_0 fM2_1 fM2_2
  have eM2_0 := nq (a := o2) (b := N0 + 1) (by omega)
  have eM2_1 := nq (a := o2) (b := o1) (by omega)
  try simp -dsimp -implicitDefEqProofs (maxDischargeDepth := 6) [eM1_0, hp_over_some, hp_over_none, eM2_0, eM2_1, hp_over_some, hp_over_none]
  exact hK _ _ ⟨M1, o1, M2, o2, (by omega), (by omega), (by omega), (by omega), (by omega), (by omega), rfl, rfl⟩
 rintro a σ ⟨M1, o1, M2, o2, fM1_0, fM1_1, fM1_2, fM2_0, fM2_1, fM2_2, rfl, rfl⟩
 replace H := Option.some.inj H; subst H
 refine AWP_kp [2] [(2, .ptr (N0 + 1) 0 0)] rfl ?_
 refine gPk AWP_ref (k := r1.length) (o := (N0 + 1)) (ob := ⟨26, 3, [[.sl o1 0 r1.length, .int .i64 p0.Pc, .sl o2 0 r2.length]]⟩) (row := [.sl o1 0 r1.length, .int .i64 p0.Pc, .sl o2 0 r2.length]) (d := o1) (obd := ⟨3, 1, encL rI r1⟩) (r := 0) (i := 0) [(N0 + 1, some ⟨26, 3, [[.osl 3 1 (encL rI r1), .int .i64 p0.Pc, .sl o2 0 r2.length]]⟩), (o2, some ⟨3, 1, encL rI r2⟩)] (by simp (disch := omega)) rfl rfl (by simp (disch := omega)) (by simp (disch := omega)) (by first | omega | simp) (by simp (disch := omega) [List.set_set, app_set] <;> omega) (by simp (disch := omega) [List.set_set, app_set]) ?_
 refine gPk AWP_ref (k := r2.length) (o := (N0 + 1)) (ob := ⟨26, 3, [[.osl 3 1 (encL rI r1), .int .i64 p0.Pc, .sl o2 0 r2.length]]⟩) (row := [.osl 3 1 (encL rI r1), .int .i64 p0.Pc, .sl o2 0 r2.length]) (d := o2) (obd := ⟨3, 1, encL rI r2⟩) (r := 0) (i := 2) [(N0 + 1, some ⟨26, 3, [[.osl 3 1 (encL rI r1), .int .i64 p0.Pc, .osl 3 1 (encL rI r2)]]⟩)] (by simp (disch := omega)) rfl rfl (by simp (disch := omega)) (by simp (disch := omega)) (by first | omega | simp) (by simp (disch := omega) [List.set_set, app_set] <;> omega) (by simp (disch := omega) [List.set_set, app_set]) ?_
 refine gUnp AWP_ref (ty := 3) (sz := 1) (es := encL rI r1) (o := (N0 + 1)) (ob := ⟨26, 3, [[.osl 3 1 (encL rI r1), .int .i64 p0.Pc, .osl 3 1 (encL rI r2)]]⟩) (row := [.osl 3 1 (encL rI r1), .int .i64 p0.Pc, .osl 3 1 (encL rI r2)]) (r := 0) (i := 0) [(N0 + 1, some ⟨26, 3, [[.sl M2 0 r1.length, .int .i64 p0.Pc, .osl 3 1 (encL rI r2)]]⟩), (M2, some ⟨3, 1, encL rI r1⟩)] (by simp (disch := omega)) rfl rfl (by simp (disch := omega) [List.set_set]) ?_
 refine gUnp AWP_ref (ty := 3) (sz := 1) (es := encL rI r2) (o := (N0 + 1)) (ob := ⟨26, 3, [[.sl M2 0 r1.length, .int .i64 p0.Pc, .osl 3 1 (encL rI r2)]]⟩) (row := [.sl M2 0 r1.length, .int .i64 p0.Pc, .osl 3 1 (encL rI r2)]) (r := 0) (i := 2) [(N0 + 1, some ⟨26, 3, [[.sl M2 0 r1.length, .int .i64 p0.Pc, .sl (M2 + 1) 0 r2.length]]⟩), (M2, some ⟨3, 1, encL rI r1⟩), (M2 + 1, some ⟨3, 1, encL rI r2⟩)] (by simp (disch := omega)) rfl rfl (by simp (disch := omega) [List.set_set]) ?_
 have z0 := nq (a := N0 + 1) (b := M2) (by omega)
 have z1 := nq (a := N0 + 1) (b := M2 + 1) (by omega)
 have z2 := nq (a := N0) (b := M2) (by omega)
 refine AWP_ret ?_
 refine ⟨[.agg [.sl M2 0 r1.length, .int .i64 p0.Pc, .sl (M2 + 1) 0 r2.length]], by simp [z0, z1, z2], (fun o => [N0 + 1].contains o), M2 + 2, M2, M2 + 1, by omega, by omega, by omega, by omega, by omega, by omega, ?_, ?_⟩
 ·
  simp [encL_nil, z0, z1, z2]
 ·
  rw [cutD (L' := [(M2, some ⟨3, 1, encL rI r1⟩), (M2 + 1, some ⟨3, 1, encL rI r2⟩)]) (by simp [z0, z1, z2])]
  first | done | rfl | simp [List.set_set]
theorem c33_o2 {p0 : gMachine} {p1 : Int} {r : gMachine × Int × Int} (H : i_MachineRun_o2 p0 p1 = some r) {σ : AHeap} : ACalls Tryd.prog G 33 [.agg [.fsl (encL rI p0.Regs), .int .i64 p0.Pc, .fsl (encL rI p0.Mem)], .int .i64 p1] σ (fun v σ' => ∃ M n0 n1 : Nat, σ.next ≤ M ∧ σ.next ≤ n0 ∧ n0 < M ∧ σ.next ≤ n1 ∧ n1 < M ∧ ¬ n0 = n1 ∧ v = .tup [.agg [.sl n0 0 r.1.Regs.length, .int .i64 r.1.Pc, .sl n1 0 r.1.Mem.length], .int .i64 r.2.1, .int .i64 r.2.2] ∧ σ' = hp σ.objs [(n0, some ⟨3, 1, encL rI r.1.Regs⟩), (n1, some ⟨3, 1, encL rI r.1.Mem⟩)] M) := by
 refine ACalls_fr (L := []) (Q1 := fun v σ' => ∃ M n0 n1 : Nat, σ.next ≤ M ∧ σ.next ≤ n0 ∧ n0 < M ∧ σ.next ≤ n1 ∧ n1 < M ∧ ¬ n0 = n1 ∧ v = .tup [.agg [.sl n0 0 r.1.Regs.length, .int .i64 r.1.Pc, .sl n1 0 r.1.Mem.length], .int .i64 r.2.1, .int .i64 r.2.2] ∧ σ' = hp E0 [(n0, some ⟨3, 1, encL rI r.1.Regs⟩), (n1, some ⟨3, 1, encL rI r.1.Mem⟩)] M) (by simp []) (fun hlt => ?_) ?_ ⟨_, Tryd.func33, rfl, rfl⟩
 rotate_left
 ·
  rintro v σ1 ⟨M, n0, n1, h0, h1, h2, h3, h4, h5, rfl, rfl⟩
  exact ⟨_, M, rfl, by simp, by simp; try omega, M, n0, n1, h0, h1, h2, h3, h4, h5, rfl, rfl⟩
 generalize σ.next = N0 at hlt ⊢
 refine ACalls_thaw 4 ?_
 refine ACalls_fn tok Tryd.func33 (by kernel_rfl) rfl Tryd.ntmps33 Tryd.results33 rfl ?_
 simp only [argsA, Nat.reduceAdd, hp_next]
 unfold i_MachineRun_o2 at H
 refine AWP_sr tok [0] [1, 2, 4] (fun a σ => a = [(1, .int .i64 p1), (2, .fptr [.fsl (encL rI p0.Regs), .int .i64 p0.Pc, .fsl (encL rI p0.Mem)] 0), (4, .ptr (N0 + 1) 0 0)] ∧ σ = hp E0 [(N0 + 1, some ⟨26, 3, [[.nilsl, .int .i64 0, .nilsl]]⟩)] (N0 + 4)) (fun K hK => ?_) ?_
 ·
  skip
  simp -dsimp -implicitDefEqProofs (maxDischargeDepth := 6)
  exact hK _ _ ⟨rfl, rfl⟩
 rintro a σ ⟨rfl, rfl⟩
 refine AWP_sq [1, 2, 4] fun K1 hK1 => ?_
 refine gPk0 AWP_ref (o := (N0 + 1)) (ob := ⟨26, 3, [[.nilsl, .int .i64 0, .nilsl]]⟩) (row := [.nilsl, .int .i64 0, .nilsl]) (r := 0) (i := 0) 3 1 [(N0 + 1, some ⟨26, 3, [[.osl 3 1 (encL rI ([] : List Int)), .int .i64 0, .nilsl]]⟩)] (by simp (disch := omega)) rfl rfl (by simp (disch := omega)) (by simp (disch := omega) [encL_nil, List.set_set, app_set]) ?_
 refine gPk0 AWP_ref (o := (N0 + 1)) (ob := ⟨26, 3, [[.osl 3 1 (encL rI ([] : List Int)), .int .i64 0, .nilsl]]⟩) (row := [.osl 3 1 (encL rI ([] : List Int)), .int .i64 0, .nilsl]) (r := 0) (i := 2) 3 1 [(N0 + 1, some ⟨26, 3, [[.osl 3 1 (encL rI ([] : List Int)), .int .i64 0, .osl 3 1 (encL rI ([] : List Int))]]⟩)] (by simp (disch := omega)) rfl rfl (by simp (disch := omega)) (by simp (disch := omega) [encL_nil, List.set_set, app_set]) ?_
 obtain ⟨r1, hr1, H⟩ := bindE H
 obtain ⟨g2, hg2, H⟩ := bindE H
 obtain ⟨g3, hg3, H⟩ := bindE H
 refine AWP_sr tok [] [1, 2, 4, 20] (fun a σ => a = [(1, .int .i64 p1), (2, .fptr [.fsl (encL rI p0.Regs), .int .i64 p0.Pc, .fsl (encL rI p0.Mem)] 0), (4, .ptr (N0 + 1) 0 0), (20, .bool g3)] ∧ σ = hp E0 [(N0 + 1, some ⟨26, 3, [[.osl 3 1 (encL rI ([] : List Int)), .int .i64 0, .osl 3 1 (encL rI ([] : List Int))]]⟩)] (N0 + 15)) (fun K hK => ?_) ?_
 ·
  skip
  simp -dsimp -implicitDefEqProofs (maxDischargeDepth := 6)
  refine (c78 hr1).app ?_; try simp -dsimp -implicitDefEqProofs (maxDischargeDepth := 6)
  cases hbg2 : bnot r1
  ·
   replace hg2 := ifF hbg2 hg2
   replace hg2 := Option.some.inj hg2; subst hg2
   try simp -dsimp -implicitDefEqProofs (maxDischargeDepth := 6) [hbg2]
   cases hbg3 : (ilt p1 0)
   ·
    replace hg3 := ifF hbg3 hg3
    replace hg3 := Option.some.inj hg3; subst hg3
    try simp -dsimp -implicitDefEqProofs (maxDischargeDepth := 6) [hbg2, hbg3]
    exact hK _ _ ⟨rfl, rfl⟩
   ·
    replace hg3 := ifT hbg3 hg3
    replace hg3 := Option.some.inj hg3; subst hg3
    try simp -dsimp -implicitDefEqProofs (maxDischargeDepth := 6) [hbg2, hbg3]
    exact hK _ _ ⟨rfl, rfl⟩
  ·
   replace hg2 := ifT hbg2 hg2
   replace hg2 := Option.some.inj hg2; subst hg2
   try simp -dsimp -implicitDefEqProofs (maxDischargeDepth := 6) [hbg2]
   replace hg3 := ifT rfl hg3
   replace hg3 := Option.some.inj hg3; subst hg3
   try simp -dsimp -implicitDefEqProofs (maxDischargeDepth := 6) [hbg2]
   exact hK _ _ ⟨rfl, rfl⟩
 rintro a σ ⟨rfl, rfl⟩
 refine AWP_cond g3 rfl (fun C1 => ?_) (fun C1 => ?_)
 ·
  replace H := ifT C1 H
  refine AWP_sr tok [0] [4, 5, 6] (fun a σ => a = [(4, .ptr (N0 + 1) 0 0), (5, .int .i64 0), (6, .int .i64 0)] ∧ σ = hp E0 [(N0 + 1, some ⟨26, 3, [[.nilsl, .int .i64 0, .nilsl]]⟩)] (N0 + 19)) (fun K hK => ?_) ?_
  ·
   skip
   simp -dsimp -implicitDefEqProofs (maxDischargeDepth := 6)
   exact hK _ _ ⟨rfl, rfl⟩
  rintro a σ ⟨rfl, rfl⟩
  replace H := Option.some.inj H; subst H
  refine AWP_kp [4, 5, 6] [(4, .ptr (N0 + 1) 0 0), (5, .int .i64 0), (6, .int .i64 0)] rfl ?_
  refine gPk0 AWP_ref (o := (N0 + 1)) (ob := ⟨26, 3, [[.nilsl, .int .i64 0, .nilsl]]⟩) (row := [.nilsl, .int .i64 0, .nilsl]) (r := 0) (i := 0) 3 1 [(N0 + 1, some ⟨26, 3, [[.osl 3 1 (encL rI ([] : List Int)), .int .i64 0, .nilsl]]⟩)] (by simp (disch := omega)) rfl rfl (by simp (disch := omega)) (by simp (disch := omega) [encL_nil, List.set_set, app_set]) ?_
  refine gPk0 AWP_ref (o := (N0 + 1)) (ob := ⟨26, 3, [[.osl 3 1 (encL rI ([] : List Int)), .int .i64 0, .nilsl]]⟩) (row := [.osl 3 1 (encL rI ([] : List Int)), .int .i64 0, .nilsl]) (r := 0) (i := 2) 3 1 [(N0 + 1, some ⟨26, 3, [[.osl 3 1 (encL rI ([] : List Int)), .int .i64 0, .osl 3 1 (encL rI ([] : List Int))]]⟩)] (by simp (disch := omega)) rfl rfl (by simp (disch := omega)) (by simp (disch := omega) [encL_nil, List.set_set, app_set]) ?_
  refine gUnp AWP_ref (ty := 3) (sz := 1) (es := encL rI ([] : List Int)) (o := (N0 + 1)) (ob := ⟨26, 3, [[.osl 3 1 (encL rI ([] : List Int)), .int .i64 0, .osl 3 1 (encL rI ([] : List Int))]]⟩) (row := [.osl 3 1 (encL rI ([] : List Int)), .int .i64 0, .osl 3 1 (encL rI ([] : List Int))]) (r := 0) (i := 0) [(N0 + 1, some ⟨26, 3, [[.sl (N0 + 19) 0 ([] : List Int).length, .int .i64 0, .osl 3 1 (encL rI ([] : List Int))]]⟩), (N0 + 19, some ⟨3, 1, encL rI ([] : List Int)⟩)] (by simp (disch := omega)) rfl rfl (by simp (disch := omega) [List.set_set]) ?_
  refine gUnp AWP_ref (ty := 3) (sz := 1) (es := encL rI ([] : List Int)) (o := (N0 + 1)) (ob := ⟨26, 3, [[.sl (N0 + 19) 0 ([] : List Int).length, .int .i64 0, .osl 3 1 (encL rI ([] : List Int))]]⟩) (row := [.sl (N0 + 19) 0 ([] : List Int).length, .int .i64 0, .osl 3 1 (encL rI ([] : List Int))]) (r := 0) (i := 2) [(N0 + 1, some ⟨26, 3, [[.sl (N0 + 19) 0 ([] : List Int).length, .int .i64 0, .sl (N0 + 20) 0 ([] : List Int).length]]⟩), (N0 + 19, some ⟨3, 1, encL rI ([] : List Int)⟩), (N0 + 20, some ⟨3, 1, encL rI ([] : List Int)⟩)] (by simp (disch := omega)) rfl rfl (by simp (disch := omega) [List.set_set]) ?_
  refine AWP_ret ?_
  refine ⟨[.agg [.sl (N0 + 19) 0 ([] : List Int).length, .int .i64 0, .sl (N0 + 20) 0 ([] : List Int).length], .int .i64 0, .int .i64 0], by simp, (fun o => [N0 + 1].contains o), N0 + 21, N0 + 19, N0 + 20, by omega, by omega, by omega, by omega, by omega, by omega, ?_, ?_⟩
  ·
   simp [encL_nil]
  ·
   rw [cutD (L' := [(N0 + 19, some ⟨3, 1, encL rI ([] : List Int)⟩), (N0 + 20, some ⟨3, 1, encL rI ([] : List Int)⟩)]) (by simp)]
   first | done | rfl | simp [List.set_set]
 ·
  replace H := ifF C1 H
  refine AWP_skip ?_
  show K1 _ _
  refine keepE (l := [1, 2, 4]) (x := [(1, .int .i64 p1), (2, .fptr [.fsl (encL rI p0.Regs), .int .i64 p0.Pc, .fsl (encL rI p0.Mem)] 0), (4, .ptr (N0 + 1) 0 0)]) rfl fun a' ha => ?_
  refine hK1 _ _ ?_; rw [ha]
  refine Rc.mk ?_
  obtain ⟨r4, hr4, H⟩ := bindE H
  refine AWP_sr tok [] [1, 4, 7] (fun a σ => ∃ M1 o1 o2 : Nat, N0 + 19 ≤ M1 ∧ N0 + 19 ≤ o1 ∧ o1 < M1 ∧ N0 + 19 ≤ o2 ∧ o2 < M1 ∧ ¬ o1 = o2 ∧ a = [(1, .int .i64 p1), (4, .ptr (N0 + 1) 0 0), (7, .ptr (N0 + 17) 0 0)] ∧ σ = hp E0 [(N0 + 1, some ⟨26, 3, [[.osl 3 1 (encL rI ([] : List Int)), .int .i64 0, .osl 3 1 (encL rI ([] : List Int))]]⟩), (o1, some ⟨3, 1, encL rI r4.Regs⟩), (o2, some ⟨3, 1, encL rI r4.Mem⟩), (N0 + 17, some ⟨26, 3, [[.sl o1 0 r4.Regs.length, .int .i64 r4.Pc, .sl o2 0 r4.Mem.length]]⟩)] M1) (fun K hK => ?_) ?_
  ·
   skip
   simp -dsimp -implicitDefEqProofs (maxDischargeDepth := 6)
   refine (c79_o2 (H := hr4) ).mono ?_; rintro _ _ ⟨M1, o1, o2, fM1_0, fM1_1, fM1_2, fM1_3, fM1_4, fM1_5, rfl, rfl⟩; simp only [hp_next] at fM1_0 fM1_1 fM1_2 fM1_3 fM1_4 fM1_5
   have eM1_0 := nq (a := o1) (b := N0 + 1) (by omega)
   have eM1_1 := nq (a := o1) (b := N0 + 17) (by omega)
   have eM1_2 := nq (a := o1) (b := o2) (by omega)
   have eM1_3 := nq (a := o2) (b := N0 + 1) (by omega)
   have eM1_4 := nq (a := o2) (b := N0 + 17) (by omega)
   try simp -dsimp -implicitDefEqProofs (maxDischargeDepth := 6) [eM1_0, eM1_1, eM1_2, eM1_3, eM1_4, hp_over_some, hp_over_none]
   exact hK _ _ ⟨M1, o1, o2, (by omega), (by omega), (by omega), (by omega), (by omega), (by omega), rfl, rfl⟩
  rintro a σ ⟨M1, o1, o2, fM1_0, fM1_1, fM1_2, fM1_3, fM1_4, fM1_5, rfl, rfl⟩
  refine AWP_sq [1, 4, 7] fun K2 hK2 => ?_
  refine AWP_sr tok [] [1, 4, 7, 24, 25] (fun a σ => a = [(1, .int .i64 p1), (4, .ptr (N0 + 1) 0 0), (7, .ptr (N0 + 17) 0 0), (24, .int .i64 p1), (25, .int .i64 0)] ∧ σ = hp E0 [(N0 + 1, some ⟨26, 3, [[.osl 3 1 (encL rI ([] : List Int)), .int .i64 0, .osl 3 1 (encL rI ([] : List Int))]]⟩), (o1, some ⟨3, 1, encL rI r4.Regs⟩), (o2, some ⟨3, 1, encL rI r4.Mem⟩), (N0 + 17, some ⟨26, 3, [[.sl o1 0 r4.Regs.length, .int .i64 r4.Pc, .sl o2 0 r4.Mem.length]]⟩)] (M1 + 2)) (fun K hK => ?_) ?_
  ·
   skip
   have e0 := nq (a := N0 + 1) (b := o1) (by omega)
   have e1 := nq (a := N0 + 1) (b := o2) (by omega)
   have e2 := nq (a := o1) (b := o2) (by omega)
   have e3 := nq (a := o1) (b := N0 + 17) (by omega)
   have e4 := nq (a := o2) (b := N0 + 17) (by omega)
   simp -dsimp -implicitDefEqProofs (maxDischargeDepth := 6) [e0, e1, e2, e3, e4]
   exact hK _ _ ⟨rfl, rfl⟩
  rintro a σ ⟨rfl, rfl⟩
  refine AWP_block (AWP_thenB ?_)
  obtain ⟨e1, hse1, H⟩ := bindE H
  refine AWP_lp [1, 4, 7, 24, 25] (fun s a σ => ∃ M2 o3 o4 : Nat, N0 ≤ M2 ∧ N0 ≤ o3 ∧ o3 < M2 ∧ N0 ≤ o4 ∧ o4 < M2 ∧ ¬ o3 = o4 ∧ a = [(1, .int .i64 p1), (4, .ptr o3 0 0), (7, .ptr o4 0 0), (24, .int .i64 p1), (25, .int .i64 s.1)] ∧ σ = hp E0 [(o3, some ⟨26, 3, [[.osl 3 1 (encL rI s.2.1.Regs), .int .i64 s.2.1.Pc, .osl 3 1 (encL rI s.2.1.Mem)]]⟩), (o4, some ⟨26, 3, [[.osl 3 1 (encL rI s.2.2.Regs), .int .i64 s.2.2.Pc, .osl 3 1 (encL rI s.2.2.Mem)]]⟩)] M2) (fun e x a σ => match e with | .inl s => x = .exit 0 ∧ Rc G 37 N0 (fun a σ => ∃ M3 o5 o6 : Nat, N0 ≤ M3 ∧ N0 ≤ o5 ∧ o5 < M3 ∧ N0 ≤ o6 ∧ o6 < M3 ∧ ¬ o5 = o6 ∧ a = [(1, .int .i64 p1), (4, .ptr o5 0 0), (7, .ptr o6 0 0)] ∧ σ = hp E0 [(o5, some ⟨26, 3, [[.osl 3 1 (encL rI s.1.Regs), .int .i64 s.1.Pc, .osl 3 1 (encL rI s.1.Mem)]]⟩), (o6, some ⟨26, 3, [[.osl 3 1 (encL rI s.2.Regs), .int .i64 s.2.Pc, .osl 3 1 (encL rI s.2.Mem)]]⟩)] M3) (AAct.keep a [1, 4, 7]) σ | .inr s => x = .ret ∧ ∃ vs, resA T σ a [.cell 4 26, .tmp 5, .tmp 6] = some vs ∧ ∃ D : Nat → Bool, ∃ M n0 n1 : Nat, N0 ≤ M ∧ N0 ≤ n0 ∧ n0 < M ∧ N0 ≤ n1 ∧ n1 < M ∧ ¬ n0 = n1 ∧ (thawA D σ 4 (tupA vs)) = .tup [.agg [.sl n0 0 s.1.Regs.length, .int .i64 s.1.Pc, .sl n1 0 s.1.Mem.length], .int .i64 s.2.1, .int .i64 s.2.2] ∧ (σ.cut D) = hp E0 [(n0, some ⟨3, 1, encL rI s.1.Regs⟩), (n1, some ⟨3, 1, encL rI s.1.Mem⟩)] M) hse1 ?_ ?_ ?_
  ·
   refine Rc.kp [1, 4, 7, 24, 25] [(1, .int .i64 p1), (4, .ptr (N0 + 1) 0 0), (7, .ptr (N0 + 17) 0 0), (24, .int .i64 p1), (25, .int .i64 0)] rfl ?_
   refine gPk Rc_ref (k := r4.Regs.length) (o := (N0 + 17)) (ob := ⟨26, 3, [[.sl o1 0 r4.Regs.length, .int .i64 r4.Pc, .sl o2 0 r4.Mem.length]]⟩) (row := [.sl o1 0 r4.Regs.length, .int .i64 r4.Pc, .sl o2 0 r4.Mem.length]) (d := o1) (obd := ⟨3, 1, encL rI r4.Regs⟩) (r := 0) (i := 0) [(N0 + 1, some ⟨26, 3, [[.osl 3 1 (encL rI ([] : List Int)), .int .i64 0, .osl 3 1 (encL rI ([] : List Int))]]⟩), (o2, some ⟨3, 1, encL rI r4.Mem⟩), (N0 + 17, some ⟨26, 3, [[.osl 3 1 (encL rI r4.Regs), .int .i64 r4.Pc, .sl o2 0 r4.Mem.length]]⟩)] (by simp (disch := omega)) rfl rfl (by simp (disch := omega)) (by simp (disch := omega)) (by first | omega | simp) (by simp (disch := omega) [List.set_set, app_set] <;> omega) (by simp (disch := omega) [List.set_set, app_set]) ?_
   refine gPk Rc_ref (k := r4.Mem.length) (o := (N0 + 17)) (ob := ⟨26, 3, [[.osl 3 1 (encL rI r4.Regs), .int .i64 r4.Pc, .sl o2 0 r4.Mem.length]]⟩) (row := [.osl 3 1 (encL rI r4.Regs), .int .i64 r4.Pc, .sl o2 0 r4.Mem.length]) (d := o2) (obd := ⟨3, 1, encL rI r4.Mem⟩) (r := 0) (i := 2) [(N0 + 1, some ⟨26, 3, [[.osl 3 1 (encL rI ([] : List Int)), .int .i64 0, .osl 3 1 (encL rI ([] : List Int))]]⟩), (N0 + 17, some ⟨26, 3, [[.osl 3 1 (encL rI r4.Regs), .int .i64 r4.Pc, .osl 3 1 (encL rI r4.Mem)]]⟩)] (by simp (disch := omega)) rfl rfl (by simp (disch := omega)) (by simp (disch := omega)) (by first | omega | simp) (by simp (disch := omega) [List.set_set, app_set] <;> omega) (by simp (disch := omega) [List.set_set, app_set]) ?_
   exact Rc.fin (AHeap.Sub.refl _) ⟨M1 + 2, (N0 + 1), (N0 + 17), (by omega), (by omega), (by omega), (by omega), (by omega), (by omega), rfl, rfl⟩
  ·
   clear H hse1
   rintro ⟨s5, s6, s7⟩ fl a σ H ⟨M2, o3, o4, fM2_0, fM2_1, fM2_2, fM2_3, fM2_4, fM2_5, rfl, rfl⟩ K3 O3 hK3 hO3
   unfold i_MachineRun_o2_L1 at H; dsimp only at H
   refine AWP_sr tok [] [1, 4, 7, 24, 25, 26] (fun a σ => a = [(1, .int .i64 p1), (4, .ptr o3 0 0), (7, .ptr o4 0 0), (24, .int .i64 p1), (25, .int .i64 s5), (26, .bool (ilt s5 p1))] ∧ σ = hp E0 [(o3, some ⟨26, 3, [[.osl 3 1 (encL rI s6.Regs), .int .i64 s6.Pc, .osl 3 1 (encL rI s6.Mem)]]⟩), (o4, some ⟨26, 3, [[.osl 3 1 (encL rI s7.Regs), .int .i64 s7.Pc, .osl 3 1 (encL rI s7.Mem)]]⟩)] (M2 + 1)) (fun K hK => ?_) ?_
   ·
    skip
    have e0 := nq (a := o3) (b := o4) (by omega)
    simp -dsimp -implicitDefEqProofs (maxDischargeDepth := 6) [e0]
    exact hK _ _ ⟨rfl, rfl⟩
   rintro a σ ⟨rfl, rfl⟩
   refine AWP_sq [1, 4, 7, 24, 25] fun K4 hK4 => ?_
   refine AWP_cond (ilt s5 p1) rfl (fun C2 => ?_) (fun C2 => ?_)
   ·
    replace H := ifT C2 H
    refine AWP_skip ?_
    show K4 _ _
    refine keepE (l := [1, 4, 7, 24, 25]) (x := [(1, .int .i64 p1), (4, .ptr o3 0 0), (7, .ptr o4 0 0), (24, .int .i64 p1), (25, .int .i64 s5)]) rfl fun a' ha => ?_
    refine hK4 _ _ ?_; rw [ha]
    refine Rc.mk ?_
    refine AWP_sq [1, 4, 7, 24, 25] fun K5 hK5 => ?_
    refine AWP_block (AWP_thenB ?_)
    refine AWP_sr tok [] [1, 4, 7, 8, 24, 25] (fun a σ => a = [(1, .int .i64 p1), (4, .ptr o3 0 0), (7, .ptr o4 0 0), (8, .int .i64 s5), (24, .int .i64 p1), (25, .int .i64 s5)] ∧ σ = hp E0 [(o3, some ⟨26, 3, [[.osl 3 1 (encL rI s6.Regs), .int .i64 s6.Pc, .osl 3 1 (encL rI s6.Mem)]]⟩), (o4, some ⟨26, 3, [[.osl 3 1 (encL rI s7.Regs), .int .i64 s7.Pc, .osl 3 1 (encL rI s7.Mem)]]⟩)] (M2 + 3)) (fun K hK => ?_) ?_
    ·
     skip
     have e0 := nq (a := o3) (b := o4) (by omega)
     simp -dsimp -implicitDefEqProofs (maxDischargeDepth := 6) [e0]
     exact hK _ _ ⟨rfl, rfl⟩
    rintro a σ ⟨rfl, rfl⟩
    obtain ⟨r10, hr10, H⟩ := bindE H
    refine AWP_sr tok [] [1, 4, 7, 8, 9, 24, 25] (fun a σ => ∃ M4 : Nat, M2 + 5 ≤ M4 ∧ a = [(1, .int .i64 p1), (4, .ptr o3 0 0), (7, .ptr o4 0 0), (8, .int .i64 s5), (9, .int .i64 r10.1), (24, .int .i64 p1), (25, .int .i64 s5)] ∧ σ = hp E0 [(o3, some ⟨26, 3, [[.osl 3 1 (encL rI s6.Regs), .int .i64 s6.Pc, .osl 3 1 (encL rI s6.Mem)]]⟩), (o4, some ⟨26, 3, [[.osl 3 1 (encL rI r10.2.Regs), .int .i64 r10.2.Pc, .osl 3 1 (encL rI r10.2.Mem)]]⟩)] M4) (fun K hK => ?_) ?_
    ·
     skip
     have e0 := nq (a := o3) (b := o4) (by omega)
     simp -dsimp -implicitDefEqProofs (maxDischargeDepth := 6) [e0]
     refine (c80 (W0 := [[.osl 3 1 (encL rI s7.Regs), .int .i64 s7.Pc, .osl 3 1 (encL rI s7.Mem)]]) (r0_ := 0) (H := hr10) (by simp [e0]) (by simp [e0])).mono ?_; rintro _ _ ⟨M4, fM4_0, rfl, rfl⟩; simp only [hp_next] at fM4_0
     try simp -dsimp -implicitDefEqProofs (maxDischargeDepth := 6) [e0, hp_over_some, hp_over_none]
     exact hK _ _ ⟨M4, (by omega), rfl, rfl⟩
    rintro a σ ⟨M4, fM4_0, rfl, rfl⟩
    refine AWP_sr tok [] [1, 4, 7, 8, 9, 24, 25, 30] (fun a σ => a = [(1, .int .i64 p1), (4, .ptr o3 0 0), (7, .ptr o4 0 0), (8, .int .i64 s5), (9, .int .i64 r10.1), (24, .int .i64 p1), (25, .int .i64 s5), (30, .bool (ine r10.1 1))] ∧ σ = hp E0 [(o3, some ⟨26, 3, [[.osl 3 1 (encL rI s6.Regs), .int .i64 s6.Pc, .osl 3 1 (encL rI s6.Mem)]]⟩), (o4, some ⟨26, 3, [[.osl 3 1 (encL rI r10.2.Regs), .int .i64 r10.2.Pc, .osl 3 1 (encL rI r10.2.Mem)]]⟩)] (M4 + 2)) (fun K hK => ?_) ?_
    ·
     skip
     have e0 := nq (a := o3) (b := o4) (by omega)
     simp -dsimp -implicitDefEqProofs (maxDischargeDepth := 6) [e0]
     exact hK _ _ ⟨rfl, rfl⟩
    rintro a σ ⟨rfl, rfl⟩
    refine AWP_cond (ine r10.1 1) rfl (fun C3 => ?_) (fun C3 => ?_)
    ·
     replace H := ifT C3 H
     refine gUnp AWP_ref (ty := 3) (sz := 1) (es := encL rI r10.2.Regs) (o := o4) (ob := ⟨26, 3, [[.osl 3 1 (encL rI r10.2.Regs), .int .i64 r10.2.Pc, .osl 3 1 (encL rI r10.2.Mem)]]⟩) (row := [.osl 3 1 (encL rI r10.2.Regs), .int .i64 r10.2.Pc, .osl 3 1 (encL rI r10.2.Mem)]) (r := 0) (i := 0) [(o3, some ⟨26, 3, [[.osl 3 1 (encL rI s6.Regs), .int .i64 s6.Pc, .osl 3 1 (encL rI s6.Mem)]]⟩), (o4, some ⟨26, 3, [[.sl (M4 + 2) 0 r10.2.Regs.length, .int .i64 r10.2.Pc, .osl 3 1 (encL rI r10.2.Mem)]]⟩), (M4 + 2, some ⟨3, 1, encL rI r10.2.Regs⟩)] (by simp (disch := omega)) rfl rfl (by simp (disch := omega) [List.set_set]) ?_
     refine gUnp AWP_ref (ty := 3) (sz := 1) (es := encL rI r10.2.Mem) (o := o4) (ob := ⟨26, 3, [[.sl (M4 + 2) 0 r10.2.Regs.length, .int .i64 r10.2.Pc, .osl 3 1 (encL rI r10.2.Mem)]]⟩) (row := [.sl (M4 + 2) 0 r10.2.Regs.length, .int .i64 r10.2.Pc, .osl 3 1 (encL rI r10.2.Mem)]) (r := 0) (i := 2) [(o3, some ⟨26, 3, [[.osl 3 1 (encL rI s6.Regs), .int .i64 s6.Pc, .osl 3 1 (encL rI s6.Mem)]]⟩), (o4, some ⟨26, 3, [[.sl (M4 + 2) 0 r10.2.Regs.length, .int .i64 r10.2.Pc, .sl (M4 + 3) 0 r10.2.Mem.length]]⟩), (M4 + 2, some ⟨3, 1, encL rI r10.2.Regs⟩), (M4 + 3, some ⟨3, 1, encL rI r10.2.Mem⟩)] (by simp (disch := omega)) rfl rfl (by simp (disch := omega) [List.set_set]) ?_
     refine AWP_sr tok [] [4, 5, 6] (fun a σ => a = [(4, .ptr o3 0 0), (5, .int .i64 s5), (6, .int .i64 r10.1)] ∧ σ = hp E0 [(o3, some ⟨26, 3, [[.sl (M4 + 2) 0 r10.2.Regs.length, .int .i64 r10.2.Pc, .sl (M4 + 3) 0 r10.2.Mem.length]]⟩), (o4, some ⟨26, 3, [[.sl (M4 + 2) 0 r10.2.Regs.length, .int .i64 r10.2.Pc, .sl (M4 + 3) 0 r10.2.Mem.length]]⟩), (M4 + 2, some ⟨3, 1, encL rI r10.2.Regs⟩), (M4 + 3, some ⟨3, 1, encL rI r10.2.Mem⟩)] (M4 + 10)) (fun K hK => ?_) ?_
     ·
      skip
      have e0 := nq (a := o3) (b := o4) (by omega)
      have e1 := nq (a := o3) (b := M4 + 2) (by omega)
      have e2 := nq (a := o3) (b := M4 + 3) (by omega)
      have e3 := nq (a := o4) (b := M4 + 2) (by omega)
      have e4 := nq (a := o4) (b := M4 + 3) (by omega)
      simp -dsimp -implicitDefEqProofs (maxDischargeDepth := 6) [e0, e1, e2, e3, e4]
      exact hK _ _ ⟨rfl, rfl⟩
     rintro a σ ⟨rfl, rfl⟩
     replace H := Option.some.inj H; subst H
     refine AWP_kp [4, 5, 6] [(4, .ptr o3 0 0), (5, .int .i64 s5), (6, .int .i64 r10.1)] rfl ?_
     refine gDrop AWP_ref [(o3, some ⟨26, 3, [[.sl (M4 + 2) 0 r10.2.Regs.length, .int .i64 r10.2.Pc, .sl (M4 + 3) 0 r10.2.Mem.length]]⟩), (M4 + 2, some ⟨3, 1, encL rI r10.2.Regs⟩), (M4 + 3, some ⟨3, 1, encL rI r10.2.Mem⟩)] (hp_skip (AHeap.Sub.trans (hp_skip (hp_skip (AHeap.Sub.refl _))) (hp_drop rfl (by simp; try omega)))) ?_
     refine gPk AWP_ref (k := r10.2.Regs.length) (o := o3) (ob := ⟨26, 3, [[.sl (M4 + 2) 0 r10.2.Regs.length, .int .i64 r10.2.Pc, .sl (M4 + 3) 0 r10.2.Mem.length]]⟩) (row := [.sl (M4 + 2) 0 r10.2.Regs.length, .int .i64 r10.2.Pc, .sl (M4 + 3) 0 r10.2.Mem.length]) (d := (M4 + 2)) (obd := ⟨3, 1, encL rI r10.2.Regs⟩) (r := 0) (i := 0) [(o3, some ⟨26, 3, [[.osl 3 1 (encL rI r10.2.Regs), .int .i64 r10.2.Pc, .sl (M4 + 3) 0 r10.2.Mem.length]]⟩), (M4 + 3, some ⟨3, 1, encL rI r10.2.Mem⟩)] (by simp (disch := omega)) rfl rfl (by simp (disch := omega)) (by simp (disch := omega)) (by first | omega | simp) (by simp (disch := omega) [List.set_set, app_set] <;> omega) (by simp (disch := omega) [List.set_set, app_set]) ?_
     refine gPk AWP_ref (k := r10.2.Mem.length) (o := o3) (ob := ⟨26, 3, [[.osl 3 1 (encL rI r10.2.Regs), .int .i64 r10.2.Pc, .sl (M4 + 3) 0 r10.2.Mem.length]]⟩) (row := [.osl 3 1 (encL rI r10.2.Regs), .int .i64 r10.2.Pc, .sl (M4 + 3) 0 r10.2.Mem.length]) (d := (M4 + 3)) (obd := ⟨3, 1, encL rI r10.2.Mem⟩) (r := 0) (i := 2) [(o3, some ⟨26, 3, [[.osl 3 1 (encL rI r10.2.Regs), .int .i64 r10.2.Pc, .osl 3 1 (encL rI r10.2.Mem)]]⟩)] (by simp (disch := omega)) rfl rfl (by simp (disch := omega)) (by simp (disch := omega)) (by first | omega | simp) (by simp (disch := omega) [List.set_set, app_set] <;> omega) (by simp (disch := omega) [List.set_set, app_set]) ?_
     refine gUnp AWP_ref (ty := 3) (sz := 1) (es := encL rI r10.2.Regs) (o := o3) (ob := ⟨26, 3, [[.osl 3 1 (encL rI r10.2.Regs), .int .i64 r10.2.Pc, .osl 3 1 (encL rI r10.2.Mem)]]⟩) (row := [.osl 3 1 (encL rI r10.2.Regs), .int .i64 r10.2.Pc, .osl 3 1 (encL rI r10.2.Mem)]) (r := 0) (i := 0) [(o3, some ⟨26, 3, [[.sl (M4 + 10) 0 r10.2.Regs.length, .int .i64 r10.2.Pc, .osl 3 1 (encL rI r10.2.Mem)]]⟩), (M4 + 10, some ⟨3, 1, encL rI r10.2.Regs⟩)] (by simp (disch := omega)) rfl rfl (by simp (disch := omega) [List.set_set]) ?_
     refine gUnp AWP_ref (ty := 3) (sz := 1) (es := encL rI r10.2.Mem) (o := o3) (ob := ⟨26, 3, [[.sl (M4 + 10) 0 r10.2.Regs.length, .int .i64 r10.2.Pc, .osl 3 1 (encL rI r10.2.Mem)]]⟩) (row := [.sl (M4 + 10) 0 r10.2.Regs.length, .int .i64 r10.2.Pc, .osl 3 1 (encL rI r10.2.Mem)]) (r := 0) (i := 2) [(o3, some ⟨26, 3, [[.sl (M4 + 10) 0 r10.2.Regs.length, .int .i64 r10.2.Pc, .sl (M4 + 11) 0 r10.2.Mem.length]]⟩), (M4 + 10, some ⟨3, 1, encL rI r10.2.Regs⟩), (M4 + 11, some ⟨3, 1, encL rI r10.2.Mem⟩)] (by simp (disch := omega)) rfl rfl (by simp (disch := omega) [List.set_set]) ?_
     have z0 := nq (a := o3) (b := M4 + 10) (by omega)
     have z1 := nq (a := o3) (b := M4 + 11) (by omega)
     refine AWP_ret (hO3 _ _ _ _ rfl ⟨rfl, ?_⟩)
     refine ⟨[.agg [.sl (M4 + 10) 0 r10.2.Regs.length, .int .i64 r10.2.Pc, .sl (M4 + 11) 0 r10.2.Mem.length], .int .i64 s5, .int .i64 r10.1], by simp [z0, z1], (fun o => [o3].contains o), M4 + 12, M4 + 10, M4 + 11, by omega, by omega, by omega, by omega, by omega, by omega, ?_, ?_⟩
     ·
      simp [encL_nil, z0, z1]
     ·
      rw [cutD (L' := [(M4 + 10, some ⟨3, 1, encL rI r10.2.Regs⟩), (M4 + 11, some ⟨3, 1, encL rI r10.2.Mem⟩)]) (by simp [z0, z1])]
      first | done | rfl | simp [List.set_set]
    ·
     replace H := ifF C3 H
     refine AWP_skip ?_
     show K5 _ _
     refine keepE (l := [1, 4, 7, 24, 25]) (x := [(1, .int .i64 p1), (4, .ptr o3 0 0), (7, .ptr o4 0 0), (24, .int .i64 p1), (25, .int .i64 s5)]) rfl fun a' ha => ?_
     refine hK5 _ _ ?_; rw [ha]
     refine Rc.mk ?_
     refine AWP_rt tok [] [1, 4, 7, 24, 25] (fun a σ => a = [(1, .int .i64 p1), (4, .ptr o3 0 0), (7, .ptr o4 0 0), (24, .int .i64 p1), (25, .int .i64 (iadd .i64 s5 1))] ∧ σ = hp E0 [(o3, some ⟨26, 3, [[.osl 3 1 (encL rI s6.Regs), .int .i64 s6.Pc, .osl 3 1 (encL rI s6.Mem)]]⟩), (o4, some ⟨26, 3, [[.osl 3 1 (encL rI r10.2.Regs), .int .i64 r10.2.Pc, .osl 3 1 (encL rI r10.2.Mem)]]⟩)] (M4 + 4)) (fun K hK => ?_) ?_
     ·
      skip
      have e0 := nq (a := o3) (b := o4) (by omega)
      simp -dsimp -implicitDefEqProofs (maxDischargeDepth := 6) [e0]
      exact hK _ _ ⟨rfl, rfl⟩
     rintro a σ ⟨ha, rfl⟩
     replace H := Option.some.inj H; subst H
     refine hK3 _ _ _ rfl ?_; rw [ha]
     exact Rc.fin (AHeap.Sub.refl _) ⟨M4 + 4, o3, o4, (by omega), (by omega), (by omega), (by omega), (by omega), (by omega), rfl, rfl⟩
   ·
    replace H := ifF C2 H
    replace H := Option.some.inj H; subst H
    refine AWP_exit (hO3 _ _ _ _ rfl ⟨rfl, ?_⟩)
    refine Rc.rw (l := [1, 4, 7]) (X := [(1, .int .i64 p1), (4, .ptr o3 0 0), (7, .ptr o4 0 0)]) rfl ?_
    exact Rc.fin (AHeap.Sub.refl _) ⟨M2 + 1, o3, o4, (by omega), (by omega), (by omega), (by omega), (by omega), (by omega), rfl, rfl⟩
  ·
   intro x a σ hx
   rcases e1 with ⟨y8, y9⟩ | r0
   ·
    obtain ⟨rfl, b, τ, hr, M3, o5, o6, fM3_0, fM3_1, fM3_2, fM3_3, fM3_4, fM3_5, rfl, rfl⟩ := hx
    dsimp only at H
    show K2 _ _
    refine hK2 _ _ (Rc_ref hr ?_)
    refine Rc.mk ?_
    refine gUnp AWP_ref (ty := 3) (sz := 1) (es := encL rI y9.Regs) (o := o6) (ob := ⟨26, 3, [[.osl 3 1 (encL rI y9.Regs), .int .i64 y9.Pc, .osl 3 1 (encL rI y9.Mem)]]⟩) (row := [.osl 3 1 (encL rI y9.Regs), .int .i64 y9.Pc, .osl 3 1 (encL rI y9.Mem)]) (r := 0) (i := 0) [(o5, some ⟨26, 3, [[.osl 3 1 (encL rI y8.Regs), .int .i64 y8.Pc, .osl 3 1 (encL rI y8.Mem)]]⟩), (o6, some ⟨26, 3, [[.sl M3 0 y9.Regs.length, .int .i64 y9.Pc, .osl 3 1 (encL rI y9.Mem)]]⟩), (M3, some ⟨3, 1, encL rI y9.Regs⟩)] (by simp (disch := omega)) rfl rfl (by simp (disch := omega) [List.set_set]) ?_
    refine gUnp AWP_ref (ty := 3) (sz := 1) (es := encL rI y9.Mem) (o := o6) (ob := ⟨26, 3, [[.sl M3 0 y9.Regs.length, .int .i64 y9.Pc, .osl 3 1 (encL rI y9.Mem)]]⟩) (row := [.sl M3 0 y9.Regs.length, .int .i64 y9.Pc, .osl 3 1 (encL rI y9.Mem)]) (r := 0) (i := 2) [(o5, some ⟨26, 3, [[.osl 3 1 (encL rI y8.Regs), .int .i64 y8.Pc, .osl 3 1 (encL rI y8.Mem)]]⟩), (o6, some ⟨26, 3, [[.sl M3 0 y9.Regs.length, .int .i64 y9.Pc, .sl (M3 + 1) 0 y9.Mem.length]]⟩), (M3, some ⟨3, 1, encL rI y9.Regs⟩), (M3 + 1, some ⟨3, 1, encL rI y9.Mem⟩)] (by simp (disch := omega)) rfl rfl (by simp (disch := omega) [List.set_set]) ?_
    refine AWP_sr tok [] [4, 5, 6] (fun a σ => a = [(4, .ptr o5 0 0), (5, .int .i64 p1), (6, .int .i64 1)] ∧ σ = hp E0 [(o5, some ⟨26, 3, [[.sl M3 0 y9.Regs.length, .int .i64 y9.Pc, .sl (M3 + 1) 0 y9.Mem.length]]⟩), (o6, some ⟨26, 3, [[.sl M3 0 y9.Regs.length, .int .i64 y9.Pc, .sl (M3 + 1) 0 y9.Mem.length]]⟩), (M3, some ⟨3, 1, encL rI y9.Regs⟩), (M3 + 1, some ⟨3, 1, encL rI y9.Mem⟩)] (M3 + 7)) (fun K hK => ?_) ?_
    ·
     skip
     have e0 := nq (a := o5) (b := o6) (by omega)
     have e1 := nq (a := o5) (b := M3) (by omega)
     have e2 := nq (a := o5) (b := M3 + 1) (by omega)
     have e3 := nq (a := o6) (b := M3) (by omega)
     have e4 := nq (a := o6) (b := M3 + 1) (by omega)
     simp -dsimp -implicitDefEqProofs (maxDischargeDepth := 6) [e0, e1, e2, e3, e4]
     exact hK _ _ ⟨rfl, rfl⟩
    rintro a σ ⟨rfl, rfl⟩
    replace H := Option.some.inj H; subst H
    refine AWP_kp [4, 5, 6] [(4, .ptr o5 0 0), (5, .int .i64 p1), (6, .int .i64 1)] rfl ?_
    refine gDrop AWP_ref [(o5, some ⟨26, 3, [[.sl M3 0 y9.Regs.length, .int .i64 y9.Pc, .sl (M3 + 1) 0 y9.Mem.length]]⟩), (M3, some ⟨3, 1, encL rI y9.Regs⟩), (M3 + 1, some ⟨3, 1, encL rI y9.Mem⟩)] (hp_skip (AHeap.Sub.trans (hp_skip (hp_skip (AHeap.Sub.refl _))) (hp_drop rfl (by simp; try omega)))) ?_
    refine gPk AWP_ref (k := y9.Regs.length) (o := o5) (ob := ⟨26, 3, [[.sl M3 0 y9.Regs.length, .int .i64 y9.Pc, .sl (M3 + 1) 0 y9.Mem.length]]⟩) (row := [.sl M3 0 y9.Regs.length, .int .i64 y9.Pc, .sl (M3 + 1) 0 y9.Mem.length]) (d := M3) (obd := ⟨3, 1, encL rI y9.Regs⟩) (r := 0) (i := 0) [(o5, some ⟨26, 3, [[.osl 3 1 (encL rI y9.Regs), .int .i64 y9.Pc, .sl (M3 + 1) 0 y9.Mem.length]]⟩), (M3 + 1, some ⟨3, 1, encL rI y9.Mem⟩)] (by simp (disch := omega)) rfl rfl (by simp (disch := omega)) (by simp (disch := omega)) (by first | omega | simp) (by simp (disch := omega) [List.set_set, app_set] <;> omega) (by simp (disch := omega) [List.set_set, app_set]) ?_
    refine gPk AWP_ref (k := y9.Mem.length) (o := o5) (ob := ⟨26, 3, [[.osl 3 1 (encL rI y9.Regs), .int .i64 y9.Pc, .sl (M3 + 1) 0 y9.Mem.length]]⟩) (row := [.osl 3 1 (encL rI y9.Regs), .int .i64 y9.Pc, .sl (M3 + 1) 0 y9.Mem.length]) (d := (M3 + 1)) (obd := ⟨3, 1, encL rI y9.Mem⟩) (r := 0) (i := 2) [(o5, some ⟨26, 3, [[.osl 3 1 (encL rI y9.Regs), .int .i64 y9.Pc, .osl 3 1 (encL rI y9.Mem)]]⟩)] (by simp (disch := omega)) rfl rfl (by simp (disch := omega)) (by simp (disch := omega)) (by first | omega | simp) (by simp (disch := omega) [List.set_set, app_set] <;> omega) (by simp (disch := omega) [List.set_set, app_set]) ?_
    refine gUnp AWP_ref (ty := 3) (sz := 1) (es := encL rI y9.Regs) (o := o5) (ob := ⟨26, 3, [[.osl 3 1 (encL rI y9.Regs), .int .i64 y9.Pc, .osl 3 1 (encL rI y9.Mem)]]⟩) (row := [.osl 3 1 (encL rI y9.Regs), .int .i64 y9.Pc, .osl 3 1 (encL rI y9.Mem)]) (r := 0) (i := 0) [(o5, some ⟨26, 3, [[.sl (M3 + 7) 0 y9.Regs.length, .int .i64 y9.Pc, .osl 3 1 (encL rI y9.Mem)]]⟩), (M3 + 7, some ⟨3, 1, encL rI y9.Regs⟩)] (by simp (disch := omega)) rfl rfl (by simp (disch := omega) [List.set_set]) ?_
    refine gUnp AWP_ref (ty := 3) (sz := 1) (es := encL rI y9.Mem) (o := o5) (ob := ⟨26, 3, [[.sl (M3 + 7) 0 y9.Regs.length, .int .i64 y9.Pc, .osl 3 1 (encL rI y9.Mem)]]⟩) (row := [.sl (M3 + 7) 0 y9.Regs.length, .int .i64 y9.Pc, .osl 3 1 (encL rI y9.Mem)]) (r := 0) (i := 2) [(o5, some ⟨26, 3, [[.sl (M3 + 7) 0 y9.Regs.length, .int .i64 y9.Pc, .sl (M3 + 8) 0 y9.Mem.length]]⟩), (M3 + 7, some ⟨3, 1, encL rI y9.Regs⟩), (M3 + 8, some ⟨3, 1, encL rI y9.Mem⟩)] (by simp (disch := omega)) rfl rfl (by simp (disch := omega) [List.set_set]) ?_
    have z2 := nq (a := o5) (b := M3 + 7) (by omega)
    have z3 := nq (a := o5) (b := M3 + 8) (by omega)
    refine AWP_ret ?_
    refine ⟨[.agg [.sl (M3 + 7) 0 y9.Regs.length, .int .i64 y9.Pc, .sl (M3 + 8) 0 y9.Mem.length], .int .i64 p1, .int .i64 1], by simp [z2, z3], (fun o => [o5].contains o), M3 + 9, M3 + 7, M3 + 8, by omega, by omega, by omega, by omega, by omega, by omega, ?_, ?_⟩
    ·
     simp [encL_nil, z2, z3]
    ·
     rw [cutD (L' := [(M3 + 7, some ⟨3, 1, encL rI y9.Regs⟩), (M3 + 8, some ⟨3, 1, encL rI y9.Mem⟩)]) (by simp [z2, z3])]
     first | done | rfl | simp [List.set_set]
   ·
    obtain ⟨rfl, hx2⟩ := hx
    dsimp only at H
    replace H := Option.some.inj H; subst H; exact hx2
theorem c33_o2_b {p0 : gMachine} {p1 : Int} {r : gMachine × Int × Int} (H : i_MachineRun_o2 p0 p1 = some r) {σ : AHeap} {args : List AV} (hy : args.map (thawA (fun _ => true) σ 8) = [.agg [.fsl (encL rI p0.Regs), .int .i64 p0.Pc, .fsl (encL rI p0.Mem)], .int .i64 p1]) : ACalls Tryd.prog G 33 args σ (fun v σ' => ∃ M n0 n1 : Nat, σ.next ≤ M ∧ σ.next ≤ n0 ∧ n0 < M ∧ σ.next ≤ n1 ∧ n1 < M ∧ ¬ n0 = n1 ∧ v = .tup [.agg [.sl n0 0 r.1.Regs.length, .int .i64 r.1.Pc, .sl n1 0 r.1.Mem.length], .int .i64 r.2.1, .int .i64 r.2.2] ∧ σ' = hp σ.objs [(n0, some ⟨3, 1, encL rI r.1.Regs⟩), (n1, some ⟨3, 1, encL rI r.1.Mem⟩)] M) := by
 refine borrowQ 8 8 (c33_o2 (σ := ⟨E0, σ.next⟩) H) hy ?_
 rintro _ _ ⟨M, n0, n1, h0, h1, h2, h3, h4, h5, rfl, rfl⟩
 refine ⟨_, M, rfl, by simp [AV.rnf, AV.simp1], fun p hp ob ho => ?_, by simp, M, n0, n1, h0, h1, h2, h3, h4, h5, rfl, rfl⟩
 simp only [List.mem_cons, List.not_mem_nil, or_false] at hp
 rcases hp with rfl | rfl <;> (cases ho; first | exact encL_nf (fun x => nf_rI 7 x) _ | exact encL_nf (fun x => nf_rI 7 x) _ | simp [AV.nf, AV.simp1])
theorem c34 {p0 : (List Int)} {p1 : (List Int)} {r : Int} (H : l_differs p0 p1 = some r) : APure Tryd.prog G 34 [.fsl (encL rI p0), .fsl (encL rI p1)] (.int .i64 r) := by
 refine APure_fn (fun N0 => ?_) (by simp)
 refine ACalls_fn tok Tryd.func34 (by kernel_rfl) rfl Tryd.ntmps34 Tryd.results34 rfl ?_
 simp only [argsA, Nat.reduceAdd, hp_next]
 unfold l_differs at H
 refine AWP_sr tok [] [0, 1] (fun a σ => a = [(0, .fsl (encL rI p0)), (1, .fsl (encL rI p1))] ∧ σ = hp E0 [] (N0 + 1)) (fun K hK => ?_) ?_
 ·
  skip
  simp -dsimp -implicitDefEqProofs (maxDischargeDepth := 6)
  exact hK _ _ ⟨rfl, rfl⟩
 rintro a σ ⟨rfl, rfl⟩
 refine AWP_sr tok [] [0, 1, 5] (fun a σ => a = [(0, .fsl (encL rI p0)), (1, .fsl (encL rI p1)), (5, .int .i64 0)] ∧ σ = hp E0 [] (N0 + 2)) (fun K hK => ?_) ?_
 ·
  skip
  simp -dsimp -implicitDefEqProofs (maxDischargeDepth := 6)
  exact hK _ _ ⟨rfl, rfl⟩
 rintro a σ ⟨rfl, rfl⟩
 refine AWP_sq [5] fun K1 hK1 => ?_
 refine AWP_sr tok [] [0, 1, 5, 6] (fun a σ => a = [(0, .fsl (encL rI p0)), (1, .fsl (encL rI p1)), (5, .int .i64 0), (6, .int .i64 0)] ∧ σ = hp E0 [] (N0 + 3)) (fun K hK => ?_) ?_
 ·
  skip
  simp -dsimp -implicitDefEqProofs (maxDischargeDepth := 6)
  exact hK _ _ ⟨rfl, rfl⟩
 rintro a σ ⟨rfl, rfl⟩
 refine AWP_block (AWP_thenB ?_)
 obtain ⟨e1, hse1, H⟩ := bindE H
 refine AWP_lp [0, 1, 5, 6] (fun s a σ => ∃ M1 : Nat, N0 ≤ M1 ∧ a = [(0, .fsl (encL rI p0)), (1, .fsl (encL rI p1)), (5, .int .i64 s.1), (6, .int .i64 s.2)] ∧ σ = hp E0 [] M1) (fun s x a σ => x = .exit 0 ∧ Rc G 31 N0 (fun a σ => ∃ M2 : Nat, N0 ≤ M2 ∧ a = [(5, .int .i64 s)] ∧ σ = hp E0 [] M2) (AAct.keep a [5]) σ) hse1 ?_ ?_ ?_
 ·
  refine Rc.kp [0, 1, 5, 6] [(0, .fsl (encL rI p0)), (1, .fsl (encL rI p1)), (5, .int .i64 0), (6, .int .i64 0)] rfl ?_
  exact Rc.fin (AHeap.Sub.refl _) ⟨N0 + 3, (by omega), rfl, rfl⟩
 ·
  clear H hse1
  rintro ⟨s1, s2⟩ fl a σ H ⟨M1, fM1_0, rfl, rfl⟩ K2 O2 hK2 hO2
  unfold l_differs_L1 at H; dsimp only at H
  refine AWP_sq [0, 1, 5, 6] fun K3 hK3 => ?_
  obtain ⟨g4, hg4, H⟩ := bindE H
  refine AWP_sr tok [] [0, 1, 5, 6, 16] (fun a σ => a = [(0, .fsl (encL rI p0)), (1, .fsl (encL rI p1)), (5, .int .i64 s1), (6, .int .i64 s2), (16, .bool g4)] ∧ σ = hp E0 [] (M1 + 10)) (fun K hK => ?_) ?_
  ·
   skip
   simp -dsimp -implicitDefEqProofs (maxDischargeDepth := 6)
   cases hbg4 : ilt s2 (ilen p0)
   ·
    replace hg4 := ifF hbg4 hg4
    replace hg4 := Option.some.inj hg4; subst hg4
    try simp -dsimp -implicitDefEqProofs (maxDischargeDepth := 6) [hbg4]
    exact hK _ _ ⟨rfl, rfl⟩
   ·
    replace hg4 := ifT hbg4 hg4
    replace hg4 := Option.some.inj hg4; subst hg4
    try simp -dsimp -implicitDefEqProofs (maxDischargeDepth := 6) [hbg4]
    exact hK _ _ ⟨rfl, rfl⟩
  rintro a σ ⟨rfl, rfl⟩
  refine AWP_cond g4 rfl (fun C1 => ?_) (fun C1 => ?_)
  ·
   replace H := ifT C1 H
   refine AWP_skip ?_
   show K3 _ _
   refine keepE (l := [0, 1, 5, 6]) (x := [(0, .fsl (encL rI p0)), (1, .fsl (encL rI p1)), (5, .int .i64 s1), (6, .int .i64 s2)]) rfl fun a' ha => ?_
   refine hK3 _ _ ?_; rw [ha]
   refine Rc.mk ?_
   refine AWP_sq [0, 1, 5, 6] fun K4 hK4 => ?_
   refine AWP_block (AWP_thenB ?_)
   obtain ⟨v5, hv5, H⟩ := bindE H
   obtain ⟨v6, hv6, H⟩ := bindE H
   refine AWP_sd tok tokM [] [] [0, 1, 2, 3, 4, 5, 6, 7, 8] [0, 1, 5, 6, 27] (fun a σ => a = [(0, .fsl (encL rI p0)), (1, .fsl (encL rI p1)), (5, .int .i64 s1), (6, .int .i64 s2), (27, .bool (ine v5 v6))] ∧ σ = hp E0 [] (M1 + 19)) (by decide) (fun K hK => ?_) ?_
   ·
    simp only [pickL, nthO_succ, nthO_zero]
    simp -dsimp -implicitDefEqProofs (maxDischargeDepth := 6) [ix24 hv5, ix24 hv6]
    exact hK _ _ ⟨rfl, rfl⟩
   rintro a σ ⟨rfl, rfl⟩
   refine AWP_cond (ine v5 v6) rfl (fun C2 => ?_) (fun C2 => ?_)
   ·
    replace H := ifT C2 H
    refine AWP_rt tok [] [0, 1, 5, 6] (fun a σ => a = [(0, .fsl (encL rI p0)), (1, .fsl (encL rI p1)), (5, .int .i64 (iadd .i64 s1 1)), (6, .int .i64 s2)] ∧ σ = hp E0 [] (M1 + 22)) (fun K hK => ?_) ?_
    ·
     skip
     simp -dsimp -implicitDefEqProofs (maxDischargeDepth := 6)
     exact hK _ _ ⟨rfl, rfl⟩
    rintro a σ ⟨ha, rfl⟩
    refine hK4 _ _ ?_; rw [ha]
    refine Rc.mk ?_
    refine AWP_rt tok [] [0, 1, 5, 6] (fun a σ => a = [(0, .fsl (encL rI p0)), (1, .fsl (encL rI p1)), (5, .int .i64 (iadd .i64 s1 1)), (6, .int .i64 (iadd .i64 s2 1))] ∧ σ = hp E0 [] (M1 + 25)) (fun K hK => ?_) ?_
    ·
     skip
     simp -dsimp -implicitDefEqProofs (maxDischargeDepth := 6)
     exact hK _ _ ⟨rfl, rfl⟩
    rintro a σ ⟨ha, rfl⟩
    replace H := Option.some.inj H; subst H
    refine hK2 _ _ _ rfl ?_; rw [ha]
    exact Rc.fin (AHeap.Sub.refl _) ⟨M1 + 25, (by omega), rfl, rfl⟩
   ·
    replace H := ifF C2 H
    refine AWP_skip ?_
    show K4 _ _
    refine keepE (l := [0, 1, 5, 6]) (x := [(0, .fsl (encL rI p0)), (1, .fsl (encL rI p1)), (5, .int .i64 s1), (6, .int .i64 s2)]) rfl fun a' ha => ?_
    refine hK4 _ _ ?_; rw [ha]
    refine Rc.mk ?_
    refine AWP_rt tok [] [0, 1, 5, 6] (fun a σ => a = [(0, .fsl (encL rI p0)), (1, .fsl (encL rI p1)), (5, .int .i64 s1), (6, .int .i64 (iadd .i64 s2 1))] ∧ σ = hp E0 [] (M1 + 22)) (fun K hK => ?_) ?_
    ·
     skip
     simp -dsimp -implicitDefEqProofs (maxDischargeDepth := 6)
     exact hK _ _ ⟨rfl, rfl⟩
    rintro a σ ⟨ha, rfl⟩
    replace H := Option.some.inj H; subst H
    refine hK2 _ _ _ rfl ?_; rw [ha]
    exact Rc.fin (AHeap.Sub.refl _) ⟨M1 + 22, (by omega), rfl, rfl⟩
  ·
   replace H := ifF C1 H
   replace H := Option.some.inj H; subst H
   refine AWP_exit (hO2 _ _ _ _ rfl ⟨rfl, ?_⟩)
   refine Rc.rw (l := [5]) (X := [(5, .int .i64 s1)]) rfl ?_
   exact Rc.fin (AHeap.Sub.refl _) ⟨M1 + 10, (by omega), rfl, rfl⟩
 ·
  intro x a σ hx
  obtain ⟨y3, rfl⟩ : ∃ x, x = e1 := ⟨_, rfl⟩
  obtain ⟨rfl, b, τ, hr, M2, fM2_0, rfl, rfl⟩ := hx
  dsimp only at H
  show K1 _ _
  refine hK1 _ _ (Rc_ref hr ?_)
  refine Rc.mk ?_
  refine AWP_sr tok [] [4] (fun a σ => a = [(4, .int .i64 y3)] ∧ σ = hp E0 [] (M2 + 2)) (fun K hK => ?_) ?_
  ·
   skip
   simp -dsimp -implicitDefEqProofs (maxDischargeDepth := 6)
   exact hK _ _ ⟨rfl, rfl⟩
  rintro a σ ⟨rfl, rfl⟩
  replace H := Option.some.inj H; subst H
  refine AWP_kp [4] [(4, .int .i64 y3)] rfl ?_
  refine AWP_ret ?_
  exact ⟨[.int .i64 y3], by simp, 4, by simp [encL_nil]⟩
theorem c8 {p0 : (List Int)} {r : Bool} (H : l_FnMachineConst p0 = some r) : APure Tryd.prog G 8 [.fsl (encL rI_u8 p0)] (.bool r) := by
 refine APure_fn (fun N0 => ?_) (by simp)
 refine ACalls_fn tok Tryd.func8 (by kernel_rfl) rfl Tryd.ntmps8 Tryd.results8 rfl ?_
 simp only [argsA, Nat.reduceAdd, hp_next]
 unfold l_FnMachineConst at H
 refine AWP_sr tok [] [0] (fun a σ => a = [(0, .fsl (encL rI_u8 p0))] ∧ σ = hp E0 [] (N0 + 1)) (fun K hK => ?_) ?_
 ·
  skip
  simp -dsimp -implicitDefEqProofs (maxDischargeDepth := 6)
  exact hK _ _ ⟨rfl, rfl⟩
 rintro a σ ⟨rfl, rfl⟩
 refine AWP_sq [0] fun K1 hK1 => ?_
 refine AWP_sr tok [] [0, 15] (fun a σ => a = [(0, .fsl (encL rI_u8 p0)), (15, .bool (igt (ilen p0) 1048576))] ∧ σ = hp E0 [] (N0 + 4)) (fun K hK => ?_) ?_
 ·
  skip
  simp -dsimp -implicitDefEqProofs (maxDischargeDepth := 6)
  exact hK _ _ ⟨rfl, rfl⟩
 rintro a σ ⟨rfl, rfl⟩
 refine AWP_cond (igt (ilen p0) 1048576) rfl (fun C1 => ?_) (fun C1 => ?_)
 ·
  replace H := ifT C1 H
  refine AWP_sr tok [] [2] (fun a σ => a = [(2, .bool true)] ∧ σ = hp E0 [] (N0 + 5)) (fun K hK => ?_) ?_
  ·
   skip
   simp -dsimp -implicitDefEqProofs (maxDischargeDepth := 6)
   exact hK _ _ ⟨rfl, rfl⟩
  rintro a σ ⟨rfl, rfl⟩
  replace H := Option.some.inj H; subst H
  refine AWP_kp [2] [(2, .bool true)] rfl ?_
  refine AWP_ret ?_
  exact ⟨[.bool true], by simp, 4, by simp [encL_nil]⟩
 ·
  replace H := ifF C1 H
  refine AWP_skip ?_
  show K1 _ _
  refine keepE (l := [0]) (x := [(0, .fsl (encL rI_u8 p0))]) rfl fun a' ha => ?_
  refine hK1 _ _ ?_; rw [ha]
  refine Rc.mk ?_
  obtain ⟨r1, hr1, H⟩ := bindE H
  refine AWP_sr tok [] [3, 4] (fun a σ => a = [(3, .int .i64 r1.1), (4, .int .i64 r1.2)] ∧ σ = hp E0 [] (N0 + 11)) (fun K hK => ?_) ?_
  ·
   skip
   simp -dsimp -implicitDefEqProofs (maxDischargeDepth := 6)
   refine (c29 hr1).app ?_; try simp -dsimp -implicitDefEqProofs (maxDischargeDepth := 6)
   exact hK _ _ ⟨rfl, rfl⟩
  rintro a σ ⟨rfl, rfl⟩
  obtain ⟨r2, hr2, H⟩ := bindE H
  refine AWP_sr tok [] [3, 4, 5, 6] (fun a σ => a = [(3, .int .i64 r1.1), (4, .int .i64 r1.2), (5, .fsl (encL rInstr r2.1)), (6, .bool r2.2)] ∧ σ = hp E0 [] (N0 + 19)) (fun K hK => ?_) ?_
  ·
   skip
   simp -dsimp -implicitDefEqProofs (maxDischargeDepth := 6)
   refine (c30 hr2).app ?_; try simp -dsimp -implicitDefEqProofs (maxDischargeDepth := 6)
   exact hK _ _ ⟨rfl, rfl⟩
  rintro a σ ⟨rfl, rfl⟩
  obtain ⟨r3, hr3, H⟩ := bindE H
  refine AWP_sr tok [] [3, 4, 5, 6, 7, 8] (fun a σ => a = [(3, .int .i64 r1.1), (4, .int .i64 r1.2), (5, .fsl (encL rInstr r2.1)), (6, .bool r2.2), (7, .fsl (encL rInstr r3.1)), (8, .bool r3.2)] ∧ σ = hp E0 [] (N0 + 27)) (fun K hK => ?_) ?_
  ·
   skip
   simp -dsimp -implicitDefEqProofs (maxDischargeDepth := 6)
   refine (c31 hr3).app ?_; try simp -dsimp -implicitDefEqProofs (maxDischargeDepth := 6)
   exact hK _ _ ⟨rfl, rfl⟩
  rintro a σ ⟨rfl, rfl⟩
  refine AWP_sq [3, 4, 5] fun K2 hK2 => ?_
  obtain ⟨g5, hg5, H⟩ := bindE H
  obtain ⟨g6, hg6, H⟩ := bindE H
  refine AWP_sr tok [] [3, 4, 5, 6, 7, 8, 45] (fun a σ => a = [(3, .int .i64 r1.1), (4, .int .i64 r1.2), (5, .fsl (encL rInstr r2.1)), (6, .bool r2.2), (7, .fsl (encL rInstr r3.1)), (8, .bool r3.2), (45, .bool g6)] ∧ σ = hp E0 [] (N0 + 40)) (fun K hK => ?_) ?_
  ·
   skip
   simp -dsimp -implicitDefEqProofs (maxDischargeDepth := 6)
   cases hbg5 : bneb r2.2 r3.2
   ·
    replace hg5 := ifF hbg5 hg5
    obtain ⟨r4, hr4, hg5⟩ := bindE hg5
    replace hg5 := Option.some.inj hg5; subst hg5
    try simp -dsimp -implicitDefEqProofs (maxDischargeDepth := 6) [hbg5]
    refine (c28 hr4).app ?_; try simp -dsimp -implicitDefEqProofs (maxDischargeDepth := 6) [hbg5]
    cases hbg6 : (bnot r4)
    ·
     replace hg6 := ifF hbg6 hg6
     replace hg6 := Option.some.inj hg6; subst hg6
     try simp -dsimp -implicitDefEqProofs (maxDischargeDepth := 6) [hbg5, hbg6]
     exact hK _ _ ⟨rfl, rfl⟩
    ·
     replace hg6 := ifT hbg6 hg6
     replace hg6 := Option.some.inj hg6; subst hg6
     try simp -dsimp -implicitDefEqProofs (maxDischargeDepth := 6) [hbg5, hbg6]
     exact hK _ _ ⟨rfl, rfl⟩
   ·
    replace hg5 := ifT hbg5 hg5
    replace hg5 := Option.some.inj hg5; subst hg5
    try simp -dsimp -implicitDefEqProofs (maxDischargeDepth := 6) [hbg5]
    replace hg6 := ifT rfl hg6
    replace hg6 := Option.some.inj hg6; subst hg6
    try simp -dsimp -implicitDefEqProofs (maxDischargeDepth := 6) [hbg5]
    exact hK _ _ ⟨rfl, rfl⟩
  rintro a σ ⟨rfl, rfl⟩
  refine AWP_cond g6 rfl (fun C2 => ?_) (fun C2 => ?_)
  ·
   replace H := ifT C2 H
   obtain ⟨g8, hg8, H⟩ := bindE H
   refine AWP_sr tok [] [2] (fun a σ => a = [(2, .bool g8)] ∧ σ = hp E0 [] (N0 + 49)) (fun K hK => ?_) ?_
   ·
    skip
    simp -dsimp -implicitDefEqProofs (maxDischargeDepth := 6)
    cases hbg8 : beqb r2.2 r3.2
    ·
     replace hg8 := ifF hbg8 hg8
     replace hg8 := Option.some.inj hg8; subst hg8
     try simp -dsimp -implicitDefEqProofs (maxDischargeDepth := 6) [hbg8]
     exact hK _ _ ⟨rfl, rfl⟩
    ·
     replace hg8 := ifT hbg8 hg8
     obtain ⟨r7, hr7, hg8⟩ := bindE hg8
     replace hg8 := Option.some.inj hg8; subst hg8
     try simp -dsimp -implicitDefEqProofs (maxDischargeDepth := 6) [hbg8]
     refine (c28 hr7).app ?_; try simp -dsimp -implicitDefEqProofs (maxDischargeDepth := 6) [hbg8]
     exact hK _ _ ⟨rfl, rfl⟩
   rintro a σ ⟨rfl, rfl⟩
   replace H := Option.some.inj H; subst H
   refine AWP_kp [2] [(2, .bool g8)] rfl ?_
   refine AWP_ret ?_
   exact ⟨[.bool g8], by simp, 4, by simp [encL_nil]⟩
  ·
   replace H := ifF C2 H
   refine AWP_skip ?_
   show K2 _ _
   refine keepE (l := [3, 4, 5]) (x := [(3, .int .i64 r1.1), (4, .int .i64 r1.2), (5, .fsl (encL rInstr r2.1))]) rfl fun a' ha => ?_
   refine hK2 _ _ ?_; rw [ha]
   refine Rc.mk ?_
   obtain ⟨r9, hr9, H⟩ := bindE H
   obtain ⟨l10, hl10, H⟩ := bindE H
   refine AWP_sd tok tokM [] [0, 4, 5] [1, 2, 0, 3, 4, 5] [3, 4, 5, 9] (fun a σ => a = [(3, .int .i64 r1.1), (4, .int .i64 r1.2), (5, .fsl (encL rInstr r2.1)), (9, .ptr (N0 + 44) 0 0)] ∧ σ = hp E0 [(N0 + 40, some ⟨3, 1, encL rI l10⟩), (N0 + 44, some ⟨26, 3, [[.sl (N0 + 40) 0 l10.length, .int .i64 0, .fsl (encL rI r9)]]⟩)] (N0 + 46)) (by decide) (fun K hK => ?_) ?_
   ·
    simp only [pickL, nthO_succ, nthO_zero]
    simp -dsimp -implicitDefEqProofs (maxDischargeDepth := 6) [mak24 hl10]
    refine Pc.mk (c32 hr9) ?_; try simp -dsimp -implicitDefEqProofs (maxDischargeDepth := 6) [mak24 hl10]
    exact hK _ _ ⟨rfl, rfl⟩
   rintro a σ ⟨rfl, rfl⟩
   refine gPk AWP_ref (k := l10.length) (o := (N0 + 44)) (ob := ⟨26, 3, [[.sl (N0 + 40) 0 l10.length, .int .i64 0, .fsl (encL rI r9)]]⟩) (row := [.sl (N0 + 40) 0 l10.length, .int .i64 0, .fsl (encL rI r9)]) (d := (N0 + 40)) (obd := ⟨3, 1, encL rI l10⟩) (r := 0) (i := 0) [(N0 + 44, some ⟨26, 3, [[.osl 3 1 (encL rI l10), .int .i64 0, .fsl (encL rI r9)]]⟩)] (by simp (disch := omega)) rfl rfl (by simp (disch := omega)) (by simp (disch := omega)) (by first | omega | simp) (by simp (disch := omega) [List.set_set, app_set] <;> omega) (by simp (disch := omega) [List.set_set, app_set]) ?_
   refine gUnp AWP_ref (ty := 3) (sz := 1) (es := encL rI l10) (o := (N0 + 44)) (ob := ⟨26, 3, [[.osl 3 1 (encL rI l10), .int .i64 0, .fsl (encL rI r9)]]⟩) (row := [.osl 3 1 (encL rI l10), .int .i64 0, .fsl (encL rI r9)]) (r := 0) (i := 0) [(N0 + 44, some ⟨26, 3, [[.sl (N0 + 46) 0 l10.length, .int .i64 0, .fsl (encL rI r9)]]⟩), (N0 + 46, some ⟨3, 1, encL rI l10⟩)] (by simp (disch := omega)) rfl rfl (by simp (disch := omega) [List.set_set]) ?_
   obtain ⟨r11, hr11, H⟩ := bindE H
   refine AWP_sr tok [] [3, 4, 5, 9, 10, 11, 12] (fun a σ => ∃ M1 o1 o2 : Nat, N0 + 59 ≤ M1 ∧ N0 + 59 ≤ o1 ∧ o1 < M1 ∧ N0 + 59 ≤ o2 ∧ o2 < M1 ∧ ¬ o1 = o2 ∧ a = [(3, .int .i64 r1.1), (4, .int .i64 r1.2), (5, .fsl (encL rInstr r2.1)), (9, .ptr (N0 + 44) 0 0), (10, .ptr (N0 + 55) 0 0), (11, .int .i64 r11.2.1), (12, .int .i64 r11.2.2)] ∧ σ = hp E0 [(N0 + 44, some ⟨26, 3, [[.sl (N0 + 46) 0 l10.length, .int .i64 0, .fsl (encL rI r9)]]⟩), (N0 + 46, some ⟨3, 1, encL rI l10⟩), (o1, some ⟨3, 1, encL rI r11.1.Regs⟩), (o2, some ⟨3, 1, encL rI r11.1.Mem⟩), (N0 + 55, some ⟨26, 3, [[.sl o1 0 r11.1.Regs.length, .int .i64 r11.1.Pc, .sl o2 0 r11.1.Mem.length]]⟩)] M1) (fun K hK => ?_) ?_
   ·
    skip
    simp -dsimp -implicitDefEqProofs (maxDischargeDepth := 6)
    refine (c33_o2_b (H := hr11) (by simp [])).mono ?_; rintro _ _ ⟨M1, o1, o2, fM1_0, fM1_1, fM1_2, fM1_3, fM1_4, fM1_5, rfl, rfl⟩; simp only [hp_next] at fM1_0 fM1_1 fM1_2 fM1_3 fM1_4 fM1_5
    have eM1_0 := nq (a := o1) (b := N0 + 44) (by omega)
    have eM1_1 := nq (a := o1) (b := N0 + 46) (by omega)
    have eM1_2 := nq (a := o1) (b := N0 + 55) (by omega)
    have eM1_3 := nq (a := o1) (b := o2) (by omega)
    have eM1_4 := nq (a := o2) (b := N0 + 44) (by omega)
    have eM1_5 := nq (a := o2) (b := N0 + 46) (by omega)
    have eM1_6 := nq (a := o2) (b := N0 + 55) (by omega)
    try simp -dsimp -implicitDefEqProofs (maxDischargeDepth := 6) [eM1_0, eM1_1, eM1_2, eM1_3, eM1_4, eM1_5, eM1_6, hp_over_some, hp_over_none]
    exact hK _ _ ⟨M1, o1, o2, (by omega), (by omega), (by omega), (by omega), (by omega), (by omega), rfl, rfl⟩
   rintro a σ ⟨M1, o1, o2, fM1_0, fM1_1, fM1_2, fM1_3, fM1_4, fM1_5, rfl, rfl⟩
   obtain ⟨v12, hv12, H⟩ := bindE H
   obtain ⟨l13, hl13, H⟩ := bindE H
   refine AWP_sr tok [] [3, 4, 5, 9, 10, 11, 12] (fun a σ => a = [(3, .int .i64 r1.1), (4, .int .i64 r1.2), (5, .fsl (encL rInstr r2.1)), (9, .ptr (N0 + 44) 0 0), (10, .ptr (N0 + 55) 0 0), (11, .int .i64 r11.2.1), (12, .int .i64 r11.2.2)] ∧ σ = hp E0 [(N0 + 44, some ⟨26, 3, [[.sl (N0 + 46) 0 l10.length, .int .i64 0, .fsl (encL rI r9)]]⟩), (N0 + 46, some ⟨3, 1, encL rI l13⟩), (o1, some ⟨3, 1, encL rI r11.1.Regs⟩), (o2, some ⟨3, 1, encL rI r11.1.Mem⟩), (N0 + 55, some ⟨26, 3, [[.sl o1 0 r11.1.Regs.length, .int .i64 r11.1.Pc, .sl o2 0 r11.1.Mem.length]]⟩)] (M1 + 6)) (fun K hK => ?_) ?_
   ·
    skip
    have e0 := nq (a := N0 + 44) (b := o1) (by omega)
    have e1 := nq (a := N0 + 44) (b := o2) (by omega)
    have e2 := nq (a := N0 + 46) (b := o1) (by omega)
    have e3 := nq (a := N0 + 46) (b := o2) (by omega)
    have e4 := nq (a := o1) (b := o2) (by omega)
    have e5 := nq (a := o1) (b := N0 + 55) (by omega)
    have e6 := nq (a := o2) (b := N0 + 55) (by omega)
    simp -dsimp -implicitDefEqProofs (maxDischargeDepth := 6) [e0, e1, e2, e3, e4, e5, e6, ixo24 hv12, (idx_lt3 hv12).2.2, (setx_iff.1 hl13).2.symm]
    exact hK _ _ ⟨rfl, rfl⟩
   rintro a σ ⟨rfl, rfl⟩
   try rw [← setx_len hl13]
   refine gPk AWP_ref (k := l13.length) (o := (N0 + 44)) (ob := ⟨26, 3, [[.sl (N0 + 46) 0 l13.length, .int .i64 0, .fsl (encL rI r9)]]⟩) (row := [.sl (N0 + 46) 0 l13.length, .int .i64 0, .fsl (encL rI r9)]) (d := (N0 + 46)) (obd := ⟨3, 1, encL rI l13⟩) (r := 0) (i := 0) [(N0 + 44, some ⟨26, 3, [[.osl 3 1 (encL rI l13), .int .i64 0, .fsl (encL rI r9)]]⟩), (o1, some ⟨3, 1, encL rI r11.1.Regs⟩), (o2, some ⟨3, 1, encL rI r11.1.Mem⟩), (N0 + 55, some ⟨26, 3, [[.sl o1 0 r11.1.Regs.length, .int .i64 r11.1.Pc, .sl o2 0 r11.1.Mem.length]]⟩)] (by simp (disch := omega)) rfl rfl (by simp (disch := omega)) (by simp (disch := omega)) (by first | omega | simp) (by simp (disch := omega) [List.set_set, app_set] <;> omega) (by simp (disch := omega) [List.set_set, app_set]) ?_
   refine gPk AWP_ref (k := r11.1.Regs.length) (o := (N0 + 55)) (ob := ⟨26, 3, [[.sl o1 0 r11.1.Regs.length, .int .i64 r11.1.Pc, .sl o2 0 r11.1.Mem.length]]⟩) (row := [.sl o1 0 r11.1.Regs.length, .int .i64 r11.1.Pc, .sl o2 0 r11.1.Mem.length]) (d := o1) (obd := ⟨3, 1, encL rI r11.1.Regs⟩) (r := 0) (i := 0) [(N0 + 44, some ⟨26, 3, [[.osl 3 1 (encL rI l13), .int .i64 0, .fsl (encL rI r9)]]⟩), (o2, some ⟨3, 1, encL rI r11.1.Mem⟩), (N0 + 55, some ⟨26, 3, [[.osl 3 1 (encL rI r11.1.Regs), .int .i64 r11.1.Pc, .sl o2 0 r11.1.Mem.length]]⟩)] (by simp (disch := omega)) rfl rfl (by simp (disch := omega)) (by simp (disch := omega)) (by first | omega | simp) (by simp (disch := omega) [List.set_set, app_set] <;> omega) (by simp (disch := omega) [List.set_set, app_set]) ?_
   refine gPk AWP_ref (k := r11.1.Mem.length) (o := (N0 + 55)) (ob := ⟨26, 3, [[.osl 3 1 (encL rI r11.1.Regs), .int .i64 r11.1.Pc, .sl o2 0 r11.1.Mem.length]]⟩) (row := [.osl 3 1 (encL rI r11.1.Regs), .int .i64 r11.1.Pc, .sl o2 0 r11.1.Mem.length]) (d := o2) (obd := ⟨3, 1, encL rI r11.1.Mem⟩) (r := 0) (i := 2) [(N0 + 44, some ⟨26, 3, [[.osl 3 1 (encL rI l13), .int .i64 0, .fsl (encL rI r9)]]⟩), (N0 + 55, some ⟨26, 3, [[.osl 3 1 (encL rI r11.1.Regs), .int .i64 r11.1.Pc, .osl 3 1 (encL rI r11.1.Mem)]]⟩)] (by simp (disch := omega)) rfl rfl (by simp (disch := omega)) (by simp (disch := omega)) (by first | omega | simp) (by simp (disch := omega) [List.set_set, app_set] <;> omega) (by simp (disch := omega) [List.set_set, app_set]) ?_
   refine gUnp AWP_ref (ty := 3) (sz := 1) (es := encL rI r11.1.Regs) (o := (N0 + 55)) (ob := ⟨26, 3, [[.osl 3 1 (encL rI r11.1.Regs), .int .i64 r11.1.Pc, .osl 3 1 (encL rI r11.1.Mem)]]⟩) (row := [.osl 3 1 (encL rI r11.1.Regs), .int .i64 r11.1.Pc, .osl 3 1 (encL rI r11.1.Mem)]) (r := 0) (i := 0) [(N0 + 44, some ⟨26, 3, [[.osl 3 1 (encL rI l13), .int .i64 0, .fsl (encL rI r9)]]⟩), (N0 + 55, some ⟨26, 3, [[.sl (M1 + 6) 0 r11.1.Regs.length, .int .i64 r11.1.Pc, .osl 3 1 (encL rI r11.1.Mem)]]⟩), (M1 + 6, some ⟨3, 1, encL rI r11.1.Regs⟩)] (by simp (disch := omega)) rfl rfl (by simp (disch := omega) [List.set_set]) ?_
   refine gUnp AWP_ref (ty := 3) (sz := 1) (es := encL rI l13) (o := (N0 + 44)) (ob := ⟨26, 3, [[.osl 3 1 (encL rI l13), .int .i64 0, .fsl (encL rI r9)]]⟩) (row := [.osl 3 1 (encL rI l13), .int .i64 0, .fsl (encL rI r9)]) (r := 0) (i := 0) [(N0 + 44, some ⟨26, 3, [[.sl (M1 + 7) 0 l13.length, .int .i64 0, .fsl (encL rI r9)]]⟩), (N0 + 55, some ⟨26, 3, [[.sl (M1 + 6) 0 r11.1.Regs.length, .int .i64 r11.1.Pc, .osl 3 1 (encL rI r11.1.Mem)]]⟩), (M1 + 6, some ⟨3, 1, encL rI r11.1.Regs⟩), (M1 + 7, some ⟨3, 1, encL rI l13⟩)] (by simp (disch := omega)) rfl rfl (by simp (disch := omega) [List.set_set]) ?_
   obtain ⟨g18, hg18, H⟩ := bindE H
   obtain ⟨g20, hg20, H⟩ := bindE H
   obtain ⟨g22, hg22, H⟩ := bindE H
   refine AWP_sr tok [] [2] (fun a σ => a = [(2, .bool g22)] ∧ σ = hp E0 [(N0 + 44, some ⟨26, 3, [[.sl (M1 + 7) 0 l13.length, .int .i64 0, .fsl (encL rI r9)]]⟩), (N0 + 55, some ⟨26, 3, [[.sl (M1 + 6) 0 r11.1.Regs.length, .int .i64 r11.1.Pc, .osl 3 1 (encL rI r11.1.Mem)]]⟩), (M1 + 6, some ⟨3, 1, encL rI r11.1.Regs⟩), (M1 + 7, some ⟨3, 1, encL rI l13⟩)] (M1 + 34)) (fun K hK => ?_) ?_
   ·
    skip
    have e0 := nq (a := N0 + 44) (b := M1 + 6) (by omega)
    have e1 := nq (a := N0 + 38) (b := M1) (by omega)
    have e2 := nq (a := N0 + 44) (b := M1 + 7) (by omega)
    have e3 := nq (a := N0 + 37) (b := M1) (by omega)
    have e4 := nq (a := N0 + 55) (b := M1 + 6) (by omega)
    have e5 := nq (a := N0 + 49) (b := M1) (by omega)
    have e6 := nq (a := N0 + 55) (b := M1 + 7) (by omega)
    have e7 := nq (a := N0 + 48) (b := M1) (by omega)
    simp -dsimp -implicitDefEqProofs (maxDischargeDepth := 6) [e0, e1, e2, e3, e4, e5, e6, e7]
    cases hbg18 : ieq r11.2.1 (ilen r2.1)
    ·
     replace hg18 := ifF hbg18 hg18
     replace hg18 := Option.some.inj hg18; subst hg18
     try simp -dsimp -implicitDefEqProofs (maxDischargeDepth := 6) [e0, e1, e2, e3, e4, e5, e6, e7, hbg18]
     replace hg20 := ifF rfl hg20
     replace hg20 := Option.some.inj hg20; subst hg20
     try simp -dsimp -implicitDefEqProofs (maxDischargeDepth := 6) [e0, e1, e2, e3, e4, e5, e6, e7, hbg18]
     replace hg22 := ifF rfl hg22
     replace hg22 := Option.some.inj hg22; subst hg22
     try simp -dsimp -implicitDefEqProofs (maxDischargeDepth := 6) [e0, e1, e2, e3, e4, e5, e6, e7, hbg18]
     exact hK _ _ ⟨rfl, rfl⟩
    ·
     replace hg18 := ifT hbg18 hg18
     replace hg18 := Option.some.inj hg18; subst hg18
     try simp -dsimp -implicitDefEqProofs (maxDischargeDepth := 6) [e0, e1, e2, e3, e4, e5, e6, e7, hbg18]
     cases hbg20 : (ieq r11.2.2 1)
     ·
      replace hg20 := ifF hbg20 hg20
      replace hg20 := Option.some.inj hg20; subst hg20
      try simp -dsimp -implicitDefEqProofs (maxDischargeDepth := 6) [e0, e1, e2, e3, e4, e5, e6, e7, hbg18, hbg20]
      replace hg22 := ifF rfl hg22
      replace hg22 := Option.some.inj hg22; subst hg22
      try simp -dsimp -implicitDefEqProofs (maxDischargeDepth := 6) [e0, e1, e2, e3, e4, e5, e6, e7, hbg18, hbg20]
      exact hK _ _ ⟨rfl, rfl⟩
     ·
      replace hg20 := ifT hbg20 hg20
      obtain ⟨v19, hv19, hg20⟩ := bindE hg20
      replace hg20 := Option.some.inj hg20; subst hg20
      try simp -dsimp -implicitDefEqProofs (maxDischargeDepth := 6) [e0, e1, e2, e3, e4, e5, e6, e7, hbg18, hbg20, ixo24 hv19, (idx_lt3 hv19).2.2]
      cases hbg22 : (ieq v19 r1.2)
      ·
       replace hg22 := ifF hbg22 hg22
       replace hg22 := Option.some.inj hg22; subst hg22
       try simp -dsimp -implicitDefEqProofs (maxDischargeDepth := 6) [e0, e1, e2, e3, e4, e5, e6, e7, hbg18, hbg20, ixo24 hv19, (idx_lt3 hv19).2.2, hbg22]
       exact hK _ _ ⟨rfl, rfl⟩
      ·
       replace hg22 := ifT hbg22 hg22
       obtain ⟨r21, hr21, hg22⟩ := bindE hg22
       replace hg22 := Option.some.inj hg22; subst hg22
       try simp -dsimp -implicitDefEqProofs (maxDischargeDepth := 6) [e0, e1, e2, e3, e4, e5, e6, e7, hbg18, hbg20, ixo24 hv19, (idx_lt3 hv19).2.2, hbg22]
       refine (borrow 8 (c34 hr21) (by simp [e0, e1, e2, e3, e4, e5, e6, e7, hbg18, hbg20, ixo24 hv19, (idx_lt3 hv19).2.2, hbg22]) rfl).mono ?_; rintro _ _ ⟨rfl, rfl⟩; try simp -dsimp -implicitDefEqProofs (maxDischargeDepth := 6) [e0, e1, e2, e3, e4, e5, e6, e7, hbg18, hbg20, ixo24 hv19, (idx_lt3 hv19).2.2, hbg22]
       exact hK _ _ ⟨rfl, rfl⟩
   rintro a σ ⟨rfl, rfl⟩
   replace H := Option.some.inj H; subst H
   refine AWP_kp [2] [(2, .bool g22)] rfl ?_
   have z0 := nq (a := N0 + 44) (b := M1 + 6) (by omega)
   have z1 := nq (a := N0 + 38) (b := M1) (by omega)
   have z2 := nq (a := N0 + 44) (b := M1 + 7) (by omega)
   have z3 := nq (a := N0 + 37) (b := M1) (by omega)
   have z4 := nq (a := N0 + 55) (b := M1 + 6) (by omega)
   have z5 := nq (a := N0 + 49) (b := M1) (by omega)
   have z6 := nq (a := N0 + 55) (b := M1 + 7) (by omega)
   have z7 := nq (a := N0 + 48) (b := M1) (by omega)
   refine AWP_ret ?_
   exact ⟨[.bool g22], by simp [z0, z1, z2, z3, z4, z5, z6, z7], 4, by simp [encL_nil, z0, z1, z2, z3, z4, z5, z6, z7]⟩
end Go.Proofs.YtoklfbdcghgmlaaDoor
